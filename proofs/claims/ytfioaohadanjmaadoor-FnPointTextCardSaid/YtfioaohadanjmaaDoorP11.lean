import Derived.Test.YtfioaohadanjmaaDoorP09
import Derived.Test.YtfioaohadanjmaaDoorP10
set_option linter.unusedVariables false

/- l1Parse. -/
namespace Go.Proofs.YtfioaohadanjmaaDoor
open Go.RowKit

theorem res_box {P : Program} {fn : Func} {p u : Tmp} {ty : TypeId} (h : fn.results = #[.cell p ty, .tmp u]) (tmps : Array Value) (w : World) (g : Nat) (t : TypeId) (cs : Array Value) (fr : Nat × Nat) (d : TypeDesc)
    (hp : tmps.getD p undef = .pointer (some ⟨g, 0, none⟩)) (hg : w.heap[g]? = some (.cells cs t fr))
    (hu : P.underlying ty = some d) (hd : (match d with | .struct _ | .array _ _ => true | _ => false) = true) (hi : (P.info? ty).map (·.size) = some cs.size) :
    (results fn tmps).run P w = .ok (.tuple #[.agg cs, tmps.getD u undef]) w := by
  rw [results_cell_tmp h, hp]
  simp [asAddr, run_loadVar_row w g t ty cs fr d hg hu hd hi, Result.andThen]
theorem stm_close {s : ByteArray} {w w3 W : World} {i op x y n next : Int} {tv ev : Value} {th el : List St} (h3 : Below w.heap.size w w3) (hs : w.heap.size < w3.heap.size) (hW : w3.grownBy W (some w.heap.size))
    (hT : StX w3 (fun b => w.heap.size + 1 ≤ b) tv th) (hE : StX w3 (fun b => w.heap.size + 1 ≤ b) ev el) (hn : next = -1 ∨ (i + 1 + szL th + szL el ≤ next ∧ next ≤ s.size + 10)) :
    StmRet s i w (.returned (.tuple #[.agg #[.int .i64 op, .int .i64 x, .int .i64 y, .int .i64 n, tv, ev], .int .i64 next])) W := by
  have hk : ∀ b, w.heap.size + 1 ≤ b → b < w3.heap.size → w.heap.size ≤ b ∧ W.heap[b]? = w3.heap[b]? := fun b hb hl => ⟨by omega, hW.block b hl (fun e => by injection e with e; omega)⟩
  have hbl : Below w.heap.size w3 W := ⟨hW.os, hW.tape, hW.output, hW.size, fun k hk => hW.block k (by omega) (fun e => by injection e with e; omega)⟩
  exact ⟨op, x, y, n, tv, ev, th, el, next, rfl, hT.frame hW.size hk, hE.frame hW.size hk, hn, h3.trans hbl⟩
theorem stm_close0 {s : ByteArray} {w : World} {i op x y n next : Int} (o : Obj) (hn : next = -1 ∨ (i + 1 ≤ next ∧ next ≤ s.size + 10)) :
    StmRet s i w (.returned (.tuple #[.agg #[.int .i64 op, .int .i64 x, .int .i64 y, .int .i64 n, .slice none 0 0, .slice none 0 0], .int .i64 next])) (w.alloc o) :=
  ⟨op, x, y, n, _, _, [], [], next, rfl, StX.nil _ _, StX.nil _ _, hn.imp id fun h => ⟨by simp only [szL]; omega, h.2⟩, bel_a _ _⟩

set_option maxHeartbeats 16000000 in
set_option maxRecDepth 100000 in
theorem paOk (d : Int) (h0 : 0 ≤ d) (h1 : d ≤ 100) (hb' : BrOk (d - 1)) : PaOk d := by
  intro s i w hs hi0 hi1
  have HROW := Lib.hid (heap_alloc_new w (.cells #[.int .i64 0, .int .i64 0, .int .i64 0, .int .i64 0, .slice none 0 0, .slice none 0 0] 47))
  have z0 : (w.alloc (.cells #[.int .i64 0, .int .i64 0, .int .i64 0, .int .i64 0, .slice none 0 0, .slice none 0 0] 47)).cell? ⟨w.heap.size, 0, none⟩ = some (.int .i64 0) := by rw [cell_of_row _ _ _ _ _ _ HROW.out]; rfl
  have y0 : (w.alloc (.cells #[.int .i64 0, .int .i64 0, .int .i64 0, .int .i64 0, .slice none 0 0, .slice none 0 0] 47)).frozen? ⟨w.heap.size, 0, none⟩ = false := frozen_of_row _ _ 0 _ _ HROW.out
  have z1 : (w.alloc (.cells #[.int .i64 0, .int .i64 0, .int .i64 0, .int .i64 0, .slice none 0 0, .slice none 0 0] 47)).cell? ⟨w.heap.size, 1, none⟩ = some (.int .i64 0) := by rw [cell_of_row _ _ _ _ _ _ HROW.out]; rfl
  have y1 : (w.alloc (.cells #[.int .i64 0, .int .i64 0, .int .i64 0, .int .i64 0, .slice none 0 0, .slice none 0 0] 47)).frozen? ⟨w.heap.size, 1, none⟩ = false := frozen_of_row _ _ 1 _ _ HROW.out
  have z2 : (w.alloc (.cells #[.int .i64 0, .int .i64 0, .int .i64 0, .int .i64 0, .slice none 0 0, .slice none 0 0] 47)).cell? ⟨w.heap.size, 2, none⟩ = some (.int .i64 0) := by rw [cell_of_row _ _ _ _ _ _ HROW.out]; rfl
  have y2 : (w.alloc (.cells #[.int .i64 0, .int .i64 0, .int .i64 0, .int .i64 0, .slice none 0 0, .slice none 0 0] 47)).frozen? ⟨w.heap.size, 2, none⟩ = false := frozen_of_row _ _ 2 _ _ HROW.out
  have z3 : (w.alloc (.cells #[.int .i64 0, .int .i64 0, .int .i64 0, .int .i64 0, .slice none 0 0, .slice none 0 0] 47)).cell? ⟨w.heap.size, 3, none⟩ = some (.int .i64 0) := by rw [cell_of_row _ _ _ _ _ _ HROW.out]; rfl
  have y3 : (w.alloc (.cells #[.int .i64 0, .int .i64 0, .int .i64 0, .int .i64 0, .slice none 0 0, .slice none 0 0] 47)).frozen? ⟨w.heap.size, 3, none⟩ = false := frozen_of_row _ _ 3 _ _ HROW.out
  have z4 : (w.alloc (.cells #[.int .i64 0, .int .i64 0, .int .i64 0, .int .i64 0, .slice none 0 0, .slice none 0 0] 47)).cell? ⟨w.heap.size, 4, none⟩ = some (.slice none 0 0) := by rw [cell_of_row _ _ _ _ _ _ HROW.out]; rfl
  have y4 : (w.alloc (.cells #[.int .i64 0, .int .i64 0, .int .i64 0, .int .i64 0, .slice none 0 0, .slice none 0 0] 47)).frozen? ⟨w.heap.size, 4, none⟩ = false := frozen_of_row _ _ 4 _ _ HROW.out
  have z5 : (w.alloc (.cells #[.int .i64 0, .int .i64 0, .int .i64 0, .int .i64 0, .slice none 0 0, .slice none 0 0] 47)).cell? ⟨w.heap.size, 5, none⟩ = some (.slice none 0 0) := by rw [cell_of_row _ _ _ _ _ _ HROW.out]; rfl
  have y5 : (w.alloc (.cells #[.int .i64 0, .int .i64 0, .int .i64 0, .int .i64 0, .slice none 0 0, .slice none 0 0] 47)).frozen? ⟨w.heap.size, 5, none⟩ = false := frozen_of_row _ _ 5 _ _ HROW.out
  go_enter Tryd.func50, Tryd.ntmps50
  go_wp2_with fail
  refine (at_any s _ i _ hs (by decide) (by omega) (by omega)).mono ?_
  rintro e w1 ⟨b, rfl, rfl, hb⟩
  clear hb
  cases b
  · go_wp2_with fail
    refine (at_any s _ i _ hs (by decide) (by omega) (by omega)).mono ?_
    rintro e w1 ⟨b, rfl, rfl, hb⟩
    clear hb
    cases b
    · go_wp2_with fail
      refine (at_any s _ i _ hs (by decide) (by omega) (by omega)).mono ?_
      rintro e w1 ⟨b, rfl, rfl, hb⟩
      clear hb
      cases b
      · go_wp2_with fail
        refine (at_any s _ i _ hs (by decide) (by omega) (by omega)).mono ?_
        rintro e w1 ⟨b, rfl, rfl, hb⟩
        clear hb
        cases b
        · go_wp2_with fail
          refine (var_any s _ _ hs (by omega) (by omega)).mono ?_
          rintro e w1 ⟨nvar, rfl, rfl, hlo, hhi⟩
          by_cases hx0 : nvar < 0
          · go_wp2_with fail
            exact bodyPost_ret (res_box rfl _ _ w.heap.size 47 _ (0, 0) _ rfl (heap_alloc_new w _) Tryd.underlying47 rfl rfl) rfl (stm_close0 _ (.inl rfl))
          · go_wp2_with fail
            refine (at_any s _ _ _ hs (by decide) (by omega) (by omega)).mono ?_
            rintro e w1 ⟨b, rfl, rfl, hb⟩
            clear hb
            cases b
            · go_wp2_with fail
              exact bodyPost_ret (res_box rfl _ _ w.heap.size 47 _ (0, 0) _ rfl (heap_alloc_new w _) Tryd.underlying47 rfl rfl) rfl (stm_close0 _ (.inl rfl))
            · go_wp2_with fail
              refine (at_any s _ _ _ hs (by decide) (by omega) (by omega)).mono ?_
              rintro e w1 ⟨b, rfl, rfl, hb⟩
              clear hb
              cases b
              · go_wp2_with fail
                refine (at_any s _ _ _ hs (by decide) (by omega) (by omega)).mono ?_
                rintro e w1 ⟨b, rfl, rfl, hb⟩
                clear hb
                cases b
                · go_wp2_with fail
                  refine (at_any s _ _ _ hs (by decide) (by omega) (by omega)).mono ?_
                  rintro e w1 ⟨b, rfl, rfl, hb⟩
                  clear hb
                  cases b
                  · go_wp2_with fail
                    refine (at_any s _ _ _ hs (by decide) (by omega) (by omega)).mono ?_
                    rintro e w1 ⟨b, rfl, rfl, hb⟩
                    clear hb
                    cases b
                    · go_wp2_with fail
                      refine (digit_any s _ _ hs (by omega) (by omega)).mono ?_
                      rintro e w1 ⟨ndigit, rfl, rfl, hlo, hhi⟩
                      by_cases hdg : 0 ≤ ndigit
                      · go_wp2_with fail
                        refine (digit_any s _ _ hs (by omega) (by omega)).mono ?_
                        rintro e w1 ⟨nd2, rfl, rfl, hlo, hhi⟩
                        go_wp2_with fail
                        exact bodyPost_ret (res_box rfl _ _ w.heap.size 47 _ (0, 0) _ rfl (heap_alloc_new w _) Tryd.underlying47 rfl rfl) rfl (stm_close0 _ (.inr (by omega)))
                      · go_wp2_with fail
                        refine (var_any s _ _ hs (by omega) (by omega)).mono ?_
                        rintro e w1 ⟨ny, rfl, rfl, hlo, hhi⟩
                        go_wp2_with fail
                        exact bodyPost_ret (res_box rfl _ _ w.heap.size 47 _ (0, 0) _ rfl (heap_alloc_new w _) Tryd.underlying47 rfl rfl) rfl (stm_close0 _ (.inr (by omega)))
                    · go_wp2_with fail
                      refine (var_any s _ _ hs (by omega) (by omega)).mono ?_
                      rintro e w1 ⟨ny, rfl, rfl, hlo, hhi⟩
                      go_wp2_with fail
                      exact bodyPost_ret (res_box rfl _ _ w.heap.size 47 _ (0, 0) _ rfl (heap_alloc_new w _) Tryd.underlying47 rfl rfl) rfl (stm_close0 _ (.inr (by omega)))
                  · go_wp2_with fail
                    refine (var_any s _ _ hs (by omega) (by omega)).mono ?_
                    rintro e w1 ⟨ny, rfl, rfl, hlo, hhi⟩
                    go_wp2_with fail
                    exact bodyPost_ret (res_box rfl _ _ w.heap.size 47 _ (0, 0) _ rfl (heap_alloc_new w _) Tryd.underlying47 rfl rfl) rfl (stm_close0 _ (.inr (by omega)))
                · go_wp2_with fail
                  refine (var_any s _ _ hs (by omega) (by omega)).mono ?_
                  rintro e w1 ⟨ny, rfl, rfl, hlo, hhi⟩
                  go_wp2_with fail
                  exact bodyPost_ret (res_box rfl _ _ w.heap.size 47 _ (0, 0) _ rfl (heap_alloc_new w _) Tryd.underlying47 rfl rfl) rfl (stm_close0 _ (.inr (by omega)))
              · go_wp2_with fail
                refine (digit_any s _ _ hs (by omega) (by omega)).mono ?_
                rintro e w1 ⟨ndigit, rfl, rfl, hlo, hhi⟩
                go_wp2_with fail
                exact bodyPost_ret (res_box rfl _ _ w.heap.size 47 _ (0, 0) _ rfl (heap_alloc_new w _) Tryd.underlying47 rfl rfl) rfl (stm_close0 _ (.inr (by omega)))
        · go_wp2_with fail
          refine (var_any s _ _ hs (by omega) (by omega)).mono ?_
          rintro e w1 ⟨nvar, rfl, rfl, hlo, hhi⟩
          go_wp2_with fail
          refine (var_any s _ _ hs (by omega) (by omega)).mono ?_
          rintro e w1 ⟨ny, rfl, rfl, hlo, hhi⟩
          go_wp2_with fail
          exact bodyPost_ret (res_box rfl _ _ w.heap.size 47 _ (0, 0) _ rfl (heap_alloc_new w _) Tryd.underlying47 rfl rfl) rfl (stm_close0 _ (.inr (by omega)))
      · go_wp2_with fail
        refine (hb' s _ _ hs (by omega) (by omega)).mono ?_
        rintro e w2 ⟨v, l, mid, rfl, hx, hn, hbl⟩
        obtain ⟨A6, c6, rfl, -⟩ := hx.slice
        have HX := Lib.hid hx
        have HN := Lib.hid hn
        have hm0 : -1 ≤ mid := by omega
        have hm1 : mid ≤ s.size := by omega
        have HB := Lib.hid ((bel_a w (.cells #[.int .i64 0, .int .i64 0, .int .i64 0, .int .i64 0, .slice none 0 0, .slice none 0 0] 47)).trans (hbl.mono (by simp)))
        have hsz := hbl.size
        simp at hsz
        have HROW2 := Lib.hid ((hbl.block w.heap.size (by simp)).trans HROW.out)
        clear hx hn hbl z0 z1 z2 z3 z4 z5 y0 y1 y2 y3 y4 y5
        go_wp2_with fail
        refine (hb' s mid _ hs (by omega) (by omega)).mono ?_
        rintro e w3 ⟨v, l', next, rfl, hx', hn', hbl'⟩
        obtain ⟨A7, c7, rfl, -⟩ := hx'.slice
        have HX' := Lib.hid hx'
        have HN' := Lib.hid hn'
        have hsz' := hbl'.size
        have HXX := Lib.hid (HX.out.frame (w' := w3) (P' := fun b => w.heap.size + 1 ≤ b) hsz' fun b hb hl => ⟨by simp at hb; omega, hbl'.block b hl⟩)
        have HB' := Lib.hid (HB.out.trans (hbl'.mono (by omega)))
        have HROW3 := Lib.hid ((hbl'.block w.heap.size (by omega)).trans HROW2.out)
        clear hx' hn' hbl'
        have z0 : w3.cell? ⟨w.heap.size, 0, none⟩ = some (.int .i64 0) := by rw [cell_of_row _ _ _ _ _ _ HROW3.out]; rfl
        have y0 : w3.frozen? ⟨w.heap.size, 0, none⟩ = false := frozen_of_row _ _ 0 _ _ HROW3.out
        have z1 : w3.cell? ⟨w.heap.size, 1, none⟩ = some (.int .i64 0) := by rw [cell_of_row _ _ _ _ _ _ HROW3.out]; rfl
        have y1 : w3.frozen? ⟨w.heap.size, 1, none⟩ = false := frozen_of_row _ _ 1 _ _ HROW3.out
        have z2 : w3.cell? ⟨w.heap.size, 2, none⟩ = some (.int .i64 0) := by rw [cell_of_row _ _ _ _ _ _ HROW3.out]; rfl
        have y2 : w3.frozen? ⟨w.heap.size, 2, none⟩ = false := frozen_of_row _ _ 2 _ _ HROW3.out
        have z3 : w3.cell? ⟨w.heap.size, 3, none⟩ = some (.int .i64 0) := by rw [cell_of_row _ _ _ _ _ _ HROW3.out]; rfl
        have y3 : w3.frozen? ⟨w.heap.size, 3, none⟩ = false := frozen_of_row _ _ 3 _ _ HROW3.out
        have z4 : w3.cell? ⟨w.heap.size, 4, none⟩ = some (.slice none 0 0) := by rw [cell_of_row _ _ _ _ _ _ HROW3.out]; rfl
        have y4 : w3.frozen? ⟨w.heap.size, 4, none⟩ = false := frozen_of_row _ _ 4 _ _ HROW3.out
        have z5 : w3.cell? ⟨w.heap.size, 5, none⟩ = some (.slice none 0 0) := by rw [cell_of_row _ _ _ _ _ _ HROW3.out]; rfl
        have y5 : w3.frozen? ⟨w.heap.size, 5, none⟩ = false := frozen_of_row _ _ 5 _ _ HROW3.out
        go_wp2_with fail
        refine bodyPost_ret (res_box rfl _ _ w.heap.size 47 _ (0, 0) _ rfl (box6 HROW3.out _ _ _ _ _ _).1 Tryd.underlying47 rfl rfl) rfl (stm_close HB'.out (by omega) (box6 HROW3.out _ _ _ _ _ _).2 HXX.out (HX'.out.frame (Nat.le_refl _) fun b hb _ => ⟨by omega, rfl⟩) (by rcases HN'.out with ⟨h1, _⟩ | ⟨h0, h1, h2⟩ <;> rcases HN.out with ⟨h3, _⟩ | ⟨_, h3, h4⟩ <;> omega))
    · go_wp2_with fail
      refine (hb' s _ _ hs (by omega) (by omega)).mono ?_
      rintro e w2 ⟨v, l, next, rfl, hx, hn, hbl⟩
      obtain ⟨A6, c6, rfl, -⟩ := hx.slice
      have HX := Lib.hid hx
      have HN := Lib.hid hn
      have HB := Lib.hid ((bel_a w (.cells #[.int .i64 0, .int .i64 0, .int .i64 0, .int .i64 0, .slice none 0 0, .slice none 0 0] 47)).trans (hbl.mono (by simp)))
      have hsz := hbl.size
      simp at hsz
      have HROW2 := Lib.hid ((hbl.block w.heap.size (by simp)).trans HROW.out)
      clear hx hn hbl z0 z1 z2 z3 z4 z5 y0 y1 y2 y3 y4 y5
      have z0 : w2.cell? ⟨w.heap.size, 0, none⟩ = some (.int .i64 0) := by rw [cell_of_row _ _ _ _ _ _ HROW2.out]; rfl
      have y0 : w2.frozen? ⟨w.heap.size, 0, none⟩ = false := frozen_of_row _ _ 0 _ _ HROW2.out
      have z1 : w2.cell? ⟨w.heap.size, 1, none⟩ = some (.int .i64 0) := by rw [cell_of_row _ _ _ _ _ _ HROW2.out]; rfl
      have y1 : w2.frozen? ⟨w.heap.size, 1, none⟩ = false := frozen_of_row _ _ 1 _ _ HROW2.out
      have z2 : w2.cell? ⟨w.heap.size, 2, none⟩ = some (.int .i64 0) := by rw [cell_of_row _ _ _ _ _ _ HROW2.out]; rfl
      have y2 : w2.frozen? ⟨w.heap.size, 2, none⟩ = false := frozen_of_row _ _ 2 _ _ HROW2.out
      have z3 : w2.cell? ⟨w.heap.size, 3, none⟩ = some (.int .i64 0) := by rw [cell_of_row _ _ _ _ _ _ HROW2.out]; rfl
      have y3 : w2.frozen? ⟨w.heap.size, 3, none⟩ = false := frozen_of_row _ _ 3 _ _ HROW2.out
      have z4 : w2.cell? ⟨w.heap.size, 4, none⟩ = some (.slice none 0 0) := by rw [cell_of_row _ _ _ _ _ _ HROW2.out]; rfl
      have y4 : w2.frozen? ⟨w.heap.size, 4, none⟩ = false := frozen_of_row _ _ 4 _ _ HROW2.out
      have z5 : w2.cell? ⟨w.heap.size, 5, none⟩ = some (.slice none 0 0) := by rw [cell_of_row _ _ _ _ _ _ HROW2.out]; rfl
      have y5 : w2.frozen? ⟨w.heap.size, 5, none⟩ = false := frozen_of_row _ _ 5 _ _ HROW2.out
      go_wp2_with fail
      refine bodyPost_ret (res_box rfl _ _ w.heap.size 47 _ (0, 0) _ rfl (box6 HROW2.out _ _ _ _ _ _).1 Tryd.underlying47 rfl rfl) rfl (stm_close HB.out (by omega) (box6 HROW2.out _ _ _ _ _ _).2 (HX.out.frame (Nat.le_refl _) fun b hb _ => ⟨by simp at hb; omega, rfl⟩) (StX.nil _ _) (by rcases HN.out with ⟨h1, _⟩ | ⟨_, h1, h2⟩ <;> simp only [szL] <;> omega))
  · go_wp2_with fail
    refine (var_any s _ _ hs (by omega) (by omega)).mono ?_
    rintro e w1 ⟨nvar, rfl, rfl, hlo, hhi⟩
    go_wp2_with fail
    exact bodyPost_ret (res_box rfl _ _ w.heap.size 47 _ (0, 0) _ rfl (heap_alloc_new w _) Tryd.underlying47 rfl rfl) rfl (stm_close0 _ (.inr (by omega)))

end Go.Proofs.YtfioaohadanjmaaDoor

/- l1ParseList closed; spec.ParseProgram. -/
namespace Go.Proofs.YtfioaohadanjmaaDoor
open Go.RowKit

theorem lstOk_nat (n : Nat) (hn : n ≤ 100) : LstOk (n : Int) := by
  induction n with
  | zero =>
    refine lstOk _ (by omega) (by omega) (paOk _ (by omega) (by omega) (brOk _ (by omega) (by omega) fun h => ?_))
    exact absurd h (by omega)
  | succ n ih =>
    refine lstOk _ (by omega) (by omega) (paOk _ (by omega) (by omega) (brOk _ (by omega) (by omega) fun _ => ?_))
    have e : ((n + 1 : Nat) : Int) - 1 = (n : Nat) := by omega
    rw [e]
    exact ih (by omega)

/-- The slice value v reads as the ints l, in a block of P. -/
def IntX (w : World) (P : Nat → Prop) (v : Value) (l : List Int) : Prop :=
  ∃ A c, v = .slice A l.length c ∧ l.length ≤ c ∧ l.length ≤ 4194304 ∧ (0 < l.length → ∃ b off, A = some ⟨b, off, none⟩ ∧ P b ∧ b < w.heap.size ∧ ∀ j, j < l.length → w.cell? ⟨b, off + j, none⟩ = some (.int .i64 (l.getD j 0)))
theorem IntX.nil (w : World) (P : Nat → Prop) : IntX w P (.slice none 0 0) [] := ⟨none, 0, rfl, Nat.le_refl _, by simp, fun h => absurd h (by simp)⟩
theorem IntX.frame {w w' : World} {P P' : Nat → Prop} {v : Value} {l : List Int} (h : IntX w P v l) (hs : w.heap.size ≤ w'.heap.size) (hk : ∀ b, P b → b < w.heap.size → P' b ∧ w'.heap[b]? = w.heap[b]?) : IntX w' P' v l := by
  obtain ⟨A, c, e, h1, h2, h3⟩ := h
  refine ⟨A, c, e, h1, h2, fun hn => ?_⟩
  obtain ⟨b, off, e, hb, hlt, hc⟩ := h3 hn
  obtain ⟨k1, k2⟩ := hk b hb hlt
  exact ⟨b, off, e, k1, by omega, fun j hj => (World.cell?_of_block (w := w) (a := ⟨b, _, none⟩) k2).trans (hc j hj)⟩
theorem IntX.toS {w : World} {P : Nat → Prop} {v : Value} {l : List Int} (h : IntX w P v l) : IntS w w.heap.size v l := by
  obtain ⟨A, c, e, h1, h2, h3⟩ := h
  refine ⟨A, c, e, h1, h2, by simp, fun hn => ?_⟩
  obtain ⟨b, off, e, hb, hlt, hc⟩ := h3 hn
  refine ⟨b, off, e, hlt, fun j u hu => ?_⟩
  rw [List.getElem?_map] at hu
  rcases Nat.lt_or_ge j l.length with hj | hj
  · rw [List.getElem?_eq_getElem hj] at hu
    simp at hu
    rw [hc j hj, getD_lt hj, hu]
  · rw [List.getElem?_eq_none hj] at hu; cases hu
theorem IntX.slice {w : World} {P : Nat → Prop} {v : Value} {l : List Int} (h : IntX w P v l) : ∃ A c, v = .slice A l.length c ∧ l.length ≤ c := by
  obtain ⟨A, c, e, h1, h2, h3⟩ := h
  exact ⟨A, c, e, h1⟩
theorem OInts.toX {w : World} {base : Nat} {v : Value} {l : List Int} (h : OInts w base v l) (hl : l.length ≤ 4194304) : IntX w (fun b => base ≤ b) v l := by
  have hs := h.toS hl
  rcases h.2 with ⟨rfl, h0⟩ | ⟨g, cap, cur, rfl, hb, hh, hc, _⟩
  · have : l = [] := List.length_eq_zero_iff.1 h0
    subst this
    exact IntX.nil _ _
  · refine ⟨_, _, rfl, hc, hl, fun hn => ⟨g, 0, rfl, hb, ?_, fun j hj => ?_⟩⟩
    · rcases Nat.lt_or_ge g w.heap.size with hlt | hge
      · exact hlt
      · rw [Array.getElem?_eq_none hge] at hh; cases hh
    · obtain ⟨A', c', e', _, _, hr⟩ := hs
      injection e' with e1
      obtain ⟨b, off, e2, _, hcell⟩ := hr.int_at hn
      rw [e2] at e1
      injection e1 with e1
      injection e1 with e1 e3
      subst e1 e3
      exact hcell j hj

theorem OInts.other {w : World} {base g : Nat} {v : Value} {l : List Int} (h : OInts w base v l) (hg : g < base) (i : Nat) (u : Value) : OInts (w.setCell ⟨g, i, none⟩ u) base v l := by
  refine h.kept (grown_set w g i u) ?_
  rcases h.2 with ⟨rfl, _⟩ | ⟨g', cap, cur, rfl, hb, _⟩
  · exact .inl rfl
  · refine .inr ?_
    simp only [Value.ownBlock]
    intro e
    injection e with e
    omega

/-- the letters of the types are read up to k: the box of the program lies at g + 1, that of the result at g -/
def TyI (w : World) (g : Nat) (k : Nat) (wr : World) : Prop :=
  ∃ (v : Value) (l : List Int), l.length = k ∧ OInts wr (g + 2) v l ∧ wr.heap[g]? = some (.cells #[.slice none 0 0, .slice none 0 0] 29 (0, 0)) ∧ wr.heap[g + 1]? = some (.cells #[v, .slice none 0 0] 29 (0, 0)) ∧ Below w.heap.size w wr

def ParRet (w : World) (e : Ending) (w' : World) : Prop :=
  ∃ (vt vb : Value) (ts : List Int) (l : List St) (ok : Bool), e = .returned (.tuple #[.agg #[vt, vb], .bool ok]) ∧ IntX w' (fun b => w.heap.size ≤ b) vt ts ∧ StX w' (fun b => w.heap.size ≤ b) vb l ∧ ts.length ≤ 600 ∧ szL l ≤ 600 ∧ Below w.heap.size w w'

theorem box2 {w : World} {b : Nat} {t : TypeId} {v0 v1 : Value} (h : w.heap[b]? = some (.cells #[v0, v1] t (0, 0))) (u0 u1 : Value) :
    ((w.setCell ⟨b, 0, none⟩ u0).setCell ⟨b, 1, none⟩ u1).heap[b]? = some (.cells #[u0, u1] t (0, 0)) ∧ w.grownBy ((w.setCell ⟨b, 0, none⟩ u0).setCell ⟨b, 1, none⟩ u1) (some b) := by
  refine ⟨?_, grown_tr (grown_set w b 0 u0) (grown_set _ b 1 u1)⟩
  have h1 := heap_setCell_same w b 0 _ _ u0 h
  have h2 := heap_setCell_same _ b 1 _ _ u1 h1
  rw [h2]; rfl
/-- the end: the result's box lies at g -/
theorem par_close {w w3 W : World} {g : Nat} {vt vb : Value} {ts : List Int} {l : List St} {ok : Bool} (hg : g = w.heap.size) (h3 : Below w.heap.size w w3) (hW : w3.grownBy W (some g))
    (hT : IntX w3 (fun b => g + 1 ≤ b) vt ts) (hB : StX w3 (fun b => g + 1 ≤ b) vb l) (ht : ts.length ≤ 600) (hl : szL l ≤ 600) :
    ParRet w (.returned (.tuple #[.agg #[vt, vb], .bool ok])) W := by
  subst hg
  have hk : ∀ b, w.heap.size + 1 ≤ b → b < w3.heap.size → w.heap.size ≤ b ∧ W.heap[b]? = w3.heap[b]? := fun b hb hl => ⟨by omega, hW.block b hl (fun e => by injection e with e; omega)⟩
  have hs3 := h3.size
  have hbl : Below w.heap.size w3 W := ⟨hW.os, hW.tape, hW.output, hW.size, fun k hk => hW.block k (by omega) (fun e => by injection e with e; omega)⟩
  exact ⟨vt, vb, ts, l, ok, rfl, hT.frame hW.size hk, hB.frame hW.size hk, ht, hl, h3.trans hbl⟩

set_option maxHeartbeats 4000000 in
set_option maxRecDepth 100000 in
theorem parseProgram_any (s : ByteArray) (w : World) (hs : s.size ≤ 600) : Calls Tryd.prog 26 #[.string s] w (ParRet w) := by
  have L4 := Lib.hid (lstOk_nat 4 (by omega))
  go_enter Tryd.func26, Tryd.ntmps26
  go_wp2_with fail
  go_loopw [5] (fun i wr => ∃ (k : Nat), k ≤ s.size ∧ i = .int .i64 k ∧ TyI w w.heap.size k wr) (fun i _ => s.size - (intOf i).toNat)
  case atStart =>
    have h0 := heap_alloc_new w (.cells #[.slice none 0 0, .slice none 0 0] 29)
    have h1 := heap_alloc_new (w.alloc (.cells #[.slice none 0 0, .slice none 0 0] 29)) (.cells #[.slice none 0 0, .slice none 0 0] 29)
    have hb := bel_a (w.alloc (.cells #[.slice none 0 0, .slice none 0 0] 29)) (.cells #[.slice none 0 0, .slice none 0 0] 29)
    exact ⟨0, Nat.zero_le _, rfl, _, [], rfl, OInts.nil _ _, (hb.block _ (by simp)).trans h0, by simpa using h1, (bel_a w _).trans (hb.mono (by simp))⟩
  case round =>
    obtain ⟨k, hk, rfl, v, l, hlk, hos, hr0, hr1, hbw⟩ := hrel
    obtain ⟨A, c, rfl, hc⟩ := hos.slice
    have p0 : wr.cell? ⟨w.heap.size, 0, none⟩ = some (.slice none 0 0) := by rw [cell_of_row _ _ _ _ _ _ hr0]; rfl
    have p1 : wr.cell? ⟨w.heap.size, 1, none⟩ = some (.slice none 0 0) := by rw [cell_of_row _ _ _ _ _ _ hr0]; rfl
    have q0 : wr.cell? ⟨w.heap.size + 1, 0, none⟩ = some (.slice A l.length c) := by rw [cell_of_row _ _ _ _ _ _ hr1]; rfl
    have q1 : wr.cell? ⟨w.heap.size + 1, 1, none⟩ = some (.slice none 0 0) := by rw [cell_of_row _ _ _ _ _ _ hr1]; rfl
    have pf0 := frozen_of_row wr w.heap.size 0 _ _ hr0
    have pf1 := frozen_of_row wr w.heap.size 1 _ _ hr0
    have hg : w.heap.size + 1 < wr.heap.size := by
      rcases Nat.lt_or_ge (w.heap.size + 1) wr.heap.size with h | h
      · exact h
      · rw [Array.getElem?_eq_none h] at hr1; cases hr1
    have HR0 := Lib.hid hr0
    have HR1 := Lib.hid hr1
    have HOS := Lib.hid hos
    have HBW := Lib.hid hbw
    have hll : l.length ≤ 600 := by omega
    have HLK := Lib.hid hlk
    clear hr0 hr1 hos hbw hlk
    by_cases hlt : k < s.size
    · go_wp2_with (at_builtin; go_must (refine wpList_push_int rfl (.tmp 36) (.tmp 38) rfl HOS.out (by omega) (by omega) _ rfl rfl ?_); intro v' w' hP' hE'; (have HE := Lib.hid ((Evo.alloc (w.heap.size + 2) 3 wr _).trans hE')); (generalize hl1 : l ++ [_] = l1 at hP'); (have HL1 : Hid (l1.length = k + 1) := Lib.hid (by rw [← hl1]; simp [HLK.out])); clear hl1; (have HP := Lib.hid hP'); (obtain ⟨A', c', rfl, hc'⟩ := hP'.slice); clear hE' hP'; (have hrow := HE.out.box HR1.out (by decide)); (have HROW := Lib.hid hrow); (have q0' : w'.cell? ⟨w.heap.size + 1, 0, none⟩ = some (.slice A l.length c) := by rw [cell_of_row _ _ _ _ _ _ hrow]; rfl); (have qf0 := frozen_of_row w' (w.heap.size + 1) 0 _ _ hrow); clear hrow)
      all_goals (try (case roundEnd =>
        exact ⟨⟨k + 1, by omega, by go_num, _, l1, HL1.out, HP.out.other (by omega) 0 _, (heap_setCell_other _ ⟨w.heap.size + 1, 0, none⟩ w.heap.size _ (by simp)).trans (HE.out.box HR0.out (by decide)), (heap_setCell_same _ (w.heap.size + 1) 0 _ _ _ HROW.out).trans (by simp), (HBW.out.trans (HE.out.below (by omega) |>.mono (by omega))).setCell (p := ⟨w.heap.size + 1, 0, none⟩) (by show w.heap.size ≤ w.heap.size + 1; omega) _⟩, by simp [intOf] <;> omega⟩))
      refine (L4.out s _ _ (by omega) (by omega) (by omega)).mono ?_
      rintro e w2 ⟨lv, bl, next, rfl, hx, hn, hb2⟩
      obtain ⟨A6, c6, rfl, -⟩ := hx.slice
      have hs2 := hb2.size
      have hbl : szL bl ≤ 600 := by
        rcases hn with ⟨_, h⟩ | ⟨_, h, h2⟩
        · rw [h]; simp [szL]
        · omega
      have HX := Lib.hid hx
      have r0 := (hb2.block _ (by omega)).trans HR0.out
      have r1 := (hb2.block _ (by omega)).trans HR1.out
      have HOS2 : Hid (OInts w2 (w.heap.size + 2) (.slice A l.length c) l) := Lib.hid (HOS.out.kept (grown_bel hb2 (Nat.le_refl _) none) (by cases (Value.slice A l.length c).ownBlock <;> simp))
      have HBW2 := Lib.hid (HBW.out.trans (hb2.mono (by omega)))
      have a0 : w2.cell? ⟨w.heap.size + 1, 0, none⟩ = some (.slice A l.length c) := by rw [cell_of_row _ _ _ _ _ _ r1]; rfl
      have a1 : w2.cell? ⟨w.heap.size + 1, 1, none⟩ = some (.slice none 0 0) := by rw [cell_of_row _ _ _ _ _ _ r1]; rfl
      have af1 := frozen_of_row w2 (w.heap.size + 1) 1 _ _ r1
      have HW1 := Lib.hid ((heap_setCell_same _ (w.heap.size + 1) 1 _ _ (.slice A6 bl.length c6) r1).trans (by simp : _ = some (Obj.cells #[.slice A l.length c, .slice A6 bl.length c6] 29 (0, 0))))
      have HW0 := Lib.hid ((heap_setCell_other _ ⟨w.heap.size + 1, 1, none⟩ w.heap.size (.slice A6 bl.length c6) (by simp)).trans r0)
      have hgs := grown_set w2 (w.heap.size + 1) 1 (.slice A6 bl.length c6)
      have HOS3 := Lib.hid (HOS2.out.other (g := w.heap.size + 1) (by omega) 1 (.slice A6 bl.length c6))
      have HX3 : Hid (StX (w2.setCell ⟨w.heap.size + 1, 1, none⟩ (.slice A6 bl.length c6)) (fun b => w.heap.size + 2 ≤ b) (.slice A6 bl.length c6) bl) := Lib.hid (hx.frame hgs.size fun b hb hl => ⟨by omega, hgs.block b hl (fun e => by injection e with e; omega)⟩)
      have HB3 := Lib.hid (HBW2.out.setCell (p := ⟨w.heap.size + 1, 1, none⟩) (by show w.heap.size ≤ w.heap.size + 1; omega) (.slice A6 bl.length c6))
      have HN := Lib.hid hn
      have hs3 : (w2.setCell ⟨w.heap.size + 1, 1, none⟩ (.slice A6 bl.length c6)).heap.size = w2.heap.size := size_set _ _ _
      have b0 : w2.cell? ⟨w.heap.size, 0, none⟩ = some (.slice none 0 0) := by rw [cell_of_row _ _ _ _ _ _ r0]; rfl
      have b1 : w2.cell? ⟨w.heap.size, 1, none⟩ = some (.slice none 0 0) := by rw [cell_of_row _ _ _ _ _ _ r0]; rfl
      have bf0 := frozen_of_row w2 w.heap.size 0 _ _ r0
      have bf1 := frozen_of_row w2 w.heap.size 1 _ _ r0
      clear r0 r1 hx hb2 hn hgs p0 p1 q0 q1 pf0 pf1
      by_cases hnx : next = s.size
      · subst hnx
        go_wp2_with fail
        refine (sProgramValid_any _ _ l bl _ _ (HOS3.out.toS (by omega)) HX3.out.toS (Nat.le_refl _) (by omega)).mono ?_
        rintro e w4 ⟨rfl, hb4⟩
        have hs4 := hb4.size
        have HG4 := Lib.hid (Nat.lt_of_lt_of_le (by rw [hs3]; omega : w.heap.size + 1 < _) hs4)
        have t0 := (hb4.block _ (by rw [hs3]; omega)).trans HW0.out
        have t1 := (hb4.block _ (by rw [hs3]; omega)).trans HW1.out
        have HT0 := Lib.hid t0
        have HT1 := Lib.hid t1
        have HX4 : Hid (StX w4 (fun b => w.heap.size + 1 ≤ b) (.slice A6 bl.length c6) bl) := Lib.hid (HX3.out.frame hs4 fun b hb hl => ⟨by omega, hb4.block b hl⟩)
        have HI4 : Hid (IntX w4 (fun b => w.heap.size + 1 ≤ b) (.slice A l.length c) l) := Lib.hid ((HOS3.out.toX (by omega)).frame hs4 fun b hb hl => ⟨by omega, hb4.block b hl⟩)
        have HB4 := Lib.hid (HB3.out.trans (hb4.mono HB3.out.size))
        have d0 : w4.cell? ⟨w.heap.size, 0, none⟩ = some (.slice none 0 0) := by rw [cell_of_row _ _ _ _ _ _ t0]; rfl
        have d1 : w4.cell? ⟨w.heap.size, 1, none⟩ = some (.slice none 0 0) := by rw [cell_of_row _ _ _ _ _ _ t0]; rfl
        have df0 := frozen_of_row w4 w.heap.size 0 _ _ t0
        have df1 := frozen_of_row w4 w.heap.size 1 _ _ t0
        have e0 : w4.cell? ⟨w.heap.size + 1, 0, none⟩ = some (.slice A l.length c) := by rw [cell_of_row _ _ _ _ _ _ t1]; rfl
        have e1 : w4.cell? ⟨w.heap.size + 1, 1, none⟩ = some (.slice A6 bl.length c6) := by rw [cell_of_row _ _ _ _ _ _ t1]; rfl
        clear t0 t1 a0 a1 af1 b0 b1 bf0 bf1 hb4 hs3 hs4
        cases hv : validP l bl
        · clear hv
          go_wp2_with fail
          exact bodyPost_ret (res_box (p := 2) (u := 3) (ty := 29) rfl _ _ w.heap.size 29 _ (0, 0) _ rfl (box2 HT0.out _ _).1 Tryd.underlying29 rfl rfl) rfl (par_close rfl HB4.out (box2 HT0.out _ _).2 (IntX.nil _ _) (StX.nil _ _) (by (first | omega | simp)) (by (first | omega | simp [szL])))
        · have HV := Lib.hid hv
          clear hv
          go_wp2_with fail
          refine (l1Program_any _ _ l bl _ _ HI4.out.toS HX4.out.toS (Nat.le_refl _) HV.out).mono ?_
          rintro e w5 ⟨s5, rfl, -, hb5⟩
          have hs5 := hb5.size
          have t0 := (hb5.block _ (by have := HG4.out; omega)).trans HT0.out
          have t1 := (hb5.block _ HG4.out).trans HT1.out
          have HU0 := Lib.hid t0
          have HX5 : Hid (StX w5 (fun b => w.heap.size + 1 ≤ b) (.slice A6 bl.length c6) bl) := Lib.hid (HX4.out.frame hs5 fun b hb hl => ⟨by omega, hb5.block b hl⟩)
          have HI5 : Hid (IntX w5 (fun b => w.heap.size + 1 ≤ b) (.slice A l.length c) l) := Lib.hid (HI4.out.frame hs5 fun b hb hl => ⟨by omega, hb5.block b hl⟩)
          have HB5 := Lib.hid (HB4.out.trans (hb5.mono HB4.out.size))
          have f0 : w5.cell? ⟨w.heap.size, 0, none⟩ = some (.slice none 0 0) := by rw [cell_of_row _ _ _ _ _ _ t0]; rfl
          have f1 : w5.cell? ⟨w.heap.size, 1, none⟩ = some (.slice none 0 0) := by rw [cell_of_row _ _ _ _ _ _ t0]; rfl
          have ff0 := frozen_of_row w5 w.heap.size 0 _ _ t0
          have ff1 := frozen_of_row w5 w.heap.size 1 _ _ t0
          have g0 : w5.cell? ⟨w.heap.size + 1, 0, none⟩ = some (.slice A l.length c) := by rw [cell_of_row _ _ _ _ _ _ t1]; rfl
          have g1 : w5.cell? ⟨w.heap.size + 1, 1, none⟩ = some (.slice A6 bl.length c6) := by rw [cell_of_row _ _ _ _ _ _ t1]; rfl
          clear t0 t1 d0 d1 df0 df1 e0 e1 hb5 hs5
          go_wp2_with fail
          · exact bodyPost_ret (res_box (p := 2) (u := 3) (ty := 29) rfl _ _ w.heap.size 29 _ (0, 0) _ rfl (box2 HU0.out _ _).1 Tryd.underlying29 rfl rfl) rfl (par_close rfl HB5.out (box2 HU0.out _ _).2 (IntX.nil _ _) (StX.nil _ _) (by (first | omega | simp)) (by (first | omega | simp [szL])))
          · exact bodyPost_ret (res_box (p := 2) (u := 3) (ty := 29) rfl _ _ w.heap.size 29 _ (0, 0) _ rfl (box2 HU0.out _ _).1 Tryd.underlying29 rfl rfl) rfl (par_close rfl HB5.out (box2 HU0.out _ _).2 HI5.out HX5.out (by (first | omega | simp)) (by (first | omega | simp [szL])))
      · go_wp2_with fail
        exact bodyPost_ret (res_box (p := 2) (u := 3) (ty := 29) rfl _ _ w.heap.size 29 _ (0, 0) _ rfl (box2 HW0.out _ _).1 Tryd.underlying29 rfl rfl) rfl (par_close rfl HB3.out (box2 HW0.out _ _).2 (IntX.nil _ _) (StX.nil _ _) (by simp) (by simp [szL]))
    · go_wp2_with fail
      exact bodyPost_ret (res_box (p := 2) (u := 3) (ty := 29) rfl _ _ w.heap.size 29 _ (0, 0) _ rfl (box2 HR0.out _ _).1 Tryd.underlying29 rfl rfl) rfl (par_close rfl HBW.out (box2 HR0.out _ _).2 (IntX.nil _ _) (StX.nil _ _) (by simp) (by simp [szL]))

end Go.Proofs.YtfioaohadanjmaaDoor

/- l1Texts, l1Draw. -/
namespace Go.Proofs.YtfioaohadanjmaaDoor
open Go.RowKit

def strOk : Value → Bool
  | .string s => decide (s.size ≤ 600)
  | _ => false
theorem strOk_get {l : List Value} (h : l.all strOk = true) {k : Nat} (hk : k < l.length) : ∃ s : ByteArray, l[k]? = some (.string s) ∧ s.size ≤ 600 := by
  rw [List.getElem?_eq_getElem hk]
  have := List.all_eq_true.1 h l[k] (List.getElem_mem hk)
  cases hv : l[k] <;> rw [hv] at this <;> simp [strOk] at this
  exact ⟨_, rfl, this⟩
def TxtsRet (w : World) (e : Ending) (w' : World) : Prop :=
  ∃ l : List Value, e = .returned (.slice (some ⟨w.heap.size, 0, none⟩) 25 25) ∧ l.length = 25 ∧ l.all strOk = true ∧ RowB w' w.heap.size 9 l ∧ Below w.heap.size w w'
set_option maxRecDepth 100000 in
theorem texts_any (w : World) : Calls Tryd.prog 25 #[] w (TxtsRet w) := by
  go_enter Tryd.func25, Tryd.ntmps25
  go_wp2_with fail
  go_ret
  exact ⟨_, rfl, by decide, by decide, heap_alloc_new w _, bel_a w _⟩

def DrawRet (w : World) (g p K : Nat) (e : Ending) (w' : World) : Prop :=
  ∃ (vt vb : Value) (ts : List Int) (l : List St) (p' : Nat), e = .returned (.agg #[vt, vb]) ∧ IntX w' (fun b => w.heap.size ≤ b) vt ts ∧ StX w' (fun b => w.heap.size ≤ b) vb l ∧ ts.length ≤ 600 ∧ szL l ≤ 600 ∧ p' ≤ p + K ∧ Dr w' g p' ∧ w.grownBy w' (some g)

theorem StX.grown {w w' : World} {g : Nat} {P : Nat → Prop} {v : Value} {l : List St} (h : StX w P v l) (hg : w.grownBy w' (some g)) (hP : ¬ P g) : StX w' P v l :=
  h.frame hg.size fun b hb hl => ⟨hb, hg.block b hl (fun e => by injection e with e; subst e; exact hP hb)⟩
theorem IntX.grown {w w' : World} {g : Nat} {P : Nat → Prop} {v : Value} {l : List Int} (h : IntX w P v l) (hg : w.grownBy w' (some g)) (hP : ¬ P g) : IntX w' P v l :=
  h.frame hg.size fun b hb hl => ⟨hb, hg.block b hl (fun e => by injection e with e; subst e; exact hP hb)⟩
theorem StX.bel {w w' : World} {P : Nat → Prop} {v : Value} {l : List St} (h : StX w P v l) (hb : Below w.heap.size w w') : StX w' P v l :=
  h.frame hb.size fun b hp hl => ⟨hp, hb.block b hl⟩
theorem IntX.bel {w w' : World} {P : Nat → Prop} {v : Value} {l : List Int} (h : IntX w P v l) (hb : Below w.heap.size w w') : IntX w' P v l :=
  h.frame hb.size fun b hp hl => ⟨hp, hb.block b hl⟩
/-- the end of a draw: the result's box lies at the first new block -/
theorem draw_close {w w3 W : World} {g p q K : Nat} {vt vb : Value} {ts : List Int} {l : List St} (hlt : g < w.heap.size) (h3 : w.grownBy w3 (some g)) (hW : w3.grownBy W (some w.heap.size)) (hd : Dr w3 g q)
    (hT : IntX w3 (fun b => w.heap.size + 1 ≤ b) vt ts) (hB : StX w3 (fun b => w.heap.size + 1 ≤ b) vb l) (ht : ts.length ≤ 600) (hl : szL l ≤ 600) (hq : q ≤ p + K) :
    DrawRet w g p K (.returned (.agg #[vt, vb])) W := by
  have hk : ∀ b, w.heap.size + 1 ≤ b → b < w3.heap.size → w.heap.size ≤ b ∧ W.heap[b]? = w3.heap[b]? := fun b hb hl => ⟨by omega, hW.block b hl (fun e => by injection e with e; omega)⟩
  have hs3 := h3.size
  have hbl : Below w.heap.size w3 W := ⟨hW.os, hW.tape, hW.output, hW.size, fun k hk => hW.block k (by omega) (fun e => by injection e with e; omega)⟩
  exact ⟨vt, vb, ts, l, q, rfl, hT.frame hW.size hk, hB.frame hW.size hk, ht, hl, hq, hd.low hbl hlt, grown_base h3 hbl⟩
theorem row_grown {w w' : World} {g b : Nat} {o : Obj} (h : w.heap[b]? = some o) (hg : w.grownBy w' (some g)) (hne : b ≠ g) : w'.heap[b]? = some o := by
  have hlt : b < w.heap.size := by
    rcases Nat.lt_or_ge b w.heap.size with h' | h'
    · exact h'
    · rw [Array.getElem?_eq_none h'] at h; cases h
  exact (hg.block b hlt (fun e => hne (Option.some.inj e))).trans h
theorem row_lt {w : World} {b : Nat} {o : Obj} (h : w.heap[b]? = some o) : b < w.heap.size := by
  rcases Nat.lt_or_ge b w.heap.size with h' | h'
  · exact h'
  · rw [Array.getElem?_eq_none h'] at h; cases h
theorem row_below {w w' : World} {b : Nat} {o : Obj} (h : w.heap[b]? = some o) (hb : Below w.heap.size w w') : w'.heap[b]? = some o := (hb.block b (row_lt h)).trans h
theorem grown_alloc {w a : World} {g : Nat} (h : w.grownBy a (some g)) (o : Obj) : w.grownBy (a.alloc o) (some g) := grown_tr h (grown_bel (bel_a a o) (Nat.le_refl _) _)
theorem grown_below' {w a b : World} {g : Nat} (h : w.grownBy a (some g)) (hb : Below a.heap.size a b) : w.grownBy b (some g) := grown_tr h (grown_bel hb (Nat.le_refl _) _)

set_option maxHeartbeats 4000000 in
set_option maxRecDepth 100000 in
theorem l1Draw_any (g p : Nat) (w : World) (hd : Dr w g p) (hp : p + 700 ≤ 1000000) : Calls Tryd.prog 13 #[.pointer (some ⟨g, 0, none⟩)] w (DrawRet w g p 700) := by
  have hg := hd.lt
  have HD := Lib.hid hd
  clear hd
  go_enter Tryd.func13, Tryd.ntmps13
  go_wp2_with fail
  refine (texts_any _).mono ?_
  rintro e w1 ⟨tl, rfl, htl, hok, hrow, hb1⟩
  have hs1 := hb1.size
  have hsa : (w.alloc (.cells #[.slice none 0 0, .slice none 0 0] 29)).heap.size = w.heap.size + 1 := by simp
  have hr0 := row_below (heap_alloc_new w (.cells #[.slice none 0 0, .slice none 0 0] 29)) hb1
  have HR0 := Lib.hid hr0
  have hlt1 := hrow.lt
  have HTX := Lib.hid hrow
  have HOK := Lib.hid hok
  have HTL := Lib.hid htl
  have HD1 := Lib.hid ((HD.out.low (bel_a w _) hg).low hb1 (by simp; omega))
  have HG1 := Lib.hid (grown_below' (grown_bel (bel_a w (.cells #[.slice none 0 0, .slice none 0 0] 29)) (Nat.le_refl _) (some g)) hb1)
  clear hb1 hr0 hrow hok htl
  go_wp2_with fail
  refine (pick_any g p _ _ HD1.out (by omega) (by omega) (by omega)).mono ?_
  rintro e w2 ⟨k, rfl, k0, k1, hd2, hg2⟩
  have k2 := k1 (by omega)
  clear k1
  obtain ⟨k, rfl⟩ := Int.eq_ofNat_of_zero_le k0
  have hk25 : k < 25 := by omega
  obtain ⟨s, hs, hs600⟩ := strOk_get HOK.out (by rw [HTL.out]; exact hk25)
  have hr := row_grown HTX.out hg2 (by omega)
  have hck : w2.cell? ⟨w.heap.size + 1, k, none⟩ = some (.string s) := by rw [← hsa]; exact (cell_of_row _ _ k _ _ _ hr).trans (by simpa using hs)
  have HD2 := Lib.hid hd2
  have HG2 := Lib.hid (grown_tr HG1.out hg2)
  have HR2 := Lib.hid (row_grown HR0.out hg2 (by omega))
  have hs2 := hg2.size
  have hsw : w.heap.size < w1.heap.size := by omega
  clear hr hs hd2 hg2 hsa
  go_wp2_with fail
  refine (parseProgram_any s _ hs600).mono ?_
  rintro e w3 ⟨vt, vb, ts, l, okb, rfl, hit, hsb, hlt, hlb, hb3⟩
  have hs3 := hb3.size
  have HR3 := Lib.hid (row_below HR2.out hb3)
  have HD3 := Lib.hid ((HD2.out.low hb3 HD2.out.lt).low (bel_a w3 (.cells #[vt, vb] 29)) (by omega))
  have HG3 := Lib.hid (grown_alloc (grown_below' HG2.out hb3) (.cells #[vt, vb] 29))
  have HIT := Lib.hid (hit.bel (bel_a w3 (.cells #[vt, vb] 29)))
  have HSB := Lib.hid (hsb.bel (bel_a w3 (.cells #[vt, vb] 29)))
  obtain ⟨At, ct, rfl, -⟩ := hit.slice
  obtain ⟨Ab, cb, rfl, -⟩ := hsb.slice
  clear hit hsb hb3 hck
  go_wp2_with fail
  refine (pick_any g p.succ _ _ HD3.out (by omega) (by omega) (by omega)).mono ?_
  rintro e w5 ⟨k5, rfl, k50, k51, hd5, hg5⟩
  have k52 := k51 (by omega)
  clear k51
  have hs5 : w3.heap.size + 1 ≤ w5.heap.size := by have := hg5.size; simpa using this
  have hrp := row_grown (heap_alloc_new w3 (.cells #[.slice At ts.length ct, .slice Ab l.length cb] 29)) hg5 (by omega)
  have hr0 := row_grown (HR3.out |> fun h => row_below h (bel_a w3 (.cells #[.slice At ts.length ct, .slice Ab l.length cb] 29))) hg5 (by omega)
  have HR5 := Lib.hid hr0
  have HD5 := Lib.hid hd5
  have HG5 := Lib.hid (grown_tr HG3.out hg5)
  have HIT5 := Lib.hid (HIT.out.grown hg5 (by omega))
  have HSB5 := Lib.hid (HSB.out.grown hg5 (by omega))
  have c0 : w5.cell? ⟨w3.heap.size, 0, none⟩ = some (.slice At ts.length ct) := by rw [cell_of_row _ _ _ _ _ _ hrp]; rfl
  have c1 : w5.cell? ⟨w3.heap.size, 1, none⟩ = some (.slice Ab l.length cb) := by rw [cell_of_row _ _ _ _ _ _ hrp]; rfl
  have d0 : w5.cell? ⟨w.heap.size, 0, none⟩ = some (.slice none 0 0) := by rw [cell_of_row _ _ _ _ _ _ hr0]; rfl
  have d1 : w5.cell? ⟨w.heap.size, 1, none⟩ = some (.slice none 0 0) := by rw [cell_of_row _ _ _ _ _ _ hr0]; rfl
  have f0 := frozen_of_row w5 w.heap.size 0 _ _ hr0
  have f1 := frozen_of_row w5 w.heap.size 1 _ _ hr0
  clear hrp hd5 hg5 hr0
  have FIN : ∀ W, w5.grownBy W (some w.heap.size) → DrawRet w g p 700 (.returned (.agg #[.slice At ts.length ct, .slice Ab l.length cb])) W := fun W hW =>
    draw_close hg HG5.out hW HD5.out (HIT5.out.frame (Nat.le_refl _) fun b hb _ => ⟨by omega, rfl⟩) (HSB5.out.frame (Nat.le_refl _) fun b hb _ => ⟨by omega, rfl⟩) hlt hlb (by omega)
  have HFIN := Lib.hid FIN
  clear FIN
  by_cases h5 : 0 < k5
  · go_wp2_with fail
    exact bodyPost_ret (results_cell_row rfl _ _ w.heap.size 29 _ (0, 0) _ rfl (box2 HR5.out _ _).1 Tryd.underlying29 rfl rfl) rfl (HFIN.out _ (box2 HR5.out _ _).2)
  · by_cases hts : ts.length = 0
    · have hts' : ((ts.length : Int) == 0) = true := by simp [hts]
      clear hts
      go_wp2_with fail
      exact bodyPost_ret (results_cell_row rfl _ _ w.heap.size 29 _ (0, 0) _ rfl (box2 HR5.out _ _).1 Tryd.underlying29 rfl rfl) rfl (HFIN.out _ (box2 HR5.out _ _).2)
    · have hts' : ((ts.length : Int) == 0) = false := by simpa using hts
      clear hts
      have hA := bel_a w5 (.cells #[.int .i64 1, .int .i64 2, .int .i64 2, .int .i64 3, .int .i64 4, .int .i64 4] 3)
      have hB := bel_a (w5.alloc (.cells #[.int .i64 1, .int .i64 2, .int .i64 2, .int .i64 3, .int .i64 4, .int .i64 4] 3)) (.cells #[.slice (some ⟨w5.heap.size, 0, none⟩) 6 6, .slice none 0 0] 29)
      have hAB := hA.trans (hB.mono hA.size)
      have hty : IntX (w5.alloc (.cells #[.int .i64 1, .int .i64 2, .int .i64 2, .int .i64 3, .int .i64 4, .int .i64 4] 3)) (fun b => b = w5.heap.size) (.slice (some ⟨w5.heap.size, 0, none⟩) 6 6) [1, 2, 2, 3, 4, 4] := by
        refine ⟨_, _, rfl, by simp, by simp, fun _ => ⟨w5.heap.size, 0, rfl, rfl, by simp, fun j hj => ?_⟩⟩
        rw [cell_of_row _ _ _ _ _ _ (heap_alloc_new w5 _), Nat.zero_add]
        have : j = 0 ∨ j = 1 ∨ j = 2 ∨ j = 3 ∨ j = 4 ∨ j = 5 := by simp at hj; omega
        rcases this with rfl | rfl | rfl | rfl | rfl | rfl <;> rfl
      have hty2 := hty.bel hB
      have hrow6 := heap_alloc_new (w5.alloc (.cells #[.int .i64 1, .int .i64 2, .int .i64 2, .int .i64 3, .int .i64 4, .int .i64 4] 3)) (.cells #[.slice (some ⟨w5.heap.size, 0, none⟩) 6 6, .slice none 0 0] 29)
      have hd6 := HD5.out.low hAB (by omega)
      have hg6 := grown_below' HG5.out hAB
      have hr6 := row_below HR5.out hAB
      have hs6 : w5.heap.size + 2 ≤ ((w5.alloc (.cells #[.int .i64 1, .int .i64 2, .int .i64 2, .int .i64 3, .int .i64 4, .int .i64 4] 3)).alloc (.cells #[.slice (some ⟨w5.heap.size, 0, none⟩) 6 6, .slice none 0 0] 29)).heap.size := by simp
      have hss : (w5.alloc (.cells #[.int .i64 1, .int .i64 2, .int .i64 2, .int .i64 3, .int .i64 4, .int .i64 4] 3)).heap.size = w5.heap.size + 1 := by simp
      rw [hss] at hrow6
      have HTY := Lib.hid hty2
      have HROW6 := Lib.hid hrow6
      have HD6 := Lib.hid hd6
      have HG6 := Lib.hid hg6
      have HR6 := Lib.hid hr6
      clear hty hty2 hrow6 hd6 hg6 hr6 hss hA hB hAB
      go_wp2_with fail
      generalize ((w5.alloc (.cells #[.int .i64 1, .int .i64 2, .int .i64 2, .int .i64 3, .int .i64 4, .int .i64 4] 3)).alloc (.cells #[.slice (some ⟨w5.heap.size, 0, none⟩) 6 6, .slice none 0 0] 29)) = W at *
      have q0 : W.cell? ⟨w5.heap.size + 1, 0, none⟩ = some (.slice (some ⟨w5.heap.size, 0, none⟩) 6 6) := by rw [cell_of_row _ _ _ _ _ _ HROW6.out]; rfl
      clear c0 c1 d0 d1 f0 f1
      have CN : Calls Tryd.prog 15 #[.pointer (some ⟨g, 0, none⟩), .slice (some ⟨W.heap.size, 0, none⟩) 5 5] (W.alloc (.cells #[.int .i64 5, .int .i64 4, .int .i64 7, .int .i64 3, .int .i64 8] 3)).drew (fun e w' => ∃ x : Int, e = .returned (.int .i64 x) ∧ x ∈ [5, 4, 7, 3, 8] ∧ Dr w' g (p + 1 + 1 + 1) ∧ (W.alloc (.cells #[.int .i64 5, .int .i64 4, .int .i64 7, .int .i64 3, .int .i64 8] 3)).drew.grownBy w' (some g)) :=
        num_any g _ _ [5, 4, 7, 3, 8] 3 _ (HD6.out.low ((bel_a W (.cells #[.int .i64 5, .int .i64 4, .int .i64 7, .int .i64 3, .int .i64 8] 3)).drew) (by omega)) (by omega) (RowB.new W _ _) (by omega) (by simp) (by simp)
      have HCN := Lib.hid CN
      have hwa := (bel_a W (.cells #[.int .i64 5, .int .i64 4, .int .i64 7, .int .i64 3, .int .i64 8] 3)).drew
      have HWA := Lib.hid hwa
      have hsW : (W.alloc (.cells #[.int .i64 5, .int .i64 4, .int .i64 7, .int .i64 3, .int .i64 8] 3)).drew.heap.size = W.heap.size + 1 := by simp
      have HSW := Lib.hid hsW
      clear CN hwa hsW
      go_region_held3 (fun w' => w'.cell? ⟨w5.heap.size + 1, 0, none⟩ = some (.slice (some ⟨w5.heap.size, 0, none⟩) 6 6))
        (first | exact q0 | assumption | exact Q9.out | go_keep)
        (first
          | (go_at_call 15; (with_reducible refine HCN.out.mono ?_); (rintro e w7 ⟨x, rfl, hx, hd7, hg7⟩); (obtain ⟨n, rfl, hn⟩ : ∃ n : Nat, x = (n : Nat) ∧ n ≤ 8 := by (refine ⟨x.toNat, ?_, ?_⟩ <;> (simp at hx; omega))); (have hs7 := hg7.size); (rw [HSW.out] at hs7); (have hr7 := row_grown (row_below HROW6.out HWA.out) hg7 (by omega)); (have HR7 := Lib.hid hr7); (have q7 : w7.cell? ⟨w5.heap.size + 1, 0, none⟩ = some (.slice (some ⟨w5.heap.size, 0, none⟩) 6 6) := by (rw [cell_of_row _ _ _ _ _ _ hr7]; rfl)); (have HD7 := Lib.hid hd7); (have HG7 := Lib.hid hg7); clear hr7 hd7 hg7 hx)
          | (go_at_call 27; (refine (some_two g (p + 1 + 1 + 1) n _ _ (by omega) HD7.out (by simp only [kk]; omega)).mono ?_); (rintro e w8 ⟨v, bl, p8, rfl, hos, hbl, hp8, hd8, hg8⟩); (have hs8 := hg8.size); (obtain ⟨A8, c8, rfl, hc8⟩ := hos.slice); (have hr8 := row_grown HR7.out hg8 (by omega)); (have q8 : w8.cell? ⟨w5.heap.size + 1, 0, none⟩ = some (.slice (some ⟨w5.heap.size, 0, none⟩) 6 6) := by (rw [cell_of_row _ _ _ _ _ _ hr8]; rfl)); (have q81 : w8.cell? ⟨w5.heap.size + 1, 1, none⟩ = some (.slice none 0 0) := by (rw [cell_of_row _ _ _ _ _ _ hr8]; rfl)); (have qf1 := frozen_of_row w8 (w5.heap.size + 1) 1 _ _ hr8); (have q9 : (w8.setCell ⟨w5.heap.size + 1, 1, none⟩ (.slice A8 bl.length c8)).cell? ⟨w5.heap.size + 1, 0, none⟩ = some (.slice (some ⟨w5.heap.size, 0, none⟩) 6 6) := by (rw [cell_of_row _ _ _ _ _ _ (heap_setCell_same w8 (w5.heap.size + 1) 1 _ _ (.slice A8 bl.length c8) hr8)]; rfl)); (have Q9 := Lib.hid q9); clear q9; (have HR8 := Lib.hid hr8); (have HOS := Lib.hid hos); (have HD8 := Lib.hid hd8); (have HG8 := Lib.hid hg8); clear hr8 hos hd8 hg8))
      have hR9 := (heap_setCell_same w8 (w5.heap.size + 1) 1 _ _ (.slice A8 bl.length c8) HR8.out).trans (by simp : _ = some (Obj.cells #[.slice (some ⟨w5.heap.size, 0, none⟩) 6 6, .slice A8 bl.length c8] 29 (0, 0)))
      have hR0 := (heap_setCell_other w8 ⟨w5.heap.size + 1, 1, none⟩ w.heap.size (.slice A8 bl.length c8) (by simp; omega)).trans (row_grown (row_grown (row_below HR6.out HWA.out) HG7.out (by omega)) HG8.out (by omega))
      have hg9 := grown_set w8 (w5.heap.size + 1) 1 (.slice A8 bl.length c8)
      have HD9 : Hid (Dr (w8.setCell ⟨w5.heap.size + 1, 1, none⟩ (.slice A8 bl.length c8)) g p8) := Lib.hid (HD8.out.low (grown_below hg9 (by omega)) (by omega))
      have HIT9 : Hid (IntX (w8.setCell ⟨w5.heap.size + 1, 1, none⟩ (.slice A8 bl.length c8)) (fun b => w.heap.size + 1 ≤ b) (.slice (some ⟨w5.heap.size, 0, none⟩) 6 6) [1, 2, 2, 3, 4, 4]) := Lib.hid (((((HTY.out.bel HWA.out).grown HG7.out (by show ¬ (g = w5.heap.size); omega)).grown HG8.out (by show ¬ (g = w5.heap.size); omega)).grown hg9 (by show ¬ (w5.heap.size + 1 = w5.heap.size); omega)).frame (Nat.le_refl _) fun b hb _ => ⟨by have hb' : b = w5.heap.size := hb; show w.heap.size + 1 ≤ b; omega, rfl⟩)
      have HSB9 : Hid (StX (w8.setCell ⟨w5.heap.size + 1, 1, none⟩ (.slice A8 bl.length c8)) (fun b => w.heap.size + 1 ≤ b) (.slice A8 bl.length c8) bl) := Lib.hid ((HOS.out.toX.grown hg9 (by show ¬ (w7.heap.size ≤ w5.heap.size + 1); omega)).frame (Nat.le_refl _) fun b hb _ => ⟨by have hb' : w7.heap.size ≤ b := hb; show w.heap.size + 1 ≤ b; omega, rfl⟩)
      have HG9 : Hid (w.grownBy (w8.setCell ⟨w5.heap.size + 1, 1, none⟩ (.slice A8 bl.length c8)) (some g)) := Lib.hid (grown_base (grown_tr (grown_tr (grown_below' HG6.out HWA.out) HG7.out) HG8.out) ((Below.refl _ _).setCell (p := ⟨w5.heap.size + 1, 1, none⟩) (by show w.heap.size ≤ w5.heap.size + 1; omega) _))
      have HR9 := Lib.hid hR0
      have c0 : (w8.setCell ⟨w5.heap.size + 1, 1, none⟩ (.slice A8 bl.length c8)).cell? ⟨w5.heap.size + 1, 0, none⟩ = some (.slice (some ⟨w5.heap.size, 0, none⟩) 6 6) := by rw [cell_of_row _ _ _ _ _ _ hR9]; rfl
      have c1 : (w8.setCell ⟨w5.heap.size + 1, 1, none⟩ (.slice A8 bl.length c8)).cell? ⟨w5.heap.size + 1, 1, none⟩ = some (.slice A8 bl.length c8) := by rw [cell_of_row _ _ _ _ _ _ hR9]; rfl
      have d0 : (w8.setCell ⟨w5.heap.size + 1, 1, none⟩ (.slice A8 bl.length c8)).cell? ⟨w.heap.size, 0, none⟩ = some (.slice none 0 0) := by rw [cell_of_row _ _ _ _ _ _ hR0]; rfl
      have d1 : (w8.setCell ⟨w5.heap.size + 1, 1, none⟩ (.slice A8 bl.length c8)).cell? ⟨w.heap.size, 1, none⟩ = some (.slice none 0 0) := by rw [cell_of_row _ _ _ _ _ _ hR0]; rfl
      have f0 := frozen_of_row _ w.heap.size 0 _ _ hR0
      have f1 := frozen_of_row _ w.heap.size 1 _ _ hR0
      clear hR9 hR0 hg9 q0 q7 q8 q81 qf1
      generalize w8.setCell ⟨w5.heap.size + 1, 1, none⟩ (.slice A8 bl.length c8) = W9 at *
      go_wp2_with fail
      exact bodyPost_ret (results_cell_row rfl _ _ w.heap.size 29 _ (0, 0) _ rfl (box2 HR9.out _ _).1 Tryd.underlying29 rfl rfl) rfl
        (draw_close hg HG9.out (box2 HR9.out _ _).2 HD9.out HIT9.out HSB9.out (by simp) (by simp only [ss] at hbl; omega) (by simp only [kk] at hp8; omega))

end Go.Proofs.YtfioaohadanjmaaDoor
