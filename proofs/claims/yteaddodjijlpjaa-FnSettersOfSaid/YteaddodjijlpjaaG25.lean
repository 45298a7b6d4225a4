import Derived.Test.YteaddodjijlpjaaG24
set_option linter.unusedVariables false

/- l1Parse. -/
namespace Go.Proofs.Yteaddodjijlpjaa
open Go.RowKit

theorem res_box {P : Program} {fn : Func} {p u : Tmp} {ty : TypeId} (h : fn.results = #[.cell p ty, .tmp u]) (tmps : Array Value) (w : World) (g : Nat) (t : TypeId) (cs : Array Value) (fr : Nat × Nat) (d : TypeDesc)
    (hp : tmps.getD p undef = .pointer (some ⟨g, 0, none⟩)) (hg : w.heap[g]? = some (.cells cs t fr))
    (hu : P.underlying ty = some d) (hd : (match d with | .struct _ | .array _ _ => true | _ => false) = true) (hi : (P.info? ty).map (·.size) = some cs.size) :
    (results fn tmps).run P w = .ok (.tuple #[.agg cs, tmps.getD u undef]) w := by
  rw [results_cell_tmp h, hp]
  simp [asAddr, run_loadVar_row w g t ty cs fr d hg hu hd hi, Result.andThen]
theorem stm_close {s : ByteArray} {w w3 W : World} {i op x y n next : Int} {tv ev : Value} {th el : List St} (h3 : Below w.heap.size w w3) (hs : w.heap.size < w3.heap.size) (hW : w3.grownBy W (some w.heap.size))
    (hT : StX w3 (fun b => w.heap.size + 1 ≤ b) tv th) (hE : StX w3 (fun b => w.heap.size + 1 ≤ b) ev el) (hn : next = -1 ∨ (i + 1 + szL th + szL el ≤ next ∧ next ≤ s.size + 10)) :
    StmRet s i w (.returned (.tuple #[.agg #[.int .i64 op, .int .i64 x, .int .i64 y, .int .i64 n, tv, ev], .int .i64 next])) W := by
  have hk : ∀ b, w.heap.size + 1 ≤ b → b < w3.heap.size → w.heap.size ≤ b ∧ W.heap[b]? = w3.heap[b]? := fun b hb hl => ⟨by omega, hW.block b hl (fun e => by injection e with e; omega)⟩
  have hbl : Below w.heap.size w3 W := ⟨hW.os, hW.tape, hW.output, hW.size, fun k hk => hW.block k (by omega) (fun e => by injection e with e; omega)⟩
  exact ⟨op, x, y, n, tv, ev, th, el, next, rfl, hT.frame hW.size hk, hE.frame hW.size hk, hn, h3.trans hbl⟩
theorem stm_close0 {s : ByteArray} {w : World} {i op x y n next : Int} (o : Obj) (hn : next = -1 ∨ (i + 1 ≤ next ∧ next ≤ s.size + 10)) :
    StmRet s i w (.returned (.tuple #[.agg #[.int .i64 op, .int .i64 x, .int .i64 y, .int .i64 n, .slice none 0 0, .slice none 0 0], .int .i64 next])) (w.alloc o) :=
  ⟨op, x, y, n, _, _, [], [], next, rfl, StX.nil _ _, StX.nil _ _, hn.imp id fun h => ⟨by simp only [szL]; omega, h.2⟩, bel_a _ _⟩

set_option maxHeartbeats 16000000 in
set_option maxRecDepth 100000 in
theorem paOk (d : Int) (h0 : 0 ≤ d) (h1 : d ≤ 100) (hb' : BrOk (d - 1)) : PaOk d := by
  intro s i w hs hi0 hi1
  have HROW := Lib.hid (heap_alloc_new w (.cells #[.int .i64 0, .int .i64 0, .int .i64 0, .int .i64 0, .slice none 0 0, .slice none 0 0] 127))
  have z0 : (w.alloc (.cells #[.int .i64 0, .int .i64 0, .int .i64 0, .int .i64 0, .slice none 0 0, .slice none 0 0] 127)).cell? ⟨w.heap.size, 0, none⟩ = some (.int .i64 0) := by rw [cell_of_row _ _ _ _ _ _ HROW.out]; rfl
  have y0 : (w.alloc (.cells #[.int .i64 0, .int .i64 0, .int .i64 0, .int .i64 0, .slice none 0 0, .slice none 0 0] 127)).frozen? ⟨w.heap.size, 0, none⟩ = false := frozen_of_row _ _ 0 _ _ HROW.out
  have z1 : (w.alloc (.cells #[.int .i64 0, .int .i64 0, .int .i64 0, .int .i64 0, .slice none 0 0, .slice none 0 0] 127)).cell? ⟨w.heap.size, 1, none⟩ = some (.int .i64 0) := by rw [cell_of_row _ _ _ _ _ _ HROW.out]; rfl
  have y1 : (w.alloc (.cells #[.int .i64 0, .int .i64 0, .int .i64 0, .int .i64 0, .slice none 0 0, .slice none 0 0] 127)).frozen? ⟨w.heap.size, 1, none⟩ = false := frozen_of_row _ _ 1 _ _ HROW.out
  have z2 : (w.alloc (.cells #[.int .i64 0, .int .i64 0, .int .i64 0, .int .i64 0, .slice none 0 0, .slice none 0 0] 127)).cell? ⟨w.heap.size, 2, none⟩ = some (.int .i64 0) := by rw [cell_of_row _ _ _ _ _ _ HROW.out]; rfl
  have y2 : (w.alloc (.cells #[.int .i64 0, .int .i64 0, .int .i64 0, .int .i64 0, .slice none 0 0, .slice none 0 0] 127)).frozen? ⟨w.heap.size, 2, none⟩ = false := frozen_of_row _ _ 2 _ _ HROW.out
  have z3 : (w.alloc (.cells #[.int .i64 0, .int .i64 0, .int .i64 0, .int .i64 0, .slice none 0 0, .slice none 0 0] 127)).cell? ⟨w.heap.size, 3, none⟩ = some (.int .i64 0) := by rw [cell_of_row _ _ _ _ _ _ HROW.out]; rfl
  have y3 : (w.alloc (.cells #[.int .i64 0, .int .i64 0, .int .i64 0, .int .i64 0, .slice none 0 0, .slice none 0 0] 127)).frozen? ⟨w.heap.size, 3, none⟩ = false := frozen_of_row _ _ 3 _ _ HROW.out
  have z4 : (w.alloc (.cells #[.int .i64 0, .int .i64 0, .int .i64 0, .int .i64 0, .slice none 0 0, .slice none 0 0] 127)).cell? ⟨w.heap.size, 4, none⟩ = some (.slice none 0 0) := by rw [cell_of_row _ _ _ _ _ _ HROW.out]; rfl
  have y4 : (w.alloc (.cells #[.int .i64 0, .int .i64 0, .int .i64 0, .int .i64 0, .slice none 0 0, .slice none 0 0] 127)).frozen? ⟨w.heap.size, 4, none⟩ = false := frozen_of_row _ _ 4 _ _ HROW.out
  have z5 : (w.alloc (.cells #[.int .i64 0, .int .i64 0, .int .i64 0, .int .i64 0, .slice none 0 0, .slice none 0 0] 127)).cell? ⟨w.heap.size, 5, none⟩ = some (.slice none 0 0) := by rw [cell_of_row _ _ _ _ _ _ HROW.out]; rfl
  have y5 : (w.alloc (.cells #[.int .i64 0, .int .i64 0, .int .i64 0, .int .i64 0, .slice none 0 0, .slice none 0 0] 127)).frozen? ⟨w.heap.size, 5, none⟩ = false := frozen_of_row _ _ 5 _ _ HROW.out
  go_enter Try.func136, Try.ntmps136
  go_wp2_with fail
  refine (at_any s _ i _ hs (by decide) (by omega) (by omega)).mono ?_
  rintro e w1 ⟨b, rfl, rfl, hb⟩
  clear hb
  cases b
  · go_wp2_with fail
    refine (at_any s _ i _ hs (by decide) (by omega) (by omega)).mono ?_
    rintro e w1 ⟨b, rfl, rfl, hb⟩
    clear hb
    cases b
    · go_wp2_with fail
      refine (at_any s _ i _ hs (by decide) (by omega) (by omega)).mono ?_
      rintro e w1 ⟨b, rfl, rfl, hb⟩
      clear hb
      cases b
      · go_wp2_with fail
        refine (at_any s _ i _ hs (by decide) (by omega) (by omega)).mono ?_
        rintro e w1 ⟨b, rfl, rfl, hb⟩
        clear hb
        cases b
        · go_wp2_with fail
          refine (var_any s _ _ hs (by omega) (by omega)).mono ?_
          rintro e w1 ⟨nvar, rfl, rfl, hlo, hhi⟩
          by_cases hx0 : nvar < 0
          · go_wp2_with fail
            exact bodyPost_ret (res_box rfl _ _ w.heap.size 127 _ (0, 0) _ rfl (heap_alloc_new w _) Try.underlying127 rfl rfl) rfl (stm_close0 _ (.inl rfl))
          · go_wp2_with fail
            refine (at_any s _ _ _ hs (by decide) (by omega) (by omega)).mono ?_
            rintro e w1 ⟨b, rfl, rfl, hb⟩
            clear hb
            cases b
            · go_wp2_with fail
              exact bodyPost_ret (res_box rfl _ _ w.heap.size 127 _ (0, 0) _ rfl (heap_alloc_new w _) Try.underlying127 rfl rfl) rfl (stm_close0 _ (.inl rfl))
            · go_wp2_with fail
              refine (at_any s _ _ _ hs (by decide) (by omega) (by omega)).mono ?_
              rintro e w1 ⟨b, rfl, rfl, hb⟩
              clear hb
              cases b
              · go_wp2_with fail
                refine (at_any s _ _ _ hs (by decide) (by omega) (by omega)).mono ?_
                rintro e w1 ⟨b, rfl, rfl, hb⟩
                clear hb
                cases b
                · go_wp2_with fail
                  refine (at_any s _ _ _ hs (by decide) (by omega) (by omega)).mono ?_
                  rintro e w1 ⟨b, rfl, rfl, hb⟩
                  clear hb
                  cases b
                  · go_wp2_with fail
                    refine (at_any s _ _ _ hs (by decide) (by omega) (by omega)).mono ?_
                    rintro e w1 ⟨b, rfl, rfl, hb⟩
                    clear hb
                    cases b
                    · go_wp2_with fail
                      refine (digit_any s _ _ hs (by omega) (by omega)).mono ?_
                      rintro e w1 ⟨ndigit, rfl, rfl, hlo, hhi⟩
                      by_cases hdg : 0 ≤ ndigit
                      · go_wp2_with fail
                        refine (digit_any s _ _ hs (by omega) (by omega)).mono ?_
                        rintro e w1 ⟨nd2, rfl, rfl, hlo, hhi⟩
                        go_wp2_with fail
                        exact bodyPost_ret (res_box rfl _ _ w.heap.size 127 _ (0, 0) _ rfl (heap_alloc_new w _) Try.underlying127 rfl rfl) rfl (stm_close0 _ (.inr (by omega)))
                      · go_wp2_with fail
                        refine (var_any s _ _ hs (by omega) (by omega)).mono ?_
                        rintro e w1 ⟨ny, rfl, rfl, hlo, hhi⟩
                        go_wp2_with fail
                        exact bodyPost_ret (res_box rfl _ _ w.heap.size 127 _ (0, 0) _ rfl (heap_alloc_new w _) Try.underlying127 rfl rfl) rfl (stm_close0 _ (.inr (by omega)))
                    · go_wp2_with fail
                      refine (var_any s _ _ hs (by omega) (by omega)).mono ?_
                      rintro e w1 ⟨ny, rfl, rfl, hlo, hhi⟩
                      go_wp2_with fail
                      exact bodyPost_ret (res_box rfl _ _ w.heap.size 127 _ (0, 0) _ rfl (heap_alloc_new w _) Try.underlying127 rfl rfl) rfl (stm_close0 _ (.inr (by omega)))
                  · go_wp2_with fail
                    refine (var_any s _ _ hs (by omega) (by omega)).mono ?_
                    rintro e w1 ⟨ny, rfl, rfl, hlo, hhi⟩
                    go_wp2_with fail
                    exact bodyPost_ret (res_box rfl _ _ w.heap.size 127 _ (0, 0) _ rfl (heap_alloc_new w _) Try.underlying127 rfl rfl) rfl (stm_close0 _ (.inr (by omega)))
                · go_wp2_with fail
                  refine (var_any s _ _ hs (by omega) (by omega)).mono ?_
                  rintro e w1 ⟨ny, rfl, rfl, hlo, hhi⟩
                  go_wp2_with fail
                  exact bodyPost_ret (res_box rfl _ _ w.heap.size 127 _ (0, 0) _ rfl (heap_alloc_new w _) Try.underlying127 rfl rfl) rfl (stm_close0 _ (.inr (by omega)))
              · go_wp2_with fail
                refine (digit_any s _ _ hs (by omega) (by omega)).mono ?_
                rintro e w1 ⟨ndigit, rfl, rfl, hlo, hhi⟩
                go_wp2_with fail
                exact bodyPost_ret (res_box rfl _ _ w.heap.size 127 _ (0, 0) _ rfl (heap_alloc_new w _) Try.underlying127 rfl rfl) rfl (stm_close0 _ (.inr (by omega)))
        · go_wp2_with fail
          refine (var_any s _ _ hs (by omega) (by omega)).mono ?_
          rintro e w1 ⟨nvar, rfl, rfl, hlo, hhi⟩
          go_wp2_with fail
          refine (var_any s _ _ hs (by omega) (by omega)).mono ?_
          rintro e w1 ⟨ny, rfl, rfl, hlo, hhi⟩
          go_wp2_with fail
          exact bodyPost_ret (res_box rfl _ _ w.heap.size 127 _ (0, 0) _ rfl (heap_alloc_new w _) Try.underlying127 rfl rfl) rfl (stm_close0 _ (.inr (by omega)))
      · go_wp2_with fail
        refine (hb' s _ _ hs (by omega) (by omega)).mono ?_
        rintro e w2 ⟨v, l, mid, rfl, hx, hn, hbl⟩
        obtain ⟨A6, c6, rfl, -⟩ := hx.slice
        have HX := Lib.hid hx
        have HN := Lib.hid hn
        have hm0 : -1 ≤ mid := by omega
        have hm1 : mid ≤ s.size := by omega
        have HB := Lib.hid ((bel_a w (.cells #[.int .i64 0, .int .i64 0, .int .i64 0, .int .i64 0, .slice none 0 0, .slice none 0 0] 127)).trans (hbl.mono (by simp)))
        have hsz := hbl.size
        simp at hsz
        have HROW2 := Lib.hid ((hbl.block w.heap.size (by simp)).trans HROW.out)
        clear hx hn hbl z0 z1 z2 z3 z4 z5 y0 y1 y2 y3 y4 y5
        go_wp2_with fail
        refine (hb' s mid _ hs (by omega) (by omega)).mono ?_
        rintro e w3 ⟨v, l', next, rfl, hx', hn', hbl'⟩
        obtain ⟨A7, c7, rfl, -⟩ := hx'.slice
        have HX' := Lib.hid hx'
        have HN' := Lib.hid hn'
        have hsz' := hbl'.size
        have HXX := Lib.hid (HX.out.frame (w' := w3) (P' := fun b => w.heap.size + 1 ≤ b) hsz' fun b hb hl => ⟨by simp at hb; omega, hbl'.block b hl⟩)
        have HB' := Lib.hid (HB.out.trans (hbl'.mono (by omega)))
        have HROW3 := Lib.hid ((hbl'.block w.heap.size (by omega)).trans HROW2.out)
        clear hx' hn' hbl'
        have z0 : w3.cell? ⟨w.heap.size, 0, none⟩ = some (.int .i64 0) := by rw [cell_of_row _ _ _ _ _ _ HROW3.out]; rfl
        have y0 : w3.frozen? ⟨w.heap.size, 0, none⟩ = false := frozen_of_row _ _ 0 _ _ HROW3.out
        have z1 : w3.cell? ⟨w.heap.size, 1, none⟩ = some (.int .i64 0) := by rw [cell_of_row _ _ _ _ _ _ HROW3.out]; rfl
        have y1 : w3.frozen? ⟨w.heap.size, 1, none⟩ = false := frozen_of_row _ _ 1 _ _ HROW3.out
        have z2 : w3.cell? ⟨w.heap.size, 2, none⟩ = some (.int .i64 0) := by rw [cell_of_row _ _ _ _ _ _ HROW3.out]; rfl
        have y2 : w3.frozen? ⟨w.heap.size, 2, none⟩ = false := frozen_of_row _ _ 2 _ _ HROW3.out
        have z3 : w3.cell? ⟨w.heap.size, 3, none⟩ = some (.int .i64 0) := by rw [cell_of_row _ _ _ _ _ _ HROW3.out]; rfl
        have y3 : w3.frozen? ⟨w.heap.size, 3, none⟩ = false := frozen_of_row _ _ 3 _ _ HROW3.out
        have z4 : w3.cell? ⟨w.heap.size, 4, none⟩ = some (.slice none 0 0) := by rw [cell_of_row _ _ _ _ _ _ HROW3.out]; rfl
        have y4 : w3.frozen? ⟨w.heap.size, 4, none⟩ = false := frozen_of_row _ _ 4 _ _ HROW3.out
        have z5 : w3.cell? ⟨w.heap.size, 5, none⟩ = some (.slice none 0 0) := by rw [cell_of_row _ _ _ _ _ _ HROW3.out]; rfl
        have y5 : w3.frozen? ⟨w.heap.size, 5, none⟩ = false := frozen_of_row _ _ 5 _ _ HROW3.out
        go_wp2_with fail
        refine bodyPost_ret (res_box rfl _ _ w.heap.size 127 _ (0, 0) _ rfl (box6 HROW3.out _ _ _ _ _ _).1 Try.underlying127 rfl rfl) rfl (stm_close HB'.out (by omega) (box6 HROW3.out _ _ _ _ _ _).2 HXX.out (HX'.out.frame (Nat.le_refl _) fun b hb _ => ⟨by omega, rfl⟩) (by rcases HN'.out with ⟨h1, _⟩ | ⟨h0, h1, h2⟩ <;> rcases HN.out with ⟨h3, _⟩ | ⟨_, h3, h4⟩ <;> omega))
    · go_wp2_with fail
      refine (hb' s _ _ hs (by omega) (by omega)).mono ?_
      rintro e w2 ⟨v, l, next, rfl, hx, hn, hbl⟩
      obtain ⟨A6, c6, rfl, -⟩ := hx.slice
      have HX := Lib.hid hx
      have HN := Lib.hid hn
      have HB := Lib.hid ((bel_a w (.cells #[.int .i64 0, .int .i64 0, .int .i64 0, .int .i64 0, .slice none 0 0, .slice none 0 0] 127)).trans (hbl.mono (by simp)))
      have hsz := hbl.size
      simp at hsz
      have HROW2 := Lib.hid ((hbl.block w.heap.size (by simp)).trans HROW.out)
      clear hx hn hbl z0 z1 z2 z3 z4 z5 y0 y1 y2 y3 y4 y5
      have z0 : w2.cell? ⟨w.heap.size, 0, none⟩ = some (.int .i64 0) := by rw [cell_of_row _ _ _ _ _ _ HROW2.out]; rfl
      have y0 : w2.frozen? ⟨w.heap.size, 0, none⟩ = false := frozen_of_row _ _ 0 _ _ HROW2.out
      have z1 : w2.cell? ⟨w.heap.size, 1, none⟩ = some (.int .i64 0) := by rw [cell_of_row _ _ _ _ _ _ HROW2.out]; rfl
      have y1 : w2.frozen? ⟨w.heap.size, 1, none⟩ = false := frozen_of_row _ _ 1 _ _ HROW2.out
      have z2 : w2.cell? ⟨w.heap.size, 2, none⟩ = some (.int .i64 0) := by rw [cell_of_row _ _ _ _ _ _ HROW2.out]; rfl
      have y2 : w2.frozen? ⟨w.heap.size, 2, none⟩ = false := frozen_of_row _ _ 2 _ _ HROW2.out
      have z3 : w2.cell? ⟨w.heap.size, 3, none⟩ = some (.int .i64 0) := by rw [cell_of_row _ _ _ _ _ _ HROW2.out]; rfl
      have y3 : w2.frozen? ⟨w.heap.size, 3, none⟩ = false := frozen_of_row _ _ 3 _ _ HROW2.out
      have z4 : w2.cell? ⟨w.heap.size, 4, none⟩ = some (.slice none 0 0) := by rw [cell_of_row _ _ _ _ _ _ HROW2.out]; rfl
      have y4 : w2.frozen? ⟨w.heap.size, 4, none⟩ = false := frozen_of_row _ _ 4 _ _ HROW2.out
      have z5 : w2.cell? ⟨w.heap.size, 5, none⟩ = some (.slice none 0 0) := by rw [cell_of_row _ _ _ _ _ _ HROW2.out]; rfl
      have y5 : w2.frozen? ⟨w.heap.size, 5, none⟩ = false := frozen_of_row _ _ 5 _ _ HROW2.out
      go_wp2_with fail
      refine bodyPost_ret (res_box rfl _ _ w.heap.size 127 _ (0, 0) _ rfl (box6 HROW2.out _ _ _ _ _ _).1 Try.underlying127 rfl rfl) rfl (stm_close HB.out (by omega) (box6 HROW2.out _ _ _ _ _ _).2 (HX.out.frame (Nat.le_refl _) fun b hb _ => ⟨by simp at hb; omega, rfl⟩) (StX.nil _ _) (by rcases HN.out with ⟨h1, _⟩ | ⟨_, h1, h2⟩ <;> simp only [szL] <;> omega))
  · go_wp2_with fail
    refine (var_any s _ _ hs (by omega) (by omega)).mono ?_
    rintro e w1 ⟨nvar, rfl, rfl, hlo, hhi⟩
    go_wp2_with fail
    exact bodyPost_ret (res_box rfl _ _ w.heap.size 127 _ (0, 0) _ rfl (heap_alloc_new w _) Try.underlying127 rfl rfl) rfl (stm_close0 _ (.inr (by omega)))

end Go.Proofs.Yteaddodjijlpjaa
