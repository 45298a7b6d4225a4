import Derived.Test.YteaddodjijlpjaaG25
import Derived.Test.YteaddodjijlpjaaG27
set_option linter.unusedVariables false

/- l1ParseList closed; spec.ParseProgram. -/
namespace Go.Proofs.Yteaddodjijlpjaa
open Go.RowKit

theorem lstOk_nat (n : Nat) (hn : n ≤ 100) : LstOk (n : Int) := by
  induction n with
  | zero =>
    refine lstOk _ (by omega) (by omega) (paOk _ (by omega) (by omega) (brOk _ (by omega) (by omega) fun h => ?_))
    exact absurd h (by omega)
  | succ n ih =>
    refine lstOk _ (by omega) (by omega) (paOk _ (by omega) (by omega) (brOk _ (by omega) (by omega) fun _ => ?_))
    have e : ((n + 1 : Nat) : Int) - 1 = (n : Nat) := by omega
    rw [e]
    exact ih (by omega)

/-- The slice value v reads as the ints l, in a block of P. -/
def IntX (w : World) (P : Nat → Prop) (v : Value) (l : List Int) : Prop :=
  ∃ A c, v = .slice A l.length c ∧ l.length ≤ c ∧ l.length ≤ 4194304 ∧ (0 < l.length → ∃ b off, A = some ⟨b, off, none⟩ ∧ P b ∧ b < w.heap.size ∧ ∀ j, j < l.length → w.cell? ⟨b, off + j, none⟩ = some (.int .i64 (l.getD j 0)))
theorem IntX.nil (w : World) (P : Nat → Prop) : IntX w P (.slice none 0 0) [] := ⟨none, 0, rfl, Nat.le_refl _, by simp, fun h => absurd h (by simp)⟩
theorem IntX.frame {w w' : World} {P P' : Nat → Prop} {v : Value} {l : List Int} (h : IntX w P v l) (hs : w.heap.size ≤ w'.heap.size) (hk : ∀ b, P b → b < w.heap.size → P' b ∧ w'.heap[b]? = w.heap[b]?) : IntX w' P' v l := by
  obtain ⟨A, c, e, h1, h2, h3⟩ := h
  refine ⟨A, c, e, h1, h2, fun hn => ?_⟩
  obtain ⟨b, off, e, hb, hlt, hc⟩ := h3 hn
  obtain ⟨k1, k2⟩ := hk b hb hlt
  exact ⟨b, off, e, k1, by omega, fun j hj => (World.cell?_of_block (w := w) (a := ⟨b, _, none⟩) k2).trans (hc j hj)⟩
theorem IntX.toS {w : World} {P : Nat → Prop} {v : Value} {l : List Int} (h : IntX w P v l) : IntS w w.heap.size v l := by
  obtain ⟨A, c, e, h1, h2, h3⟩ := h
  refine ⟨A, c, e, h1, h2, by simp, fun hn => ?_⟩
  obtain ⟨b, off, e, hb, hlt, hc⟩ := h3 hn
  refine ⟨b, off, e, hlt, fun j u hu => ?_⟩
  rw [List.getElem?_map] at hu
  rcases Nat.lt_or_ge j l.length with hj | hj
  · rw [List.getElem?_eq_getElem hj] at hu
    simp at hu
    rw [hc j hj, getD_lt hj, hu]
  · rw [List.getElem?_eq_none hj] at hu; cases hu
theorem IntX.slice {w : World} {P : Nat → Prop} {v : Value} {l : List Int} (h : IntX w P v l) : ∃ A c, v = .slice A l.length c ∧ l.length ≤ c := by
  obtain ⟨A, c, e, h1, h2, h3⟩ := h
  exact ⟨A, c, e, h1⟩
theorem OInts.toX {w : World} {base : Nat} {v : Value} {l : List Int} (h : OInts w base v l) (hl : l.length ≤ 4194304) : IntX w (fun b => base ≤ b) v l := by
  have hs := h.toS hl
  rcases h.2 with ⟨rfl, h0⟩ | ⟨g, cap, cur, rfl, hb, hh, hc, _⟩
  · have : l = [] := List.length_eq_zero_iff.1 h0
    subst this
    exact IntX.nil _ _
  · refine ⟨_, _, rfl, hc, hl, fun hn => ⟨g, 0, rfl, hb, ?_, fun j hj => ?_⟩⟩
    · rcases Nat.lt_or_ge g w.heap.size with hlt | hge
      · exact hlt
      · rw [Array.getElem?_eq_none hge] at hh; cases hh
    · obtain ⟨A', c', e', _, _, hr⟩ := hs
      injection e' with e1
      obtain ⟨b, off, e2, _, hcell⟩ := hr.int_at hn
      rw [e2] at e1
      injection e1 with e1
      injection e1 with e1 e3
      subst e1 e3
      exact hcell j hj

theorem OInts.other {w : World} {base g : Nat} {v : Value} {l : List Int} (h : OInts w base v l) (hg : g < base) (i : Nat) (u : Value) : OInts (w.setCell ⟨g, i, none⟩ u) base v l := by
  refine h.kept (grown_set w g i u) ?_
  rcases h.2 with ⟨rfl, _⟩ | ⟨g', cap, cur, rfl, hb, _⟩
  · exact .inl rfl
  · refine .inr ?_
    simp only [Value.ownBlock]
    intro e
    injection e with e
    omega

/-- the letters of the types are read up to k: the box of the program lies at g + 1, that of the result at g -/
def TyI (w : World) (g : Nat) (k : Nat) (wr : World) : Prop :=
  ∃ (v : Value) (l : List Int), l.length = k ∧ OInts wr (g + 2) v l ∧ wr.heap[g]? = some (.cells #[.slice none 0 0, .slice none 0 0] 26 (0, 0)) ∧ wr.heap[g + 1]? = some (.cells #[v, .slice none 0 0] 26 (0, 0)) ∧ Below w.heap.size w wr

def ParRet (w : World) (e : Ending) (w' : World) : Prop :=
  ∃ (vt vb : Value) (ts : List Int) (l : List St) (ok : Bool), e = .returned (.tuple #[.agg #[vt, vb], .bool ok]) ∧ IntX w' (fun b => w.heap.size ≤ b) vt ts ∧ StX w' (fun b => w.heap.size ≤ b) vb l ∧ ts.length ≤ 600 ∧ szL l ≤ 600 ∧ Below w.heap.size w w'

theorem box2 {w : World} {b : Nat} {t : TypeId} {v0 v1 : Value} (h : w.heap[b]? = some (.cells #[v0, v1] t (0, 0))) (u0 u1 : Value) :
    ((w.setCell ⟨b, 0, none⟩ u0).setCell ⟨b, 1, none⟩ u1).heap[b]? = some (.cells #[u0, u1] t (0, 0)) ∧ w.grownBy ((w.setCell ⟨b, 0, none⟩ u0).setCell ⟨b, 1, none⟩ u1) (some b) := by
  refine ⟨?_, grown_tr (grown_set w b 0 u0) (grown_set _ b 1 u1)⟩
  have h1 := heap_setCell_same w b 0 _ _ u0 h
  have h2 := heap_setCell_same _ b 1 _ _ u1 h1
  rw [h2]; rfl
/-- the end: the result's box lies at g -/
theorem par_close {w w3 W : World} {g : Nat} {vt vb : Value} {ts : List Int} {l : List St} {ok : Bool} (hg : g = w.heap.size) (h3 : Below w.heap.size w w3) (hW : w3.grownBy W (some g))
    (hT : IntX w3 (fun b => g + 1 ≤ b) vt ts) (hB : StX w3 (fun b => g + 1 ≤ b) vb l) (ht : ts.length ≤ 600) (hl : szL l ≤ 600) :
    ParRet w (.returned (.tuple #[.agg #[vt, vb], .bool ok])) W := by
  subst hg
  have hk : ∀ b, w.heap.size + 1 ≤ b → b < w3.heap.size → w.heap.size ≤ b ∧ W.heap[b]? = w3.heap[b]? := fun b hb hl => ⟨by omega, hW.block b hl (fun e => by injection e with e; omega)⟩
  have hs3 := h3.size
  have hbl : Below w.heap.size w3 W := ⟨hW.os, hW.tape, hW.output, hW.size, fun k hk => hW.block k (by omega) (fun e => by injection e with e; omega)⟩
  exact ⟨vt, vb, ts, l, ok, rfl, hT.frame hW.size hk, hB.frame hW.size hk, ht, hl, h3.trans hbl⟩

set_option maxHeartbeats 4000000 in
set_option maxRecDepth 100000 in
theorem parseProgram_any (s : ByteArray) (w : World) (hs : s.size ≤ 600) : Calls Try.prog 108 #[.string s] w (ParRet w) := by
  have L4 := Lib.hid (lstOk_nat 4 (by omega))
  go_enter Try.func108, Try.ntmps108
  go_wp2_with fail
  go_loopw [5] (fun i wr => ∃ (k : Nat), k ≤ s.size ∧ i = .int .i64 k ∧ TyI w w.heap.size k wr) (fun i _ => s.size - (intOf i).toNat)
  case atStart =>
    have h0 := heap_alloc_new w (.cells #[.slice none 0 0, .slice none 0 0] 26)
    have h1 := heap_alloc_new (w.alloc (.cells #[.slice none 0 0, .slice none 0 0] 26)) (.cells #[.slice none 0 0, .slice none 0 0] 26)
    have hb := bel_a (w.alloc (.cells #[.slice none 0 0, .slice none 0 0] 26)) (.cells #[.slice none 0 0, .slice none 0 0] 26)
    exact ⟨0, Nat.zero_le _, rfl, _, [], rfl, OInts.nil _ _, (hb.block _ (by simp)).trans h0, by simpa using h1, (bel_a w _).trans (hb.mono (by simp))⟩
  case round =>
    obtain ⟨k, hk, rfl, v, l, hlk, hos, hr0, hr1, hbw⟩ := hrel
    obtain ⟨A, c, rfl, hc⟩ := hos.slice
    have p0 : wr.cell? ⟨w.heap.size, 0, none⟩ = some (.slice none 0 0) := by rw [cell_of_row _ _ _ _ _ _ hr0]; rfl
    have p1 : wr.cell? ⟨w.heap.size, 1, none⟩ = some (.slice none 0 0) := by rw [cell_of_row _ _ _ _ _ _ hr0]; rfl
    have q0 : wr.cell? ⟨w.heap.size + 1, 0, none⟩ = some (.slice A l.length c) := by rw [cell_of_row _ _ _ _ _ _ hr1]; rfl
    have q1 : wr.cell? ⟨w.heap.size + 1, 1, none⟩ = some (.slice none 0 0) := by rw [cell_of_row _ _ _ _ _ _ hr1]; rfl
    have pf0 := frozen_of_row wr w.heap.size 0 _ _ hr0
    have pf1 := frozen_of_row wr w.heap.size 1 _ _ hr0
    have hg : w.heap.size + 1 < wr.heap.size := by
      rcases Nat.lt_or_ge (w.heap.size + 1) wr.heap.size with h | h
      · exact h
      · rw [Array.getElem?_eq_none h] at hr1; cases hr1
    have HR0 := Lib.hid hr0
    have HR1 := Lib.hid hr1
    have HOS := Lib.hid hos
    have HBW := Lib.hid hbw
    have hll : l.length ≤ 600 := by omega
    have HLK := Lib.hid hlk
    clear hr0 hr1 hos hbw hlk
    by_cases hlt : k < s.size
    · go_wp2_with (at_builtin; go_must (refine wpList_push_int rfl (.tmp 36) (.tmp 38) rfl HOS.out (by omega) (by omega) _ rfl rfl ?_); intro v' w' hP' hE'; (have HE := Lib.hid ((Evo.alloc (w.heap.size + 2) 3 wr _).trans hE')); (generalize hl1 : l ++ [_] = l1 at hP'); (have HL1 : Hid (l1.length = k + 1) := Lib.hid (by rw [← hl1]; simp [HLK.out])); clear hl1; (have HP := Lib.hid hP'); (obtain ⟨A', c', rfl, hc'⟩ := hP'.slice); clear hE' hP'; (have hrow := HE.out.box HR1.out (by decide)); (have HROW := Lib.hid hrow); (have q0' : w'.cell? ⟨w.heap.size + 1, 0, none⟩ = some (.slice A l.length c) := by rw [cell_of_row _ _ _ _ _ _ hrow]; rfl); (have qf0 := frozen_of_row w' (w.heap.size + 1) 0 _ _ hrow); clear hrow)
      all_goals (try (case roundEnd =>
        exact ⟨⟨k + 1, by omega, by go_num, _, l1, HL1.out, HP.out.other (by omega) 0 _, (heap_setCell_other _ ⟨w.heap.size + 1, 0, none⟩ w.heap.size _ (by simp)).trans (HE.out.box HR0.out (by decide)), (heap_setCell_same _ (w.heap.size + 1) 0 _ _ _ HROW.out).trans (by simp), (HBW.out.trans (HE.out.below (by omega) |>.mono (by omega))).setCell (p := ⟨w.heap.size + 1, 0, none⟩) (by show w.heap.size ≤ w.heap.size + 1; omega) _⟩, by simp [intOf] <;> omega⟩))
      refine (L4.out s _ _ (by omega) (by omega) (by omega)).mono ?_
      rintro e w2 ⟨lv, bl, next, rfl, hx, hn, hb2⟩
      obtain ⟨A6, c6, rfl, -⟩ := hx.slice
      have hs2 := hb2.size
      have hbl : szL bl ≤ 600 := by
        rcases hn with ⟨_, h⟩ | ⟨_, h, h2⟩
        · rw [h]; simp [szL]
        · omega
      have HX := Lib.hid hx
      have r0 := (hb2.block _ (by omega)).trans HR0.out
      have r1 := (hb2.block _ (by omega)).trans HR1.out
      have HOS2 : Hid (OInts w2 (w.heap.size + 2) (.slice A l.length c) l) := Lib.hid (HOS.out.kept (grown_bel hb2 (Nat.le_refl _) none) (by cases (Value.slice A l.length c).ownBlock <;> simp))
      have HBW2 := Lib.hid (HBW.out.trans (hb2.mono (by omega)))
      have a0 : w2.cell? ⟨w.heap.size + 1, 0, none⟩ = some (.slice A l.length c) := by rw [cell_of_row _ _ _ _ _ _ r1]; rfl
      have a1 : w2.cell? ⟨w.heap.size + 1, 1, none⟩ = some (.slice none 0 0) := by rw [cell_of_row _ _ _ _ _ _ r1]; rfl
      have af1 := frozen_of_row w2 (w.heap.size + 1) 1 _ _ r1
      have HW1 := Lib.hid ((heap_setCell_same _ (w.heap.size + 1) 1 _ _ (.slice A6 bl.length c6) r1).trans (by simp : _ = some (Obj.cells #[.slice A l.length c, .slice A6 bl.length c6] 26 (0, 0))))
      have HW0 := Lib.hid ((heap_setCell_other _ ⟨w.heap.size + 1, 1, none⟩ w.heap.size (.slice A6 bl.length c6) (by simp)).trans r0)
      have hgs := grown_set w2 (w.heap.size + 1) 1 (.slice A6 bl.length c6)
      have HOS3 := Lib.hid (HOS2.out.other (g := w.heap.size + 1) (by omega) 1 (.slice A6 bl.length c6))
      have HX3 : Hid (StX (w2.setCell ⟨w.heap.size + 1, 1, none⟩ (.slice A6 bl.length c6)) (fun b => w.heap.size + 2 ≤ b) (.slice A6 bl.length c6) bl) := Lib.hid (hx.frame hgs.size fun b hb hl => ⟨by omega, hgs.block b hl (fun e => by injection e with e; omega)⟩)
      have HB3 := Lib.hid (HBW2.out.setCell (p := ⟨w.heap.size + 1, 1, none⟩) (by show w.heap.size ≤ w.heap.size + 1; omega) (.slice A6 bl.length c6))
      have HN := Lib.hid hn
      have hs3 : (w2.setCell ⟨w.heap.size + 1, 1, none⟩ (.slice A6 bl.length c6)).heap.size = w2.heap.size := size_set _ _ _
      have b0 : w2.cell? ⟨w.heap.size, 0, none⟩ = some (.slice none 0 0) := by rw [cell_of_row _ _ _ _ _ _ r0]; rfl
      have b1 : w2.cell? ⟨w.heap.size, 1, none⟩ = some (.slice none 0 0) := by rw [cell_of_row _ _ _ _ _ _ r0]; rfl
      have bf0 := frozen_of_row w2 w.heap.size 0 _ _ r0
      have bf1 := frozen_of_row w2 w.heap.size 1 _ _ r0
      clear r0 r1 hx hb2 hn hgs p0 p1 q0 q1 pf0 pf1
      by_cases hnx : next = s.size
      · subst hnx
        go_wp2_with fail
        refine (sProgramValid_any _ _ l bl _ _ (HOS3.out.toS (by omega)) HX3.out.toS (Nat.le_refl _) (by omega)).mono ?_
        rintro e w4 ⟨rfl, hb4⟩
        have hs4 := hb4.size
        have HG4 := Lib.hid (Nat.lt_of_lt_of_le (by rw [hs3]; omega : w.heap.size + 1 < _) hs4)
        have t0 := (hb4.block _ (by rw [hs3]; omega)).trans HW0.out
        have t1 := (hb4.block _ (by rw [hs3]; omega)).trans HW1.out
        have HT0 := Lib.hid t0
        have HT1 := Lib.hid t1
        have HX4 : Hid (StX w4 (fun b => w.heap.size + 1 ≤ b) (.slice A6 bl.length c6) bl) := Lib.hid (HX3.out.frame hs4 fun b hb hl => ⟨by omega, hb4.block b hl⟩)
        have HI4 : Hid (IntX w4 (fun b => w.heap.size + 1 ≤ b) (.slice A l.length c) l) := Lib.hid ((HOS3.out.toX (by omega)).frame hs4 fun b hb hl => ⟨by omega, hb4.block b hl⟩)
        have HB4 := Lib.hid (HB3.out.trans (hb4.mono HB3.out.size))
        have d0 : w4.cell? ⟨w.heap.size, 0, none⟩ = some (.slice none 0 0) := by rw [cell_of_row _ _ _ _ _ _ t0]; rfl
        have d1 : w4.cell? ⟨w.heap.size, 1, none⟩ = some (.slice none 0 0) := by rw [cell_of_row _ _ _ _ _ _ t0]; rfl
        have df0 := frozen_of_row w4 w.heap.size 0 _ _ t0
        have df1 := frozen_of_row w4 w.heap.size 1 _ _ t0
        have e0 : w4.cell? ⟨w.heap.size + 1, 0, none⟩ = some (.slice A l.length c) := by rw [cell_of_row _ _ _ _ _ _ t1]; rfl
        have e1 : w4.cell? ⟨w.heap.size + 1, 1, none⟩ = some (.slice A6 bl.length c6) := by rw [cell_of_row _ _ _ _ _ _ t1]; rfl
        clear t0 t1 a0 a1 af1 b0 b1 bf0 bf1 hb4 hs3 hs4
        cases hv : validP l bl
        · clear hv
          go_wp2_with fail
          exact bodyPost_ret (res_box (p := 2) (u := 3) (ty := 26) rfl _ _ w.heap.size 26 _ (0, 0) _ rfl (box2 HT0.out _ _).1 Try.underlying26 rfl rfl) rfl (par_close rfl HB4.out (box2 HT0.out _ _).2 (IntX.nil _ _) (StX.nil _ _) (by (first | omega | simp)) (by (first | omega | simp [szL])))
        · have HV := Lib.hid hv
          clear hv
          go_wp2_with fail
          refine (l1Program_any _ _ l bl _ _ HI4.out.toS HX4.out.toS (Nat.le_refl _) HV.out).mono ?_
          rintro e w5 ⟨s5, rfl, -, hb5⟩
          have hs5 := hb5.size
          have t0 := (hb5.block _ (by have := HG4.out; omega)).trans HT0.out
          have t1 := (hb5.block _ HG4.out).trans HT1.out
          have HU0 := Lib.hid t0
          have HX5 : Hid (StX w5 (fun b => w.heap.size + 1 ≤ b) (.slice A6 bl.length c6) bl) := Lib.hid (HX4.out.frame hs5 fun b hb hl => ⟨by omega, hb5.block b hl⟩)
          have HI5 : Hid (IntX w5 (fun b => w.heap.size + 1 ≤ b) (.slice A l.length c) l) := Lib.hid (HI4.out.frame hs5 fun b hb hl => ⟨by omega, hb5.block b hl⟩)
          have HB5 := Lib.hid (HB4.out.trans (hb5.mono HB4.out.size))
          have f0 : w5.cell? ⟨w.heap.size, 0, none⟩ = some (.slice none 0 0) := by rw [cell_of_row _ _ _ _ _ _ t0]; rfl
          have f1 : w5.cell? ⟨w.heap.size, 1, none⟩ = some (.slice none 0 0) := by rw [cell_of_row _ _ _ _ _ _ t0]; rfl
          have ff0 := frozen_of_row w5 w.heap.size 0 _ _ t0
          have ff1 := frozen_of_row w5 w.heap.size 1 _ _ t0
          have g0 : w5.cell? ⟨w.heap.size + 1, 0, none⟩ = some (.slice A l.length c) := by rw [cell_of_row _ _ _ _ _ _ t1]; rfl
          have g1 : w5.cell? ⟨w.heap.size + 1, 1, none⟩ = some (.slice A6 bl.length c6) := by rw [cell_of_row _ _ _ _ _ _ t1]; rfl
          clear t0 t1 d0 d1 df0 df1 e0 e1 hb5 hs5
          go_wp2_with fail
          · exact bodyPost_ret (res_box (p := 2) (u := 3) (ty := 26) rfl _ _ w.heap.size 26 _ (0, 0) _ rfl (box2 HU0.out _ _).1 Try.underlying26 rfl rfl) rfl (par_close rfl HB5.out (box2 HU0.out _ _).2 (IntX.nil _ _) (StX.nil _ _) (by (first | omega | simp)) (by (first | omega | simp [szL])))
          · exact bodyPost_ret (res_box (p := 2) (u := 3) (ty := 26) rfl _ _ w.heap.size 26 _ (0, 0) _ rfl (box2 HU0.out _ _).1 Try.underlying26 rfl rfl) rfl (par_close rfl HB5.out (box2 HU0.out _ _).2 HI5.out HX5.out (by (first | omega | simp)) (by (first | omega | simp [szL])))
      · go_wp2_with fail
        exact bodyPost_ret (res_box (p := 2) (u := 3) (ty := 26) rfl _ _ w.heap.size 26 _ (0, 0) _ rfl (box2 HW0.out _ _).1 Try.underlying26 rfl rfl) rfl (par_close rfl HB3.out (box2 HW0.out _ _).2 (IntX.nil _ _) (StX.nil _ _) (by simp) (by simp [szL]))
    · go_wp2_with fail
      exact bodyPost_ret (res_box (p := 2) (u := 3) (ty := 26) rfl _ _ w.heap.size 26 _ (0, 0) _ rfl (box2 HR0.out _ _).1 Try.underlying26 rfl rfl) rfl (par_close rfl HBW.out (box2 HR0.out _ _).2 (IntX.nil _ _) (StX.nil _ _) (by simp) (by simp [szL]))

end Go.Proofs.Yteaddodjijlpjaa
