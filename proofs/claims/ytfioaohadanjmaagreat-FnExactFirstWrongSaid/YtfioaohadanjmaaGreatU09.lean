import Derived.Test.YtfioaohadanjmaaGreatU07
import Derived.Test.YtfioaohadanjmaaGreatU08
set_option linter.unusedVariables false

/- toIntS, toStmt, toStmtS, toProgram: copies of a law's arguments. -/
namespace Go.Proofs.YtfioaohadanjmaaGreat
open Go.RowKit

theorem fill_set {xs : List Int} {k : Nat} (hk : k < xs.length) : (xs.take k ++ List.replicate (xs.length - k) (0 : Int)).set k (xs.getD k 0) = xs.take (k + 1) ++ List.replicate (xs.length - (k + 1)) 0 := by
  have hl : (xs.take k).length = k := by simp; omega
  rw [List.set_append_right _ _ (by omega), hl, Nat.sub_self, show xs.length - k = (xs.length - (k + 1)) + 1 by omega, List.replicate_succ, List.set_cons_zero, getD_lt hk, List.take_succ_eq_append_getElem hk, List.append_assoc, List.cons_append, List.nil_append]
theorem row_own {w : World} {b n : Nat} {xs : List Int} (h : RowB w b 3 (xs.map (.int .i64))) (hn : n = xs.length) (hl : xs.length ≤ maxLen) {base : Nat} (hb : base ≤ b) : OInts w base (.slice (some ⟨b, 0, none⟩) n n) xs := by
  subst hn
  exact ⟨by simp, .inr ⟨b, _, _, rfl, hb, h, Nat.le_refl _, hl, by simp, by rw [List.take_of_length_le (by simp)]⟩⟩
set_option maxHeartbeats 400000 in
theorem toIntS_any (v : Value) (xs : List Int) (B : Nat) (w : World) (h : IntS w B v xs) (hB : B ≤ w.heap.size) :
    Calls Tryz.prog 12 #[v] w (IntsOwn w xs) := by
  obtain ⟨A, c, rfl, hc, hm, hr⟩ := h
  have hmk := make_ints xs.length (by omega) w
  have e0 : (iv (List.replicate xs.length 0)).toArray = Array.replicate xs.length (Value.int .i64 0) := by simp [iv]
  rw [e0] at hmk
  have HR0 : Hid (RowB (w.alloc (.cells (Array.replicate xs.length (Value.int .i64 0)) 3)) w.heap.size 3 (List.replicate xs.length (Value.int .i64 0))) := Lib.hid (by have := RowB.new w (List.replicate xs.length (Value.int .i64 0)) 3; rwa [List.toArray_replicate] at this)
  have HB0 := Lib.hid (bel_a w (.cells (Array.replicate xs.length (Value.int .i64 0)) 3))
  have HRD := Lib.hid hr
  clear e0 hr
  go_enter Tryz.func12, Tryz.ntmps12
  go_wp2_with (at_builtin; fail)
  generalize w.alloc (.cells (Array.replicate xs.length (Value.int .i64 0)) 3) = W at *
  clear hmk
  go_loopw [4] (fun i wr => ∃ (k : Nat), k ≤ xs.length ∧ i = .int .i64 k ∧ RowB wr w.heap.size 3 ((xs.take k ++ List.replicate (xs.length - k) (0 : Int)).map (.int .i64)) ∧ Below w.heap.size w wr) (fun i _ => xs.length - (intOf i).toNat)
  case atStart => exact ⟨0, Nat.zero_le _, rfl, by simpa using HR0.out, HB0.out⟩
  case round =>
    obtain ⟨k, hk, rfl, hrow, hbw⟩ := hrel
    have HBW := Lib.hid hbw
    have HROW := Lib.hid hrow
    by_cases hlk : k < xs.length
    · obtain ⟨b, off, rfl, hb, hcell⟩ := (HRD.out.low hbw hB).int_at hlk
      have hck := hcell k hlk
      have ha : ∃ u, wr.cell? ⟨w.heap.size, k, none⟩ = some u := by
        rw [hrow.cell]
        exact ⟨_, List.getElem?_eq_getElem (by simp; omega)⟩
      obtain ⟨u, hu⟩ := ha
      have hf := hrow.frozen k
      have HS := Lib.hid (hrow.set_ k (.int .i64 (xs.getD k 0)))
      have HF := Lib.hid (fill_set hlk)
      have HBS := Lib.hid (hbw.setCell (p := ⟨w.heap.size, k, none⟩) (Nat.le_refl _) (.int .i64 (xs.getD k 0)))
      generalize xs.getD k 0 = x at *
      clear hcell hrow hbw
      go_wp2_with (at_builtin; fail)
      refine ⟨⟨k + 1, by omega, by go_num, ?_, HBS.out⟩, by simp [intOf] <;> omega⟩
      rw [← HF.out, List.map_set]
      exact HS.out
    · have hkl : k = xs.length := by omega
      have HKL := Lib.hid hkl
      clear hkl hrow hbw
      go_wp2_with (at_builtin; fail)
      go_ret
      have h2 := HROW.out
      rw [HKL.out] at h2
      exact ⟨_, rfl, row_own (by simpa using h2) rfl (by rw [maxLen_eq]; omega) (Nat.le_refl _), HBW.out⟩

/-- make([]Stmt, n) -/
theorem make_stmts (n : Nat) (hn : n ≤ 1048576) (W : World) : ∃ cs : List Value, cs.length = n * 6 ∧ (Instr.makeSlice 29 (.int .i64 (n : Int)) (.int .i64 (n : Int))).run Tryz.prog W = .ok (.slice (some ⟨W.heap.size, 0, none⟩) n n) (W.alloc (.cells cs.toArray 100)) := by
  obtain ⟨i0, hi0, hz0, hz1, hz2⟩ := info_parts Tryz.infoSt
  have h := run_make (P := Tryz.prog) W 29 100 i0 _ Tryz.underlying29 hi0 hz0 .i64 .i64 (n : Int) (n : Int) (by omega) (by omega) (by rw [hz2]; omega) (by omega)
  simp only [Int.toNat_natCast] at h
  rw [hz1] at h
  refine ⟨_, ?_, by rw [h, ← Array.toArray_toList (xs := madeCells _ _)]⟩
  rw [Array.length_toList, size_madeCells]
/-- the first k statements of l stand in the row cs -/
def TrP (w : World) (P : Nat → Prop) (cs : List Value) (l : List St) (k : Nat) : Prop :=
  ∃ tv ev : Nat → Value, ∀ i (h : i < l.length), i < k → (cs[i * 6]? = some (.int .i64 l[i].op) ∧ cs[i * 6 + 1]? = some (.int .i64 l[i].x) ∧ cs[i * 6 + 2]? = some (.int .i64 l[i].y) ∧ cs[i * 6 + 3]? = some (.int .i64 l[i].n)) ∧
    (cs[i * 6 + 4]? = some (tv i) ∧ cs[i * 6 + 5]? = some (ev i)) ∧ TrS w P true (tv i) l[i].th ∧ TrS w P true (ev i) l[i].el
theorem TrP.zero (w : World) (P : Nat → Prop) (cs : List Value) (l : List St) : TrP w P cs l 0 := ⟨fun _ => undef, fun _ => undef, fun i h h0 => absurd h0 (Nat.not_lt_zero _)⟩
theorem TrP.frame {w w' : World} {P : Nat → Prop} {cs : List Value} {l : List St} {k : Nat} (h : TrP w P cs l k) (hk : ∀ b, P b → b < w.heap.size → w'.heap[b]? = w.heap[b]?) : TrP w' P cs l k := by
  obtain ⟨tv, ev, h⟩ := h
  exact ⟨tv, ev, fun i hi hlt => by
    obtain ⟨h1, h2, h3, h4⟩ := h i hi hlt
    exact ⟨h1, h2, h3.frame fun b hp hb => ⟨hp, hk b hp hb⟩, h4.frame fun b hp hb => ⟨hp, hk b hp hb⟩⟩⟩
theorem TrP.step {w : World} {P : Nat → Prop} {cs cs' : List Value} {l : List St} {k : Nat} (h : TrP w P cs l k) (hk : k < l.length) {v1 v2 : Value}
    (hc : ∀ j, cs'[j]? = if k * 6 ≤ j ∧ j < k * 6 + 6 then ([.int .i64 l[k].op, .int .i64 l[k].x, .int .i64 l[k].y, .int .i64 l[k].n, v1, v2] : List Value)[j - k * 6]? else cs[j]?)
    (h1 : TrS w P true v1 l[k].th) (h2 : TrS w P true v2 l[k].el) : TrP w P cs' l (k + 1) := by
  obtain ⟨tv, ev, h⟩ := h
  refine ⟨fun i => if i = k then v1 else tv i, fun i => if i = k then v2 else ev i, fun i hi hlt => ?_⟩
  by_cases e : i = k
  · subst e
    simp only [if_true]
    rw [hc, hc, hc, hc, hc, hc, if_pos ⟨by omega, by omega⟩, if_pos ⟨by omega, by omega⟩, if_pos ⟨by omega, by omega⟩, if_pos ⟨by omega, by omega⟩, if_pos ⟨by omega, by omega⟩, if_pos ⟨by omega, by omega⟩]
    simp only [Nat.sub_self, Nat.add_sub_cancel_left]
    exact ⟨⟨rfl, rfl, rfl, rfl⟩, ⟨rfl, rfl⟩, h1, h2⟩
  · simp only [if_neg e]
    rw [hc, hc, hc, hc, hc, hc, if_neg (by omega), if_neg (by omega), if_neg (by omega), if_neg (by omega), if_neg (by omega), if_neg (by omega)]
    exact h i hi (by omega)
theorem TrP.done {w : World} {P Q : Nat → Prop} {cs : List Value} {l : List St} {b : Nat} (h : TrP w P cs l l.length) (hr : RowB w b 100 cs) (hc : cs.length = l.length * 6) (hb : Q b) (hk : ∀ b, P b → Q b) : TrS w Q true (.slice (some ⟨b, 0, none⟩) l.length l.length) l := by
  obtain ⟨tv, ev, h⟩ := h
  exact .mk b l.length cs l tv ev hb hr (by omega) (Nat.le_refl _) (fun _ i hi => (h i hi hi).1) (fun i hi => (h i hi hi).2.1) (fun i hi => (h i hi hi).2.2.1.frame fun b hp hb => ⟨hk b hp, rfl⟩) (fun i hi => (h i hi hi).2.2.2.frame fun b hp hb => ⟨hk b hp, rfl⟩)
/-- a copy of statements, the call's own -/
def TsRet (w : World) (l : List St) (e : Ending) (w' : World) : Prop := ∃ v, e = .returned v ∧ TrS w' (fun b => w.heap.size ≤ b) true v l ∧ Below w.heap.size w w'
def ToOk (m : Nat) : Prop := ∀ (v : Value) (l : List St) (B : Nat) (w : World), szL l ≤ m → StS w B v l → B ≤ w.heap.size → Calls Tryz.prog 39 #[v] w (TsRet w l)
set_option maxHeartbeats 800000 in
set_option maxRecDepth 100000 in
theorem toStmt_of (m : Nat) (ih : ToOk m) (op x y n : Int) (tv ev : Value) (th el : List St) (B : Nat) (w : World) (h1 : szL th ≤ m) (h2 : szL el ≤ m) (ht : StS w B tv th) (he : StS w B ev el) (hB : B ≤ w.heap.size) :
    Calls Tryz.prog 63 #[.agg #[.int .i64 op, .int .i64 x, .int .i64 y, .int .i64 n, tv, ev]] w fun e w' => ∃ v1 v2, e = .returned (.agg #[.int .i64 op, .int .i64 x, .int .i64 y, .int .i64 n, v1, v2]) ∧ TrS w' (fun b => w.heap.size ≤ b) true v1 th ∧ TrS w' (fun b => w.heap.size ≤ b) true v2 el ∧ Below w.heap.size w w' := by
  obtain ⟨A1, c1, rfl, hc1⟩ := ht.slice
  obtain ⟨A2, c2, rfl, hc2⟩ := he.slice
  have IH := Lib.hid ih
  obtain ⟨W, hW⟩ : ∃ W, W = ((w.alloc (.cells #[.int .i64 op, .int .i64 x, .int .i64 y, .int .i64 n, .slice A1 th.length c1, .slice A2 el.length c2] 88)).alloc (.cells #[.int .i64 0, .int .i64 0, .int .i64 0, .int .i64 0, .slice none 0 0, .slice none 0 0] 100)).alloc (.cells #[.int .i64 0, .int .i64 0, .int .i64 0, .int .i64 0, .slice none 0 0, .slice none 0 0] 100) := ⟨_, rfl⟩
  have HX := Lib.hid (((RowB.new w [.int .i64 op, .int .i64 x, .int .i64 y, .int .i64 n, .slice A1 th.length c1, .slice A2 el.length c2] 88).alloc (.cells #[.int .i64 0, .int .i64 0, .int .i64 0, .int .i64 0, .slice none 0 0, .slice none 0 0] 100)).alloc (.cells #[.int .i64 0, .int .i64 0, .int .i64 0, .int .i64 0, .slice none 0 0, .slice none 0 0] 100))
  have HR := Lib.hid ((RowB.new (w.alloc (.cells #[.int .i64 op, .int .i64 x, .int .i64 y, .int .i64 n, .slice A1 th.length c1, .slice A2 el.length c2] 88)) [.int .i64 0, .int .i64 0, .int .i64 0, .int .i64 0, .slice none 0 0, .slice none 0 0] 100).alloc (.cells #[.int .i64 0, .int .i64 0, .int .i64 0, .int .i64 0, .slice none 0 0, .slice none 0 0] 100))
  have HO := Lib.hid (RowB.new ((w.alloc (.cells #[.int .i64 op, .int .i64 x, .int .i64 y, .int .i64 n, .slice A1 th.length c1, .slice A2 el.length c2] 88)).alloc (.cells #[.int .i64 0, .int .i64 0, .int .i64 0, .int .i64 0, .slice none 0 0, .slice none 0 0] 100)) [.int .i64 0, .int .i64 0, .int .i64 0, .int .i64 0, .slice none 0 0, .slice none 0 0] 100)
  have hz1 : (w.alloc (.cells #[.int .i64 op, .int .i64 x, .int .i64 y, .int .i64 n, .slice A1 th.length c1, .slice A2 el.length c2] 88)).heap.size = w.heap.size + 1 := by simp
  have hz2 : ((w.alloc (.cells #[.int .i64 op, .int .i64 x, .int .i64 y, .int .i64 n, .slice A1 th.length c1, .slice A2 el.length c2] 88)).alloc (.cells #[.int .i64 0, .int .i64 0, .int .i64 0, .int .i64 0, .slice none 0 0, .slice none 0 0] 100)).heap.size = w.heap.size + 1 + 1 := by simp
  have HB0 := Lib.hid (((bel_a w (.cells #[.int .i64 op, .int .i64 x, .int .i64 y, .int .i64 n, .slice A1 th.length c1, .slice A2 el.length c2] 88)).alloc (by simp) (.cells #[.int .i64 0, .int .i64 0, .int .i64 0, .int .i64 0, .slice none 0 0, .slice none 0 0] 100)).alloc (by simp; omega) (.cells #[.int .i64 0, .int .i64 0, .int .i64 0, .int .i64 0, .slice none 0 0, .slice none 0 0] 100))
  rw [hz1] at HR
  rw [hz2] at HO
  rw [← hW] at HX HR HO HB0
  have HT := Lib.hid ht
  have HE := Lib.hid he
  have HW := Lib.hid hW
  clear hz1 hz2 ht he ih hW
  go_enter Tryz.func63, Tryz.ntmps63
  go_upto_region 2 with (at_builtin; fail)
  rw [← HW.out]
  clear HW
  have c0 := HX.out.cell 0
  have c1' := HX.out.cell 1
  have c2' := HX.out.cell 2
  have c3 := HX.out.cell 3
  have c4 := HX.out.cell 4
  have c5 := HX.out.cell 5
  have o0 := HO.out.cell 0
  have o1 := HO.out.cell 1
  have o2 := HO.out.cell 2
  have o3 := HO.out.cell 3
  have f0 := HO.out.frozen 0
  have f1 := HO.out.frozen 1
  have f2 := HO.out.frozen 2
  have f3 := HO.out.frozen 3
  simp only [List.getElem?_cons_zero, List.getElem?_cons_succ] at c0 c1' c2' c3 c4 c5 o0 o1 o2 o3
  go_wp2_with (at_builtin; fail)
  have HO := Lib.hid ((((HO.out.set_ 0 (.int .i64 op)).set_ 1 (.int .i64 x)).set_ 2 (.int .i64 y)).set_ 3 (.int .i64 n))
  have HX := Lib.hid ((((HX.out.other (g' := w.heap.size + 1 + 1) (by omega) 0 (.int .i64 op)).other (g' := w.heap.size + 1 + 1) (by omega) 1 (.int .i64 x)).other (g' := w.heap.size + 1 + 1) (by omega) 2 (.int .i64 y)).other (g' := w.heap.size + 1 + 1) (by omega) 3 (.int .i64 n))
  have HR := Lib.hid ((((HR.out.other (g' := w.heap.size + 1 + 1) (by omega) 0 (.int .i64 op)).other (g' := w.heap.size + 1 + 1) (by omega) 1 (.int .i64 x)).other (g' := w.heap.size + 1 + 1) (by omega) 2 (.int .i64 y)).other (g' := w.heap.size + 1 + 1) (by omega) 3 (.int .i64 n))
  have HB2 := Lib.hid ((((HB0.out.setCell (p := ⟨w.heap.size + 1 + 1, 0, none⟩) (by show w.heap.size ≤ w.heap.size + 1 + 1; omega) (.int .i64 op)).setCell (p := ⟨w.heap.size + 1 + 1, 1, none⟩) (by show w.heap.size ≤ w.heap.size + 1 + 1; omega) (.int .i64 x)).setCell (p := ⟨w.heap.size + 1 + 1, 2, none⟩) (by show w.heap.size ≤ w.heap.size + 1 + 1; omega) (.int .i64 y)).setCell (p := ⟨w.heap.size + 1 + 1, 3, none⟩) (by show w.heap.size ≤ w.heap.size + 1 + 1; omega) (.int .i64 n))
  clear c0 c1' c2' c3 c4 c5 o0 o1 o2 o3 f0 f1 f2 f3 HB0
  generalize (((W.setCell ⟨w.heap.size + 1 + 1, 0, none⟩ (.int .i64 op)).setCell ⟨w.heap.size + 1 + 1, 1, none⟩ (.int .i64 x)).setCell ⟨w.heap.size + 1 + 1, 2, none⟩ (.int .i64 y)).setCell ⟨w.heap.size + 1 + 1, 3, none⟩ (.int .i64 n) = W2 at *
  have hO := HO.out
  simp only [List.set_cons_zero, List.set_cons_succ] at hO
  have HO := Lib.hid hO
  clear hO
  have hs2 := HB2.out.size
  have hlx := HX.out.lt
  have hlo := HO.out.lt
  refine (IH.out _ th B W2 h1 (HT.out.low HB2.out hB) (by omega)).mono ?_
  rintro e w3 ⟨v3, rfl, ht3, hb3⟩
  obtain ⟨b3, c3, rfl, hp3, hl3, hc3⟩ := ht3.slice
  have HT3 := Lib.hid ht3
  have HB3 := Lib.hid hb3
  have HO := Lib.hid (HO.out.low hb3 hlo)
  have HX := Lib.hid (HX.out.low hb3 hlx)
  have HR := Lib.hid (HR.out.low hb3 HR.out.lt)
  have hs3 := hb3.size
  clear ht3 hb3
  have c5 := HX.out.cell 5
  have o4 := HO.out.cell 4
  have f4 := HO.out.frozen 4
  simp only [List.getElem?_cons_zero, List.getElem?_cons_succ] at c5 o4
  go_wp2_with (at_builtin; fail)
  have HO := Lib.hid (HO.out.set_ 4 (.slice (some ⟨b3, 0, none⟩) th.length c3))
  have HX := Lib.hid (HX.out.other (g' := w.heap.size + 1 + 1) (by omega) 4 (.slice (some ⟨b3, 0, none⟩) th.length c3))
  have HR := Lib.hid (HR.out.other (g' := w.heap.size + 1 + 1) (by omega) 4 (.slice (some ⟨b3, 0, none⟩) th.length c3))
  have HB4 := Lib.hid ((HB2.out.trans (HB3.out.mono hs2)).setCell (p := ⟨w.heap.size + 1 + 1, 4, none⟩) (by show w.heap.size ≤ w.heap.size + 1 + 1; omega) (.slice (some ⟨b3, 0, none⟩) th.length c3))
  have HT4 : Hid (TrS (w3.setCell ⟨w.heap.size + 1 + 1, 4, none⟩ (.slice (some ⟨b3, 0, none⟩) th.length c3)) (fun b => w.heap.size + 1 + 1 < b) true (.slice (some ⟨b3, 0, none⟩) th.length c3) th) := Lib.hid (HT3.out.frame fun b hp hb => ⟨by omega, heap_setCell_other w3 ⟨w.heap.size + 1 + 1, 4, none⟩ b _ (by show b ≠ w.heap.size + 1 + 1; omega)⟩)
  clear HT3 HB3 c5 o4 f4
  generalize w3.setCell ⟨w.heap.size + 1 + 1, 4, none⟩ (.slice (some ⟨b3, 0, none⟩) th.length c3) = W4 at *
  have hs4 := HB4.out.size
  have hlx := HX.out.lt
  have hlo := HO.out.lt
  refine (IH.out _ el B W4 h2 (HE.out.low HB4.out hB) (by omega)).mono ?_
  rintro e w5 ⟨v5, rfl, ht5, hb5⟩
  obtain ⟨b5, c5, rfl, hp5, hl5, hc5⟩ := ht5.slice
  have HT5 := Lib.hid ht5
  have HB5 := Lib.hid hb5
  have HO := Lib.hid (HO.out.low hb5 hlo)
  have HX := Lib.hid (HX.out.low hb5 hlx)
  have HR := Lib.hid (HR.out.low hb5 HR.out.lt)
  have HT4 := Lib.hid (HT4.out.bel hb5)
  have hs5 := hb5.size
  clear ht5 hb5
  have o5 := HO.out.cell 5
  have f5 := HO.out.frozen 5
  simp only [List.set_cons_zero, List.set_cons_succ, List.getElem?_cons_zero, List.getElem?_cons_succ] at o5
  go_upto_region 8 with (at_builtin; fail)
  have HO := Lib.hid (HO.out.set_ 5 (.slice (some ⟨b5, 0, none⟩) el.length c5))
  have HR := Lib.hid (HR.out.other (g' := w.heap.size + 1 + 1) (by omega) 5 (.slice (some ⟨b5, 0, none⟩) el.length c5))
  have HB6 := Lib.hid ((HB4.out.trans (HB5.out.mono hs4)).setCell (p := ⟨w.heap.size + 1 + 1, 5, none⟩) (by show w.heap.size ≤ w.heap.size + 1 + 1; omega) (.slice (some ⟨b5, 0, none⟩) el.length c5))
  have HT4 : Hid (TrS (w5.setCell ⟨w.heap.size + 1 + 1, 5, none⟩ (.slice (some ⟨b5, 0, none⟩) el.length c5)) (fun b => w.heap.size + 1 + 1 < b) true (.slice (some ⟨b3, 0, none⟩) th.length c3) th) := Lib.hid (HT4.out.frame fun b hp hb => ⟨hp, heap_setCell_other w5 ⟨w.heap.size + 1 + 1, 5, none⟩ b _ (by show b ≠ w.heap.size + 1 + 1; omega)⟩)
  have HT5 : Hid (TrS (w5.setCell ⟨w.heap.size + 1 + 1, 5, none⟩ (.slice (some ⟨b5, 0, none⟩) el.length c5)) (fun b => w.heap.size + 1 + 1 < b) true (.slice (some ⟨b5, 0, none⟩) el.length c5) el) := Lib.hid (HT5.out.frame fun b hp hb => ⟨by omega, heap_setCell_other w5 ⟨w.heap.size + 1 + 1, 5, none⟩ b _ (by show b ≠ w.heap.size + 1 + 1; omega)⟩)
  clear o5 f5
  generalize w5.setCell ⟨w.heap.size + 1 + 1, 5, none⟩ (.slice (some ⟨b5, 0, none⟩) el.length c5) = W6 at *
  have hO := HO.out
  simp only [List.set_cons_zero, List.set_cons_succ] at hO
  have r0 := HR.out.cell 0
  have r1 := HR.out.cell 1
  have r2 := HR.out.cell 2
  have r3 := HR.out.cell 3
  have r4 := HR.out.cell 4
  have r5 := HR.out.cell 5
  have rf0 := HR.out.frozen 0
  have rf1 := HR.out.frozen 1
  have rf2 := HR.out.frozen 2
  have rf3 := HR.out.frozen 3
  have rf4 := HR.out.frozen 4
  have rf5 := HR.out.frozen 5
  have o0 := hO.cell 0
  have o1 := hO.cell 1
  have o2 := hO.cell 2
  have o3 := hO.cell 3
  have o4 := hO.cell 4
  have o5 := hO.cell 5
  simp only [List.getElem?_cons_zero, List.getElem?_cons_succ] at r0 r1 r2 r3 r4 r5 o0 o1 o2 o3 o4 o5
  clear hO
  go_wp2_with (at_builtin; fail)
  have HR7 : RowB (W6.setCells (w.heap.size + 1) 0 [.int .i64 op, .int .i64 x, .int .i64 y, .int .i64 n, .slice (some ⟨b3, 0, none⟩) th.length c3, .slice (some ⟨b5, 0, none⟩) el.length c5]) (w.heap.size + 1) 100 _ := HR.out.putAll _ rfl
  have HB7 := HB6.out.trans (below_putL (B := w.heap.size) (g := w.heap.size + 1) (by omega) [.int .i64 op, .int .i64 x, .int .i64 y, .int .i64 n, .slice (some ⟨b3, 0, none⟩) th.length c3, .slice (some ⟨b5, 0, none⟩) el.length c5] 0 W6)
  have HT7 := HT4.out.frame (w' := W6.setCells (w.heap.size + 1) 0 [.int .i64 op, .int .i64 x, .int .i64 y, .int .i64 n, .slice (some ⟨b3, 0, none⟩) th.length c3, .slice (some ⟨b5, 0, none⟩) el.length c5]) (P' := fun b => w.heap.size ≤ b) fun b hp hb => ⟨by omega, heap_putL (by omega) _ _ _⟩
  have HT8 := HT5.out.frame (w' := W6.setCells (w.heap.size + 1) 0 [.int .i64 op, .int .i64 x, .int .i64 y, .int .i64 n, .slice (some ⟨b3, 0, none⟩) th.length c3, .slice (some ⟨b5, 0, none⟩) el.length c5]) (P' := fun b => w.heap.size ≤ b) fun b hp hb => ⟨by omega, heap_putL (by omega) _ _ _⟩
  exact bodyPost_ret (results_cell_row rfl _ _ (w.heap.size + 1) 100 _ (0, 0) _ rfl HR7 Tryz.underlying100 rfl rfl) rfl ⟨_, _, rfl, HT7, HT8, HB7⟩
set_option maxHeartbeats 800000 in
set_option maxRecDepth 100000 in
theorem toS_of (m : Nat) (hM : m ≤ 1048576) (ih : ∀ j, j < m → ToOk j) : ToOk m := by
  intro v l B w hm hl hB
  have hll := len_le_szL l
  obtain ⟨A, c, rfl, hc⟩ := hl.slice
  have IH := Lib.hid ih
  have HL := Lib.hid hl
  obtain ⟨cs0, hcs0, hmk⟩ := make_stmts l.length (by omega) w
  have HR0 := Lib.hid (RowB.new w cs0 100)
  have HB0 := Lib.hid (bel_a w (.cells cs0.toArray 100))
  clear ih hl
  go_enter Tryz.func39, Tryz.ntmps39
  go_wp2_with (at_builtin; fail)
  generalize w.alloc (.cells cs0.toArray 100) = W at *
  clear hmk
  go_loopw [4] (fun i wr => ∃ (k : Nat) (cs : List Value), k ≤ l.length ∧ i = .int .i64 k ∧ RowB wr w.heap.size 100 cs ∧ cs.length = l.length * 6 ∧ TrP wr (fun b => w.heap.size < b) cs l k ∧ Below w.heap.size w wr) (fun i _ => l.length - (intOf i).toNat)
  case atStart => exact ⟨0, cs0, Nat.zero_le _, rfl, HR0.out, hcs0, TrP.zero _ _ _ _, HB0.out⟩
  case round =>
    obtain ⟨k, cs, hk, rfl, hrow, hcl, htp, hbw⟩ := hrel
    have HBW := Lib.hid hbw
    have HROW := Lib.hid hrow
    have HTP := Lib.hid htp
    have hsr := hbw.size
    clear hrow htp hcs0 HR0 HB0
    by_cases hlt : k < l.length
    · have hl2 := HL.out.low hbw hB
      have hsz := szL_mem hlt
      rw [l[k].sz_eq] at hsz
      obtain ⟨b, off, tv, ev, rfl, hb, hth, hel, c0, c1, c2, c3, c4, c5⟩ := hl2.get hlt
      obtain ⟨A4, n4, rfl, -⟩ := hth.slice
      obtain ⟨A5, n5, rfl, -⟩ := hel.slice
      have HTH := Lib.hid hth
      have HEL := Lib.hid hel
      have HLT := Lib.hid hlt
      have HST := Lib.hid (fun (wz : World) (cs' : List Value) (v1 v2 : Value) (h0 : TrP wz (fun b => w.heap.size < b) cs l k) (hc : ∀ j, cs'[j]? = if k * 6 ≤ j ∧ j < k * 6 + 6 then ([.int .i64 l[k].op, .int .i64 l[k].x, .int .i64 l[k].y, .int .i64 l[k].n, v1, v2] : List Value)[j - k * 6]? else cs[j]?)
        (h1 : TrS wz (fun b => w.heap.size < b) true v1 l[k].th) (h2 : TrS wz (fun b => w.heap.size < b) true v2 l[k].el) => h0.step hlt hc h1 h2)
      generalize l[k]'hlt = s at *
      clear hl2 hth hel hbw
      go_upto_region 5 with (at_builtin; fail)
      go_wp2_with (at_builtin; fail)
      refine (toStmt_of (max (szL s.th) (szL s.el)) (IH.out _ (by omega)) s.op s.x s.y s.n _ _ s.th s.el B wr (by omega) (by omega) HTH.out HEL.out (by omega)).mono ?_
      rintro e w2 ⟨v1, v2, rfl, ht1, ht2, hb2⟩
      have HB2 := Lib.hid (HBW.out.trans (hb2.mono hsr))
      have HROW2 := Lib.hid (HROW.out.low hb2 HROW.out.lt)
      have hlr := HROW.out.lt
      obtain ⟨b1, n1, rfl, -⟩ := ht1.slice
      obtain ⟨b2, n2, rfl, -⟩ := ht2.slice
      have HT1 := Lib.hid (ht1.frame (P' := fun b => w.heap.size < b) (w' := w2) fun b hp _ => ⟨by omega, rfl⟩)
      have HT2 := Lib.hid (ht2.frame (P' := fun b => w.heap.size < b) (w' := w2) fun b hp _ => ⟨by omega, rfl⟩)
      have HTP := Lib.hid (HTP.out.frame (w' := w2) fun b _ hb => hb2.block b hb)
      clear ht1 ht2 hb2 c0 c1 c2 c3 c4 c5
      have hci : ∀ j, j < 6 → ∃ u, w2.cell? ⟨w.heap.size, k * 6 + j, none⟩ = some u := fun j hj => by
        rw [HROW2.out.cell]
        exact ⟨_, List.getElem?_eq_getElem (by omega)⟩
      obtain ⟨u0, hu0⟩ := hci 0 (by omega)
      obtain ⟨u1, hu1⟩ := hci 1 (by omega)
      obtain ⟨u2, hu2⟩ := hci 2 (by omega)
      obtain ⟨u3, hu3⟩ := hci 3 (by omega)
      obtain ⟨u4, hu4⟩ := hci 4 (by omega)
      obtain ⟨u5, hu5⟩ := hci 5 (by omega)
      rw [Nat.add_zero] at hu0
      have g0 := HROW2.out.frozen (k * 6)
      have g1 := HROW2.out.frozen (k * 6 + 1)
      have g2 := HROW2.out.frozen (k * 6 + 2)
      have g3 := HROW2.out.frozen (k * 6 + 3)
      have g4 := HROW2.out.frozen (k * 6 + 4)
      have g5 := HROW2.out.frozen (k * 6 + 5)
      clear hci
      go_wp2_with (at_builtin; fail)
      obtain ⟨cs', hr', hl', hc'⟩ := HROW2.out.putL [.int .i64 s.op, .int .i64 s.x, .int .i64 s.y, .int .i64 s.n, .slice (some ⟨b1, 0, none⟩) s.th.length n1, .slice (some ⟨b2, 0, none⟩) s.el.length n2] (k * 6) w2 cs (by simp; omega)
      have hsr2 : w.heap.size < w2.heap.size := HROW2.out.lt
      refine ⟨⟨k + 1, cs', by omega, by go_num, hr', by rw [hl']; exact hcl, ?_, HB2.out.trans (below_putL (Nat.le_refl _) [.int .i64 s.op, .int .i64 s.x, .int .i64 s.y, .int .i64 s.n, .slice (some ⟨b1, 0, none⟩) s.th.length n1, .slice (some ⟨b2, 0, none⟩) s.el.length n2] (k * 6) w2)⟩, by simp [intOf] <;> omega⟩
      refine HST.out (w2.setCells w.heap.size (k * 6) [.int .i64 s.op, .int .i64 s.x, .int .i64 s.y, .int .i64 s.n, .slice (some ⟨b1, 0, none⟩) s.th.length n1, .slice (some ⟨b2, 0, none⟩) s.el.length n2]) cs' _ _ ?_ hc' ?_ ?_
      · exact HTP.out.frame fun b hp _ => heap_putL (by omega) _ _ _
      · exact HT1.out.frame fun b hp _ => ⟨hp, heap_putL (by omega) _ _ _⟩
      · exact HT2.out.frame fun b hp _ => ⟨hp, heap_putL (by omega) _ _ _⟩
    · have hkl : k = l.length := by omega
      have HKL := Lib.hid hkl
      clear hkl
      go_wp2_with (at_builtin; fail)
      go_ret
      refine ⟨_, rfl, ?_, HBW.out⟩
      have h2 := HTP.out
      rw [HKL.out] at h2
      exact h2.done HROW.out hcl (Nat.le_refl _) fun b hb => Nat.le_of_lt hb
theorem toS_any (m : Nat) (hM : m ≤ 1048576) : ToOk m := by
  induction m using Nat.strongRecOn with
  | _ m ih => exact toS_of m hM fun j hj => ih j hj (by omega)
/-- a copy of a program, the call's own -/
def ToPRet (w : World) (ts : List Int) (l : List St) (e : Ending) (w' : World) : Prop :=
  ∃ vt vb, e = .returned (.agg #[vt, vb]) ∧ OInts w' w.heap.size vt ts ∧ TrS w' (fun b => w.heap.size ≤ b) true vb l ∧ Below w.heap.size w w'
set_option maxHeartbeats 800000 in
set_option maxRecDepth 100000 in
theorem toProgram_any (vt vb : Value) (ts : List Int) (l : List St) (B : Nat) (w : World) (ht : IntS w B vt ts) (hl : StS w B vb l) (hB : B ≤ w.heap.size) (hsz : szL l ≤ 1048576) :
    Calls Tryz.prog 11 #[.agg #[vt, vb]] w (ToPRet w ts l) := by
  have ht0 := ht
  obtain ⟨A1, c1, rfl, -⟩ := ht0
  obtain ⟨A2, c2, rfl, hc2⟩ := hl.slice
  obtain ⟨W, hW⟩ : ∃ W, W = ((w.alloc (.cells #[.slice A1 ts.length c1, .slice A2 l.length c2] 25)).alloc (.cells #[.slice none 0 0, .slice none 0 0] 31)).alloc (.cells #[.slice none 0 0, .slice none 0 0] 31) := ⟨_, rfl⟩
  have HX := Lib.hid (((RowB.new w [.slice A1 ts.length c1, .slice A2 l.length c2] 25).alloc (.cells #[.slice none 0 0, .slice none 0 0] 31)).alloc (.cells #[.slice none 0 0, .slice none 0 0] 31))
  have HR := Lib.hid ((RowB.new (w.alloc (.cells #[.slice A1 ts.length c1, .slice A2 l.length c2] 25)) [.slice none 0 0, .slice none 0 0] 31).alloc (.cells #[.slice none 0 0, .slice none 0 0] 31))
  have HO := Lib.hid (RowB.new ((w.alloc (.cells #[.slice A1 ts.length c1, .slice A2 l.length c2] 25)).alloc (.cells #[.slice none 0 0, .slice none 0 0] 31)) [.slice none 0 0, .slice none 0 0] 31)
  have hz1 : (w.alloc (.cells #[.slice A1 ts.length c1, .slice A2 l.length c2] 25)).heap.size = w.heap.size + 1 := by simp
  have hz2 : ((w.alloc (.cells #[.slice A1 ts.length c1, .slice A2 l.length c2] 25)).alloc (.cells #[.slice none 0 0, .slice none 0 0] 31)).heap.size = w.heap.size + 1 + 1 := by simp
  have HB0 := Lib.hid (((bel_a w (.cells #[.slice A1 ts.length c1, .slice A2 l.length c2] 25)).alloc (by simp) (.cells #[.slice none 0 0, .slice none 0 0] 31)).alloc (by simp; omega) (.cells #[.slice none 0 0, .slice none 0 0] 31))
  rw [hz1] at HR
  rw [hz2] at HO
  rw [← hW] at HX HR HO HB0
  have HT := Lib.hid ht
  have HE := Lib.hid hl
  have HW := Lib.hid hW
  clear hz1 hz2 ht hl hW
  go_enter Tryz.func11, Tryz.ntmps11
  go_upto_region 2 with (at_builtin; fail)
  rw [← HW.out]
  clear HW
  have hs0 := HB0.out.size
  have hlx := HX.out.lt
  have hlo := HO.out.lt
  have x0 := HX.out.cell 0
  have x1 := HX.out.cell 1
  simp only [List.getElem?_cons_zero, List.getElem?_cons_succ] at x0 x1
  go_upto_region 2 with (at_builtin; fail)
  go_wp2_with (at_builtin; fail)
  refine (toIntS_any _ ts B W (HT.out.low HB0.out hB) (by omega)).mono ?_
  rintro e w3 ⟨v3, rfl, ht3, hb3⟩
  obtain ⟨A3, c3, rfl, hc3⟩ := ht3.slice
  have HT3 := Lib.hid ht3
  have HB3 := Lib.hid hb3
  have HO := Lib.hid (HO.out.low hb3 hlo)
  have HX := Lib.hid (HX.out.low hb3 hlx)
  have HR := Lib.hid (HR.out.low hb3 HR.out.lt)
  have hs3 := hb3.size
  clear ht3 hb3 x0 x1
  have x1 := HX.out.cell 1
  have o0 := HO.out.cell 0
  have f0 := HO.out.frozen 0
  simp only [List.getElem?_cons_zero, List.getElem?_cons_succ] at x1 o0
  go_wp2_with (at_builtin; fail)
  have HO := Lib.hid (HO.out.set_ 0 (.slice A3 ts.length c3))
  have HX := Lib.hid (HX.out.other (g' := w.heap.size + 1 + 1) (by omega) 0 (.slice A3 ts.length c3))
  have HR := Lib.hid (HR.out.other (g' := w.heap.size + 1 + 1) (by omega) 0 (.slice A3 ts.length c3))
  have HB4 := Lib.hid ((HB0.out.trans (HB3.out.mono hs0)).setCell (p := ⟨w.heap.size + 1 + 1, 0, none⟩) (by show w.heap.size ≤ w.heap.size + 1 + 1; omega) (.slice A3 ts.length c3))
  have HT4 : Hid (OInts (w3.setCell ⟨w.heap.size + 1 + 1, 0, none⟩ (.slice A3 ts.length c3)) W.heap.size (.slice A3 ts.length c3) ts) := Lib.hid (HT3.out.move (Nat.le_refl _) fun b h1 h2 => heap_setCell_other w3 ⟨w.heap.size + 1 + 1, 0, none⟩ b _ (by show b ≠ w.heap.size + 1 + 1; omega))
  clear HT3 HB3 x1 o0 f0
  generalize w3.setCell ⟨w.heap.size + 1 + 1, 0, none⟩ (.slice A3 ts.length c3) = W4 at *
  have hs4 := HB4.out.size
  have hlx := HX.out.lt
  have hlo4 := HO.out.lt
  refine (toS_any (szL l) hsz _ l B W4 (Nat.le_refl _) (HE.out.low HB4.out hB) (by omega)).mono ?_
  rintro e w5 ⟨v5, rfl, ht5, hb5⟩
  obtain ⟨b5, c5, rfl, hp5, hl5, hc5⟩ := ht5.slice
  have HT5 := Lib.hid ht5
  have HB5 := Lib.hid hb5
  have HO := Lib.hid (HO.out.low hb5 hlo4)
  have HX := Lib.hid (HX.out.low hb5 hlx)
  have HR := Lib.hid (HR.out.low hb5 HR.out.lt)
  have HT4 := Lib.hid (HT4.out.bel hb5)
  have hs5 := hb5.size
  clear ht5 hb5
  have o1 := HO.out.cell 1
  have f1 := HO.out.frozen 1
  simp only [List.set_cons_zero, List.getElem?_cons_zero, List.getElem?_cons_succ] at o1
  go_upto_region 4 with (at_builtin; fail)
  have HO := Lib.hid (HO.out.set_ 1 (.slice (some ⟨b5, 0, none⟩) l.length c5))
  have HR := Lib.hid (HR.out.other (g' := w.heap.size + 1 + 1) (by omega) 1 (.slice (some ⟨b5, 0, none⟩) l.length c5))
  have HB6 := Lib.hid ((HB4.out.trans (HB5.out.mono hs4)).setCell (p := ⟨w.heap.size + 1 + 1, 1, none⟩) (by show w.heap.size ≤ w.heap.size + 1 + 1; omega) (.slice (some ⟨b5, 0, none⟩) l.length c5))
  have HT4 : Hid (OInts (w5.setCell ⟨w.heap.size + 1 + 1, 1, none⟩ (.slice (some ⟨b5, 0, none⟩) l.length c5)) W.heap.size (.slice A3 ts.length c3) ts) := Lib.hid (HT4.out.move (Nat.le_refl _) fun b h1 h2 => heap_setCell_other w5 ⟨w.heap.size + 1 + 1, 1, none⟩ b _ (by show b ≠ w.heap.size + 1 + 1; omega))
  have HT5 : Hid (TrS (w5.setCell ⟨w.heap.size + 1 + 1, 1, none⟩ (.slice (some ⟨b5, 0, none⟩) l.length c5)) (fun b => w.heap.size + 1 + 1 < b) true (.slice (some ⟨b5, 0, none⟩) l.length c5) l) := Lib.hid (HT5.out.frame fun b hp hb => ⟨by omega, heap_setCell_other w5 ⟨w.heap.size + 1 + 1, 1, none⟩ b _ (by show b ≠ w.heap.size + 1 + 1; omega)⟩)
  clear o1 f1
  generalize w5.setCell ⟨w.heap.size + 1 + 1, 1, none⟩ (.slice (some ⟨b5, 0, none⟩) l.length c5) = W6 at *
  have hO := HO.out
  simp only [List.set_cons_zero, List.set_cons_succ] at hO
  have r0 := HR.out.cell 0
  have r1 := HR.out.cell 1
  have rf0 := HR.out.frozen 0
  have rf1 := HR.out.frozen 1
  have o0 := hO.cell 0
  have o1 := hO.cell 1
  simp only [List.getElem?_cons_zero, List.getElem?_cons_succ] at r0 r1 o0 o1
  clear hO
  go_wp2_with (at_builtin; fail)
  have HR7 : RowB (W6.setCells (w.heap.size + 1) 0 [.slice A3 ts.length c3, .slice (some ⟨b5, 0, none⟩) l.length c5]) (w.heap.size + 1) 31 _ := HR.out.putAll _ rfl
  have HB7 := HB6.out.trans (below_putL (B := w.heap.size) (g := w.heap.size + 1) (by omega) [.slice A3 ts.length c3, .slice (some ⟨b5, 0, none⟩) l.length c5] 0 W6)
  have HT7 : OInts (W6.setCells (w.heap.size + 1) 0 [.slice A3 ts.length c3, .slice (some ⟨b5, 0, none⟩) l.length c5]) w.heap.size (.slice A3 ts.length c3) ts := HT4.out.move (by omega) fun b h1 h2 => heap_putL (by omega) _ _ _
  have HT8 := HT5.out.frame (w' := W6.setCells (w.heap.size + 1) 0 [.slice A3 ts.length c3, .slice (some ⟨b5, 0, none⟩) l.length c5]) (P' := fun b => w.heap.size ≤ b) fun b hp hb => ⟨by omega, heap_putL (by omega) _ _ _⟩
  exact bodyPost_ret (results_cell_row rfl _ _ (w.heap.size + 1) 31 _ (0, 0) _ rfl HR7 Tryz.underlying31 rfl rfl) rfl ⟨_, _, rfl, HT7, HT8, HB7⟩

end Go.Proofs.YtfioaohadanjmaaGreat
