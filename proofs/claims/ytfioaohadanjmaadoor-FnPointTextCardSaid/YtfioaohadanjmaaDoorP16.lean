import Derived.Test.YtfioaohadanjmaaDoorP15
import Derived.Test.YtfioaohadanjmaaDoorP10
set_option linter.unusedVariables false

/- the exact texts of simple statements: spec.l1Text, impl.simpleText. -/
namespace Go.Proofs.YtfioaohadanjmaaDoor
open Go.RowKit

/-- the text of a simple statement -/
def smpT (op x y n : Int) : ByteArray :=
  if op = 1 then bch (97 + x) ++ ⟨#[61]⟩ ++ bch (48 + n) else
  if op = 2 then bch (97 + x) ++ ⟨#[61, 98, 111, 120, 32]⟩ ++ bch (48 + n) else
  if op = 3 then bch (97 + x) ++ ⟨#[61]⟩ ++ bch (97 + y) else
  if op = 4 then bch (97 + x) ++ ⟨#[61, 38]⟩ ++ bch (97 + y) else
  if op = 5 then bch (97 + x) ++ ⟨#[61, 38, 109, 117, 116, 32]⟩ ++ bch (97 + y) else
  if op = 6 then bch (97 + x) ++ ⟨#[61, 42]⟩ ++ bch (97 + y) else
  if op = 7 then ⟨#[42]⟩ ++ bch (97 + x) ++ ⟨#[61]⟩ ++ bch (97 + y) else
  ⟨#[100, 114, 111, 112, 32]⟩ ++ bch (97 + x)
def Hd4 (W : World) (b : Nat) (v0 v1 v2 v3 : Value) (w' : World) : Prop := w'.cell? ⟨b, 0, none⟩ = some v0 ∧ w'.cell? ⟨b, 1, none⟩ = some v1 ∧ w'.cell? ⟨b, 2, none⟩ = some v2 ∧ w'.cell? ⟨b, 3, none⟩ = some v3 ∧ Below W.heap.size W w' ∧ b < W.heap.size
theorem Hd4.step {W : World} {b : Nat} {v0 v1 v2 v3 : Value} {w' w'' : World} (h : Hd4 W b v0 v1 v2 v3 w') (hb : Below w'.heap.size w' w'') : Hd4 W b v0 v1 v2 v3 w'' := by
  obtain ⟨h0, h1, h2, h3, hB, k⟩ := h
  have hs := hB.size
  have hc : ∀ o, w''.cell? ⟨b, o, none⟩ = w'.cell? ⟨b, o, none⟩ := fun o => hb.cell (p := ⟨b, o, none⟩) (by show b < _; omega)
  exact ⟨(hc 0).trans h0, (hc 1).trans h1, (hc 2).trans h2, (hc 3).trans h3, hB.trans (hb.mono hs), k⟩
set_option maxHeartbeats 1000000 in
theorem txtX_1 (x y n : Int) (A A' : Option Addr) (k c k' c' : Nat) (w : World) (hx0 : 0 ≤ x) (hx5 : x ≤ 5) (hy0 : 0 ≤ y) (hy5 : y ≤ 5) (h0 : 0 ≤ n) (h9 : n ≤ 9) :
    Calls Tryd.prog 22 #[.agg #[.int .i64 1, .int .i64 x, .int .i64 y, .int .i64 n, .slice A k c, .slice A' k' c']] w (TxRet (smpT 1 x y n) w) := by
  obtain ⟨s1, hse1⟩ : ∃ s, s = bch (97 + x) := ⟨_, rfl⟩
  obtain ⟨s2, hse2⟩ : ∃ s, s = bch (97 + y) := ⟨_, rfl⟩
  obtain ⟨s3, hse3⟩ : ∃ s, s = bch (48 + n) := ⟨_, rfl⟩
  have CX : Hid (∀ w, Calls Tryd.prog 34 #[.int .i64 x] w (TxRet s1 w)) := Lib.hid fun w => by rw [hse1]; exact letterX_any x w hx0 hx5
  have CY : Hid (∀ w, Calls Tryd.prog 34 #[.int .i64 y] w (TxRet s2 w)) := Lib.hid fun w => by rw [hse2]; exact letterX_any y w hy0 hy5
  have CN : Hid (∀ w, Calls Tryd.prog 35 #[.int .i64 n] w (TxRet s3 w)) := Lib.hid fun w => by rw [hse3]; exact decX_any n w h0 h9
  have HSE : Hid (s1 = bch (97 + x) ∧ s2 = bch (97 + y) ∧ s3 = bch (48 + n)) := Lib.hid ⟨hse1, hse2, hse3⟩
  have hs1 : s1.size = 1 := by rw [hse1]; rfl
  have hs2 : s2.size = 1 := by rw [hse2]; rfl
  have hs3 : s3.size = 1 := by rw [hse3]; rfl
  clear hse1 hse2 hse3
  go_enter Tryd.func22, Tryd.ntmps22
  go_wp2_with fail
  refine (CX.out _).mono ?_
  rintro e w1 ⟨rfl, hb1⟩
  have hc := fun i => box_kept hb1 (by simp) i
  have hz := hb1.size
  simp at hz
  have d0 := hc 0
  have d1 := hc 1
  have d2 := hc 2
  have d3 := hc 3
  have d4 := hc 4
  have d5 := hc 5
  simp at d0 d1 d2 d3 d4 d5
  have HB1 := Lib.hid hb1
  clear hc hb1
  go_wp2_with fail
  refine (CY.out _).mono ?_
  rintro e w2 ⟨rfl, hb2⟩
  have hz2 := hb2.size
  have e0 := (hb2.cell (p := ⟨w.heap.size, 0, none⟩) (by show w.heap.size < _; omega)).trans d0
  have e1 := (hb2.cell (p := ⟨w.heap.size, 1, none⟩) (by show w.heap.size < _; omega)).trans d1
  have e2 := (hb2.cell (p := ⟨w.heap.size, 2, none⟩) (by show w.heap.size < _; omega)).trans d2
  have e3 := (hb2.cell (p := ⟨w.heap.size, 3, none⟩) (by show w.heap.size < _; omega)).trans d3
  have e4 := (hb2.cell (p := ⟨w.heap.size, 4, none⟩) (by show w.heap.size < _; omega)).trans d4
  have e5 := (hb2.cell (p := ⟨w.heap.size, 5, none⟩) (by show w.heap.size < _; omega)).trans d5
  have HB2 := Lib.hid ((bel_a w _).trans ((HB1.out.trans (hb2.mono (by simp; omega))).mono (by simp)))
  clear d0 d1 d2 d3 d4 d5 hb2
  have hadd0 := fun w => add_str w s1 ⟨#[61]⟩ (by simp only [size_lit, List.size_toArray, List.length_cons, List.length_nil]; omega)
  go_wp2_with fail
  refine (CN.out _).mono ?_
  rintro e w3 ⟨rfl, hb3⟩
  have hadd1 := fun w => add_str w (s1 ++ ⟨#[61]⟩) s3 (by simp only [ByteArray.size_append, size_lit, List.size_toArray, List.length_cons, List.length_nil]; omega)
  go_wp2_with fail
  go_ret
  obtain ⟨q1, q2, q3⟩ := HSE.out
  subst q1 q2 q3
  exact ⟨rfl, HB2.out.trans (hb3.mono (by omega))⟩
set_option maxHeartbeats 1000000 in
theorem txtX_2 (x y n : Int) (A A' : Option Addr) (k c k' c' : Nat) (w : World) (hx0 : 0 ≤ x) (hx5 : x ≤ 5) (hy0 : 0 ≤ y) (hy5 : y ≤ 5) (h0 : 0 ≤ n) (h9 : n ≤ 9) :
    Calls Tryd.prog 22 #[.agg #[.int .i64 2, .int .i64 x, .int .i64 y, .int .i64 n, .slice A k c, .slice A' k' c']] w (TxRet (smpT 2 x y n) w) := by
  obtain ⟨s1, hse1⟩ : ∃ s, s = bch (97 + x) := ⟨_, rfl⟩
  obtain ⟨s2, hse2⟩ : ∃ s, s = bch (97 + y) := ⟨_, rfl⟩
  obtain ⟨s3, hse3⟩ : ∃ s, s = bch (48 + n) := ⟨_, rfl⟩
  have CX : Hid (∀ w, Calls Tryd.prog 34 #[.int .i64 x] w (TxRet s1 w)) := Lib.hid fun w => by rw [hse1]; exact letterX_any x w hx0 hx5
  have CY : Hid (∀ w, Calls Tryd.prog 34 #[.int .i64 y] w (TxRet s2 w)) := Lib.hid fun w => by rw [hse2]; exact letterX_any y w hy0 hy5
  have CN : Hid (∀ w, Calls Tryd.prog 35 #[.int .i64 n] w (TxRet s3 w)) := Lib.hid fun w => by rw [hse3]; exact decX_any n w h0 h9
  have HSE : Hid (s1 = bch (97 + x) ∧ s2 = bch (97 + y) ∧ s3 = bch (48 + n)) := Lib.hid ⟨hse1, hse2, hse3⟩
  have hs1 : s1.size = 1 := by rw [hse1]; rfl
  have hs2 : s2.size = 1 := by rw [hse2]; rfl
  have hs3 : s3.size = 1 := by rw [hse3]; rfl
  clear hse1 hse2 hse3
  go_enter Tryd.func22, Tryd.ntmps22
  go_wp2_with fail
  refine (CX.out _).mono ?_
  rintro e w1 ⟨rfl, hb1⟩
  have hc := fun i => box_kept hb1 (by simp) i
  have hz := hb1.size
  simp at hz
  have d0 := hc 0
  have d1 := hc 1
  have d2 := hc 2
  have d3 := hc 3
  have d4 := hc 4
  have d5 := hc 5
  simp at d0 d1 d2 d3 d4 d5
  have HB1 := Lib.hid hb1
  clear hc hb1
  go_wp2_with fail
  refine (CY.out _).mono ?_
  rintro e w2 ⟨rfl, hb2⟩
  have hz2 := hb2.size
  have e0 := (hb2.cell (p := ⟨w.heap.size, 0, none⟩) (by show w.heap.size < _; omega)).trans d0
  have e1 := (hb2.cell (p := ⟨w.heap.size, 1, none⟩) (by show w.heap.size < _; omega)).trans d1
  have e2 := (hb2.cell (p := ⟨w.heap.size, 2, none⟩) (by show w.heap.size < _; omega)).trans d2
  have e3 := (hb2.cell (p := ⟨w.heap.size, 3, none⟩) (by show w.heap.size < _; omega)).trans d3
  have e4 := (hb2.cell (p := ⟨w.heap.size, 4, none⟩) (by show w.heap.size < _; omega)).trans d4
  have e5 := (hb2.cell (p := ⟨w.heap.size, 5, none⟩) (by show w.heap.size < _; omega)).trans d5
  have HB2 := Lib.hid ((bel_a w _).trans ((HB1.out.trans (hb2.mono (by simp; omega))).mono (by simp)))
  clear d0 d1 d2 d3 d4 d5 hb2
  have hadd0 := fun w => add_str w s1 ⟨#[61, 98, 111, 120, 32]⟩ (by simp only [size_lit, List.size_toArray, List.length_cons, List.length_nil]; omega)
  go_wp2_with fail
  refine (CN.out _).mono ?_
  rintro e w3 ⟨rfl, hb3⟩
  have hadd1 := fun w => add_str w (s1 ++ ⟨#[61, 98, 111, 120, 32]⟩) s3 (by simp only [ByteArray.size_append, size_lit, List.size_toArray, List.length_cons, List.length_nil]; omega)
  go_wp2_with fail
  go_ret
  obtain ⟨q1, q2, q3⟩ := HSE.out
  subst q1 q2 q3
  exact ⟨rfl, HB2.out.trans (hb3.mono (by omega))⟩
set_option maxHeartbeats 1000000 in
theorem txtX_3 (x y n : Int) (A A' : Option Addr) (k c k' c' : Nat) (w : World) (hx0 : 0 ≤ x) (hx5 : x ≤ 5) (hy0 : 0 ≤ y) (hy5 : y ≤ 5) (h0 : 0 ≤ n) (h9 : n ≤ 9) :
    Calls Tryd.prog 22 #[.agg #[.int .i64 3, .int .i64 x, .int .i64 y, .int .i64 n, .slice A k c, .slice A' k' c']] w (TxRet (smpT 3 x y n) w) := by
  obtain ⟨s1, hse1⟩ : ∃ s, s = bch (97 + x) := ⟨_, rfl⟩
  obtain ⟨s2, hse2⟩ : ∃ s, s = bch (97 + y) := ⟨_, rfl⟩
  obtain ⟨s3, hse3⟩ : ∃ s, s = bch (48 + n) := ⟨_, rfl⟩
  have CX : Hid (∀ w, Calls Tryd.prog 34 #[.int .i64 x] w (TxRet s1 w)) := Lib.hid fun w => by rw [hse1]; exact letterX_any x w hx0 hx5
  have CY : Hid (∀ w, Calls Tryd.prog 34 #[.int .i64 y] w (TxRet s2 w)) := Lib.hid fun w => by rw [hse2]; exact letterX_any y w hy0 hy5
  have HSE : Hid (s1 = bch (97 + x) ∧ s2 = bch (97 + y) ∧ s3 = bch (48 + n)) := Lib.hid ⟨hse1, hse2, hse3⟩
  have hs1 : s1.size = 1 := by rw [hse1]; rfl
  have hs2 : s2.size = 1 := by rw [hse2]; rfl
  have hs3 : s3.size = 1 := by rw [hse3]; rfl
  clear hse1 hse2 hse3
  go_enter Tryd.func22, Tryd.ntmps22
  go_wp2_with fail
  refine (CX.out _).mono ?_
  rintro e w1 ⟨rfl, hb1⟩
  have hc := fun i => box_kept hb1 (by simp) i
  have hz := hb1.size
  simp at hz
  have d0 := hc 0
  have d1 := hc 1
  have d2 := hc 2
  have d3 := hc 3
  have d4 := hc 4
  have d5 := hc 5
  simp at d0 d1 d2 d3 d4 d5
  have HB1 := Lib.hid hb1
  clear hc hb1
  go_wp2_with fail
  refine (CY.out _).mono ?_
  rintro e w2 ⟨rfl, hb2⟩
  have hz2 := hb2.size
  have e0 := (hb2.cell (p := ⟨w.heap.size, 0, none⟩) (by show w.heap.size < _; omega)).trans d0
  have e1 := (hb2.cell (p := ⟨w.heap.size, 1, none⟩) (by show w.heap.size < _; omega)).trans d1
  have e2 := (hb2.cell (p := ⟨w.heap.size, 2, none⟩) (by show w.heap.size < _; omega)).trans d2
  have e3 := (hb2.cell (p := ⟨w.heap.size, 3, none⟩) (by show w.heap.size < _; omega)).trans d3
  have e4 := (hb2.cell (p := ⟨w.heap.size, 4, none⟩) (by show w.heap.size < _; omega)).trans d4
  have e5 := (hb2.cell (p := ⟨w.heap.size, 5, none⟩) (by show w.heap.size < _; omega)).trans d5
  have HB2 := Lib.hid ((bel_a w _).trans ((HB1.out.trans (hb2.mono (by simp; omega))).mono (by simp)))
  clear d0 d1 d2 d3 d4 d5 hb2
  have hadd0 := fun w => add_str w s1 ⟨#[61]⟩ (by simp only [size_lit, List.size_toArray, List.length_cons, List.length_nil]; omega)
  have hadd1 := fun w => add_str w (s1 ++ ⟨#[61]⟩) s2 (by simp only [ByteArray.size_append, size_lit, List.size_toArray, List.length_cons, List.length_nil]; omega)
  go_wp2_with fail
  go_ret
  obtain ⟨q1, q2, q3⟩ := HSE.out
  subst q1 q2 q3
  exact ⟨rfl, HB2.out⟩
set_option maxHeartbeats 1000000 in
theorem txtX_4 (x y n : Int) (A A' : Option Addr) (k c k' c' : Nat) (w : World) (hx0 : 0 ≤ x) (hx5 : x ≤ 5) (hy0 : 0 ≤ y) (hy5 : y ≤ 5) (h0 : 0 ≤ n) (h9 : n ≤ 9) :
    Calls Tryd.prog 22 #[.agg #[.int .i64 4, .int .i64 x, .int .i64 y, .int .i64 n, .slice A k c, .slice A' k' c']] w (TxRet (smpT 4 x y n) w) := by
  obtain ⟨s1, hse1⟩ : ∃ s, s = bch (97 + x) := ⟨_, rfl⟩
  obtain ⟨s2, hse2⟩ : ∃ s, s = bch (97 + y) := ⟨_, rfl⟩
  obtain ⟨s3, hse3⟩ : ∃ s, s = bch (48 + n) := ⟨_, rfl⟩
  have CX : Hid (∀ w, Calls Tryd.prog 34 #[.int .i64 x] w (TxRet s1 w)) := Lib.hid fun w => by rw [hse1]; exact letterX_any x w hx0 hx5
  have CY : Hid (∀ w, Calls Tryd.prog 34 #[.int .i64 y] w (TxRet s2 w)) := Lib.hid fun w => by rw [hse2]; exact letterX_any y w hy0 hy5
  have HSE : Hid (s1 = bch (97 + x) ∧ s2 = bch (97 + y) ∧ s3 = bch (48 + n)) := Lib.hid ⟨hse1, hse2, hse3⟩
  have hs1 : s1.size = 1 := by rw [hse1]; rfl
  have hs2 : s2.size = 1 := by rw [hse2]; rfl
  have hs3 : s3.size = 1 := by rw [hse3]; rfl
  clear hse1 hse2 hse3
  go_enter Tryd.func22, Tryd.ntmps22
  go_wp2_with fail
  refine (CX.out _).mono ?_
  rintro e w1 ⟨rfl, hb1⟩
  have hc := fun i => box_kept hb1 (by simp) i
  have hz := hb1.size
  simp at hz
  have d0 := hc 0
  have d1 := hc 1
  have d2 := hc 2
  have d3 := hc 3
  have d4 := hc 4
  have d5 := hc 5
  simp at d0 d1 d2 d3 d4 d5
  have HB1 := Lib.hid hb1
  clear hc hb1
  go_wp2_with fail
  refine (CY.out _).mono ?_
  rintro e w2 ⟨rfl, hb2⟩
  have hz2 := hb2.size
  have e0 := (hb2.cell (p := ⟨w.heap.size, 0, none⟩) (by show w.heap.size < _; omega)).trans d0
  have e1 := (hb2.cell (p := ⟨w.heap.size, 1, none⟩) (by show w.heap.size < _; omega)).trans d1
  have e2 := (hb2.cell (p := ⟨w.heap.size, 2, none⟩) (by show w.heap.size < _; omega)).trans d2
  have e3 := (hb2.cell (p := ⟨w.heap.size, 3, none⟩) (by show w.heap.size < _; omega)).trans d3
  have e4 := (hb2.cell (p := ⟨w.heap.size, 4, none⟩) (by show w.heap.size < _; omega)).trans d4
  have e5 := (hb2.cell (p := ⟨w.heap.size, 5, none⟩) (by show w.heap.size < _; omega)).trans d5
  have HB2 := Lib.hid ((bel_a w _).trans ((HB1.out.trans (hb2.mono (by simp; omega))).mono (by simp)))
  clear d0 d1 d2 d3 d4 d5 hb2
  have hadd0 := fun w => add_str w s1 ⟨#[61, 38]⟩ (by simp only [size_lit, List.size_toArray, List.length_cons, List.length_nil]; omega)
  have hadd1 := fun w => add_str w (s1 ++ ⟨#[61, 38]⟩) s2 (by simp only [ByteArray.size_append, size_lit, List.size_toArray, List.length_cons, List.length_nil]; omega)
  go_wp2_with fail
  go_ret
  obtain ⟨q1, q2, q3⟩ := HSE.out
  subst q1 q2 q3
  exact ⟨rfl, HB2.out⟩
set_option maxHeartbeats 1000000 in
theorem txtX_5 (x y n : Int) (A A' : Option Addr) (k c k' c' : Nat) (w : World) (hx0 : 0 ≤ x) (hx5 : x ≤ 5) (hy0 : 0 ≤ y) (hy5 : y ≤ 5) (h0 : 0 ≤ n) (h9 : n ≤ 9) :
    Calls Tryd.prog 22 #[.agg #[.int .i64 5, .int .i64 x, .int .i64 y, .int .i64 n, .slice A k c, .slice A' k' c']] w (TxRet (smpT 5 x y n) w) := by
  obtain ⟨s1, hse1⟩ : ∃ s, s = bch (97 + x) := ⟨_, rfl⟩
  obtain ⟨s2, hse2⟩ : ∃ s, s = bch (97 + y) := ⟨_, rfl⟩
  obtain ⟨s3, hse3⟩ : ∃ s, s = bch (48 + n) := ⟨_, rfl⟩
  have CX : Hid (∀ w, Calls Tryd.prog 34 #[.int .i64 x] w (TxRet s1 w)) := Lib.hid fun w => by rw [hse1]; exact letterX_any x w hx0 hx5
  have CY : Hid (∀ w, Calls Tryd.prog 34 #[.int .i64 y] w (TxRet s2 w)) := Lib.hid fun w => by rw [hse2]; exact letterX_any y w hy0 hy5
  have HSE : Hid (s1 = bch (97 + x) ∧ s2 = bch (97 + y) ∧ s3 = bch (48 + n)) := Lib.hid ⟨hse1, hse2, hse3⟩
  have hs1 : s1.size = 1 := by rw [hse1]; rfl
  have hs2 : s2.size = 1 := by rw [hse2]; rfl
  have hs3 : s3.size = 1 := by rw [hse3]; rfl
  clear hse1 hse2 hse3
  go_enter Tryd.func22, Tryd.ntmps22
  go_wp2_with fail
  refine (CX.out _).mono ?_
  rintro e w1 ⟨rfl, hb1⟩
  have hc := fun i => box_kept hb1 (by simp) i
  have hz := hb1.size
  simp at hz
  have d0 := hc 0
  have d1 := hc 1
  have d2 := hc 2
  have d3 := hc 3
  have d4 := hc 4
  have d5 := hc 5
  simp at d0 d1 d2 d3 d4 d5
  have HB1 := Lib.hid hb1
  clear hc hb1
  go_wp2_with fail
  refine (CY.out _).mono ?_
  rintro e w2 ⟨rfl, hb2⟩
  have hz2 := hb2.size
  have e0 := (hb2.cell (p := ⟨w.heap.size, 0, none⟩) (by show w.heap.size < _; omega)).trans d0
  have e1 := (hb2.cell (p := ⟨w.heap.size, 1, none⟩) (by show w.heap.size < _; omega)).trans d1
  have e2 := (hb2.cell (p := ⟨w.heap.size, 2, none⟩) (by show w.heap.size < _; omega)).trans d2
  have e3 := (hb2.cell (p := ⟨w.heap.size, 3, none⟩) (by show w.heap.size < _; omega)).trans d3
  have e4 := (hb2.cell (p := ⟨w.heap.size, 4, none⟩) (by show w.heap.size < _; omega)).trans d4
  have e5 := (hb2.cell (p := ⟨w.heap.size, 5, none⟩) (by show w.heap.size < _; omega)).trans d5
  have HB2 := Lib.hid ((bel_a w _).trans ((HB1.out.trans (hb2.mono (by simp; omega))).mono (by simp)))
  clear d0 d1 d2 d3 d4 d5 hb2
  have hadd0 := fun w => add_str w s1 ⟨#[61, 38, 109, 117, 116, 32]⟩ (by simp only [size_lit, List.size_toArray, List.length_cons, List.length_nil]; omega)
  have hadd1 := fun w => add_str w (s1 ++ ⟨#[61, 38, 109, 117, 116, 32]⟩) s2 (by simp only [ByteArray.size_append, size_lit, List.size_toArray, List.length_cons, List.length_nil]; omega)
  go_wp2_with fail
  go_ret
  obtain ⟨q1, q2, q3⟩ := HSE.out
  subst q1 q2 q3
  exact ⟨rfl, HB2.out⟩
set_option maxHeartbeats 1000000 in
theorem txtX_6 (x y n : Int) (A A' : Option Addr) (k c k' c' : Nat) (w : World) (hx0 : 0 ≤ x) (hx5 : x ≤ 5) (hy0 : 0 ≤ y) (hy5 : y ≤ 5) (h0 : 0 ≤ n) (h9 : n ≤ 9) :
    Calls Tryd.prog 22 #[.agg #[.int .i64 6, .int .i64 x, .int .i64 y, .int .i64 n, .slice A k c, .slice A' k' c']] w (TxRet (smpT 6 x y n) w) := by
  obtain ⟨s1, hse1⟩ : ∃ s, s = bch (97 + x) := ⟨_, rfl⟩
  obtain ⟨s2, hse2⟩ : ∃ s, s = bch (97 + y) := ⟨_, rfl⟩
  obtain ⟨s3, hse3⟩ : ∃ s, s = bch (48 + n) := ⟨_, rfl⟩
  have CX : Hid (∀ w, Calls Tryd.prog 34 #[.int .i64 x] w (TxRet s1 w)) := Lib.hid fun w => by rw [hse1]; exact letterX_any x w hx0 hx5
  have CY : Hid (∀ w, Calls Tryd.prog 34 #[.int .i64 y] w (TxRet s2 w)) := Lib.hid fun w => by rw [hse2]; exact letterX_any y w hy0 hy5
  have HSE : Hid (s1 = bch (97 + x) ∧ s2 = bch (97 + y) ∧ s3 = bch (48 + n)) := Lib.hid ⟨hse1, hse2, hse3⟩
  have hs1 : s1.size = 1 := by rw [hse1]; rfl
  have hs2 : s2.size = 1 := by rw [hse2]; rfl
  have hs3 : s3.size = 1 := by rw [hse3]; rfl
  clear hse1 hse2 hse3
  go_enter Tryd.func22, Tryd.ntmps22
  go_wp2_with fail
  refine (CX.out _).mono ?_
  rintro e w1 ⟨rfl, hb1⟩
  have hc := fun i => box_kept hb1 (by simp) i
  have hz := hb1.size
  simp at hz
  have d0 := hc 0
  have d1 := hc 1
  have d2 := hc 2
  have d3 := hc 3
  have d4 := hc 4
  have d5 := hc 5
  simp at d0 d1 d2 d3 d4 d5
  have HB1 := Lib.hid hb1
  clear hc hb1
  go_wp2_with fail
  refine (CY.out _).mono ?_
  rintro e w2 ⟨rfl, hb2⟩
  have hz2 := hb2.size
  have e0 := (hb2.cell (p := ⟨w.heap.size, 0, none⟩) (by show w.heap.size < _; omega)).trans d0
  have e1 := (hb2.cell (p := ⟨w.heap.size, 1, none⟩) (by show w.heap.size < _; omega)).trans d1
  have e2 := (hb2.cell (p := ⟨w.heap.size, 2, none⟩) (by show w.heap.size < _; omega)).trans d2
  have e3 := (hb2.cell (p := ⟨w.heap.size, 3, none⟩) (by show w.heap.size < _; omega)).trans d3
  have e4 := (hb2.cell (p := ⟨w.heap.size, 4, none⟩) (by show w.heap.size < _; omega)).trans d4
  have e5 := (hb2.cell (p := ⟨w.heap.size, 5, none⟩) (by show w.heap.size < _; omega)).trans d5
  have HB2 := Lib.hid ((bel_a w _).trans ((HB1.out.trans (hb2.mono (by simp; omega))).mono (by simp)))
  clear d0 d1 d2 d3 d4 d5 hb2
  have hadd0 := fun w => add_str w s1 ⟨#[61, 42]⟩ (by simp only [size_lit, List.size_toArray, List.length_cons, List.length_nil]; omega)
  have hadd1 := fun w => add_str w (s1 ++ ⟨#[61, 42]⟩) s2 (by simp only [ByteArray.size_append, size_lit, List.size_toArray, List.length_cons, List.length_nil]; omega)
  go_wp2_with fail
  go_ret
  obtain ⟨q1, q2, q3⟩ := HSE.out
  subst q1 q2 q3
  exact ⟨rfl, HB2.out⟩
set_option maxHeartbeats 1000000 in
theorem txtX_7 (x y n : Int) (A A' : Option Addr) (k c k' c' : Nat) (w : World) (hx0 : 0 ≤ x) (hx5 : x ≤ 5) (hy0 : 0 ≤ y) (hy5 : y ≤ 5) (h0 : 0 ≤ n) (h9 : n ≤ 9) :
    Calls Tryd.prog 22 #[.agg #[.int .i64 7, .int .i64 x, .int .i64 y, .int .i64 n, .slice A k c, .slice A' k' c']] w (TxRet (smpT 7 x y n) w) := by
  obtain ⟨s1, hse1⟩ : ∃ s, s = bch (97 + x) := ⟨_, rfl⟩
  obtain ⟨s2, hse2⟩ : ∃ s, s = bch (97 + y) := ⟨_, rfl⟩
  obtain ⟨s3, hse3⟩ : ∃ s, s = bch (48 + n) := ⟨_, rfl⟩
  have CX : Hid (∀ w, Calls Tryd.prog 34 #[.int .i64 x] w (TxRet s1 w)) := Lib.hid fun w => by rw [hse1]; exact letterX_any x w hx0 hx5
  have CY : Hid (∀ w, Calls Tryd.prog 34 #[.int .i64 y] w (TxRet s2 w)) := Lib.hid fun w => by rw [hse2]; exact letterX_any y w hy0 hy5
  have HSE : Hid (s1 = bch (97 + x) ∧ s2 = bch (97 + y) ∧ s3 = bch (48 + n)) := Lib.hid ⟨hse1, hse2, hse3⟩
  have hs1 : s1.size = 1 := by rw [hse1]; rfl
  have hs2 : s2.size = 1 := by rw [hse2]; rfl
  have hs3 : s3.size = 1 := by rw [hse3]; rfl
  clear hse1 hse2 hse3
  go_enter Tryd.func22, Tryd.ntmps22
  go_wp2_with fail
  refine (CX.out _).mono ?_
  rintro e w1 ⟨rfl, hb1⟩
  have hc := fun i => box_kept hb1 (by simp) i
  have hz := hb1.size
  simp at hz
  have d0 := hc 0
  have d1 := hc 1
  have d2 := hc 2
  have d3 := hc 3
  have d4 := hc 4
  have d5 := hc 5
  simp at d0 d1 d2 d3 d4 d5
  have HB1 := Lib.hid hb1
  clear hc hb1
  go_wp2_with fail
  refine (CY.out _).mono ?_
  rintro e w2 ⟨rfl, hb2⟩
  have hz2 := hb2.size
  have e0 := (hb2.cell (p := ⟨w.heap.size, 0, none⟩) (by show w.heap.size < _; omega)).trans d0
  have e1 := (hb2.cell (p := ⟨w.heap.size, 1, none⟩) (by show w.heap.size < _; omega)).trans d1
  have e2 := (hb2.cell (p := ⟨w.heap.size, 2, none⟩) (by show w.heap.size < _; omega)).trans d2
  have e3 := (hb2.cell (p := ⟨w.heap.size, 3, none⟩) (by show w.heap.size < _; omega)).trans d3
  have e4 := (hb2.cell (p := ⟨w.heap.size, 4, none⟩) (by show w.heap.size < _; omega)).trans d4
  have e5 := (hb2.cell (p := ⟨w.heap.size, 5, none⟩) (by show w.heap.size < _; omega)).trans d5
  have HB2 := Lib.hid ((bel_a w _).trans ((HB1.out.trans (hb2.mono (by simp; omega))).mono (by simp)))
  clear d0 d1 d2 d3 d4 d5 hb2
  have hadd0 := fun w => add_str w ⟨#[42]⟩ s1 (by simp only [size_lit, List.size_toArray, List.length_cons, List.length_nil]; omega)
  have hadd1 := fun w => add_str w (⟨#[42]⟩ ++ s1) ⟨#[61]⟩ (by simp only [ByteArray.size_append, size_lit, List.size_toArray, List.length_cons, List.length_nil]; omega)
  have hadd2 := fun w => add_str w ((⟨#[42]⟩ ++ s1) ++ ⟨#[61]⟩) s2 (by simp only [ByteArray.size_append, size_lit, List.size_toArray, List.length_cons, List.length_nil]; omega)
  go_wp2_with fail
  go_ret
  obtain ⟨q1, q2, q3⟩ := HSE.out
  subst q1 q2 q3
  exact ⟨rfl, HB2.out⟩
set_option maxHeartbeats 1000000 in
theorem txtX_8 (x y n : Int) (A A' : Option Addr) (k c k' c' : Nat) (w : World) (hx0 : 0 ≤ x) (hx5 : x ≤ 5) (hy0 : 0 ≤ y) (hy5 : y ≤ 5) (h0 : 0 ≤ n) (h9 : n ≤ 9) :
    Calls Tryd.prog 22 #[.agg #[.int .i64 8, .int .i64 x, .int .i64 y, .int .i64 n, .slice A k c, .slice A' k' c']] w (TxRet (smpT 8 x y n) w) := by
  obtain ⟨s1, hse1⟩ : ∃ s, s = bch (97 + x) := ⟨_, rfl⟩
  obtain ⟨s2, hse2⟩ : ∃ s, s = bch (97 + y) := ⟨_, rfl⟩
  obtain ⟨s3, hse3⟩ : ∃ s, s = bch (48 + n) := ⟨_, rfl⟩
  have CX : Hid (∀ w, Calls Tryd.prog 34 #[.int .i64 x] w (TxRet s1 w)) := Lib.hid fun w => by rw [hse1]; exact letterX_any x w hx0 hx5
  have CY : Hid (∀ w, Calls Tryd.prog 34 #[.int .i64 y] w (TxRet s2 w)) := Lib.hid fun w => by rw [hse2]; exact letterX_any y w hy0 hy5
  have HSE : Hid (s1 = bch (97 + x) ∧ s2 = bch (97 + y) ∧ s3 = bch (48 + n)) := Lib.hid ⟨hse1, hse2, hse3⟩
  have hs1 : s1.size = 1 := by rw [hse1]; rfl
  have hs2 : s2.size = 1 := by rw [hse2]; rfl
  have hs3 : s3.size = 1 := by rw [hse3]; rfl
  clear hse1 hse2 hse3
  go_enter Tryd.func22, Tryd.ntmps22
  go_wp2_with fail
  refine (CX.out _).mono ?_
  rintro e w1 ⟨rfl, hb1⟩
  have hc := fun i => box_kept hb1 (by simp) i
  have hz := hb1.size
  simp at hz
  have d0 := hc 0
  have d1 := hc 1
  have d2 := hc 2
  have d3 := hc 3
  have d4 := hc 4
  have d5 := hc 5
  simp at d0 d1 d2 d3 d4 d5
  have HB1 := Lib.hid hb1
  clear hc hb1
  go_wp2_with fail
  refine (CY.out _).mono ?_
  rintro e w2 ⟨rfl, hb2⟩
  have hz2 := hb2.size
  have e0 := (hb2.cell (p := ⟨w.heap.size, 0, none⟩) (by show w.heap.size < _; omega)).trans d0
  have e1 := (hb2.cell (p := ⟨w.heap.size, 1, none⟩) (by show w.heap.size < _; omega)).trans d1
  have e2 := (hb2.cell (p := ⟨w.heap.size, 2, none⟩) (by show w.heap.size < _; omega)).trans d2
  have e3 := (hb2.cell (p := ⟨w.heap.size, 3, none⟩) (by show w.heap.size < _; omega)).trans d3
  have e4 := (hb2.cell (p := ⟨w.heap.size, 4, none⟩) (by show w.heap.size < _; omega)).trans d4
  have e5 := (hb2.cell (p := ⟨w.heap.size, 5, none⟩) (by show w.heap.size < _; omega)).trans d5
  have HB2 := Lib.hid ((bel_a w _).trans ((HB1.out.trans (hb2.mono (by simp; omega))).mono (by simp)))
  clear d0 d1 d2 d3 d4 d5 hb2
  have hadd0 := fun w => add_str w ⟨#[100, 114, 111, 112, 32]⟩ s1 (by simp only [size_lit, List.size_toArray, List.length_cons, List.length_nil]; omega)
  go_wp2_with fail
  go_ret
  obtain ⟨q1, q2, q3⟩ := HSE.out
  subst q1 q2 q3
  exact ⟨rfl, HB2.out⟩
set_option maxHeartbeats 4000000 in
set_option maxRecDepth 100000 in
theorem smpX_1 (x y n : Int) (A A' : Option Addr) (k c k' c' : Nat) (w : World) (hx0 : 0 ≤ x) (hx5 : x ≤ 5) (hy0 : 0 ≤ y) (hy5 : y ≤ 5) (h0 : 0 ≤ n) (h9 : n ≤ 9) :
    Calls Tryd.prog 21 #[.agg #[.int .i64 1, .int .i64 x, .int .i64 y, .int .i64 n, .slice A k c, .slice A' k' c']] w (TxRet (smpT 1 x y n) w) := by
  obtain ⟨s1, hse1⟩ : ∃ s, s = bch (97 + x) := ⟨_, rfl⟩
  obtain ⟨s2, hse2⟩ : ∃ s, s = bch (97 + y) := ⟨_, rfl⟩
  obtain ⟨s3, hse3⟩ : ∃ s, s = bch (48 + n) := ⟨_, rfl⟩
  have CX : Hid (∀ w, Calls Tryd.prog 32 #[.int .i64 x] w (TxRet s1 w)) := Lib.hid fun w => by rw [hse1]; exact iletter_any x w hx0 hx5
  have CY : Hid (∀ w, Calls Tryd.prog 32 #[.int .i64 y] w (TxRet s2 w)) := Lib.hid fun w => by rw [hse2]; exact iletter_any y w hy0 hy5
  have CN : Hid (∀ w, Calls Tryd.prog 33 #[.int .i64 n] w (TxRet s3 w)) := Lib.hid fun w => by rw [hse3]; exact itoa_any n w h0 h9
  have HSE : Hid (s1 = bch (97 + x) ∧ s2 = bch (97 + y) ∧ s3 = bch (48 + n)) := Lib.hid ⟨hse1, hse2, hse3⟩
  have hs1 : s1.size = 1 := by rw [hse1]; rfl
  have hs2 : s2.size = 1 := by rw [hse2]; rfl
  have hs3 : s3.size = 1 := by rw [hse3]; rfl
  clear hse1 hse2 hse3
  have hrow : (w.alloc (.cells #[.int .i64 1, .int .i64 x, .int .i64 y, .int .i64 n, .slice A k c, .slice A' k' c'] 47)).heap[w.heap.size]? = some (.cells #[.int .i64 1, .int .i64 x, .int .i64 y, .int .i64 n, .slice A k c, .slice A' k' c'] 47) := heap_alloc_new w _
  have q0 : (w.alloc (.cells #[.int .i64 1, .int .i64 x, .int .i64 y, .int .i64 n, .slice A k c, .slice A' k' c'] 47)).cell? ⟨w.heap.size, 0, none⟩ = some (.int .i64 1) := by rw [cell_of_row _ _ _ _ _ _ hrow]; rfl
  have q1 : (w.alloc (.cells #[.int .i64 1, .int .i64 x, .int .i64 y, .int .i64 n, .slice A k c, .slice A' k' c'] 47)).cell? ⟨w.heap.size, 1, none⟩ = some (.int .i64 x) := by rw [cell_of_row _ _ _ _ _ _ hrow]; rfl
  have q2 : (w.alloc (.cells #[.int .i64 1, .int .i64 x, .int .i64 y, .int .i64 n, .slice A k c, .slice A' k' c'] 47)).cell? ⟨w.heap.size, 2, none⟩ = some (.int .i64 y) := by rw [cell_of_row _ _ _ _ _ _ hrow]; rfl
  have q3 : (w.alloc (.cells #[.int .i64 1, .int .i64 x, .int .i64 y, .int .i64 n, .slice A k c, .slice A' k' c'] 47)).cell? ⟨w.heap.size, 3, none⟩ = some (.int .i64 n) := by rw [cell_of_row _ _ _ _ _ _ hrow]; rfl
  have HW := Lib.hid (bel_a w (.cells #[.int .i64 1, .int .i64 x, .int .i64 y, .int .i64 n, .slice A k c, .slice A' k' c'] 47))
  have hWs : w.heap.size < (w.alloc (.cells #[.int .i64 1, .int .i64 x, .int .i64 y, .int .i64 n, .slice A k c, .slice A' k' c'] 47)).heap.size := by simp
  go_enter Tryd.func21, Tryd.ntmps21
  go_wp2_with fail
  generalize w.alloc (.cells #[.int .i64 1, .int .i64 x, .int .i64 y, .int .i64 n, .slice A k c, .slice A' k' c'] 47) = W at *
  clear hrow
  have BEL : Hid (∀ w', (w'.cell? ⟨w.heap.size, 0, none⟩ = some (.int .i64 1) ∧ w'.cell? ⟨w.heap.size, 1, none⟩ = some (.int .i64 x) ∧ w'.cell? ⟨w.heap.size, 2, none⟩ = some (.int .i64 y) ∧ w'.cell? ⟨w.heap.size, 3, none⟩ = some (.int .i64 n) ∧ Below W.heap.size W w' ∧ w.heap.size < W.heap.size) → Below W.heap.size W w') := Lib.hid fun w' h => h.2.2.2.2.1
  go_region_held3 (fun w' => (w'.cell? ⟨w.heap.size, 0, none⟩ = some (.int .i64 1) ∧ w'.cell? ⟨w.heap.size, 1, none⟩ = some (.int .i64 x) ∧ w'.cell? ⟨w.heap.size, 2, none⟩ = some (.int .i64 y) ∧ w'.cell? ⟨w.heap.size, 3, none⟩ = some (.int .i64 n) ∧ Below W.heap.size W w' ∧ w.heap.size < W.heap.size))
    (first | exact ⟨q0, q1, q2, q3, (Below.refl _ _).drew, hWs⟩ | exact Hd4.step (by assumption) (by assumption) | go_keep)
    (first
      | (go_at_call 32; (with_reducible refine (CX.out _).mono ?_); (rintro e w2 ⟨rfl, hb2⟩))
      | (go_at_call 32; (with_reducible refine (CY.out _).mono ?_); (rintro e w3 ⟨rfl, hb3⟩))
      | (go_at_call 33; (with_reducible refine (CN.out _).mono ?_); (rintro e w4 ⟨rfl, hb4⟩)))
  all_goals
    have hadd0 := fun w => add_str w s1 ⟨#[61]⟩ (by simp only [size_lit, List.size_toArray, List.length_cons, List.length_nil]; omega)
    have hadd1 := fun w => add_str w (s1 ++ ⟨#[61]⟩) s3 (by simp only [ByteArray.size_append, size_lit, List.size_toArray, List.length_cons, List.length_nil]; omega)
    go_wp2_with fail
    go_ret
    obtain ⟨q1, q2, q3⟩ := HSE.out
    subst q1 q2 q3
    exact ⟨rfl, HW.out.trans ((BEL.out _ (by assumption)).mono (by omega))⟩
set_option maxHeartbeats 4000000 in
set_option maxRecDepth 100000 in
theorem smpX_2 (x y n : Int) (A A' : Option Addr) (k c k' c' : Nat) (w : World) (hx0 : 0 ≤ x) (hx5 : x ≤ 5) (hy0 : 0 ≤ y) (hy5 : y ≤ 5) (h0 : 0 ≤ n) (h9 : n ≤ 9) :
    Calls Tryd.prog 21 #[.agg #[.int .i64 2, .int .i64 x, .int .i64 y, .int .i64 n, .slice A k c, .slice A' k' c']] w (TxRet (smpT 2 x y n) w) := by
  obtain ⟨s1, hse1⟩ : ∃ s, s = bch (97 + x) := ⟨_, rfl⟩
  obtain ⟨s2, hse2⟩ : ∃ s, s = bch (97 + y) := ⟨_, rfl⟩
  obtain ⟨s3, hse3⟩ : ∃ s, s = bch (48 + n) := ⟨_, rfl⟩
  have CX : Hid (∀ w, Calls Tryd.prog 32 #[.int .i64 x] w (TxRet s1 w)) := Lib.hid fun w => by rw [hse1]; exact iletter_any x w hx0 hx5
  have CY : Hid (∀ w, Calls Tryd.prog 32 #[.int .i64 y] w (TxRet s2 w)) := Lib.hid fun w => by rw [hse2]; exact iletter_any y w hy0 hy5
  have CN : Hid (∀ w, Calls Tryd.prog 33 #[.int .i64 n] w (TxRet s3 w)) := Lib.hid fun w => by rw [hse3]; exact itoa_any n w h0 h9
  have HSE : Hid (s1 = bch (97 + x) ∧ s2 = bch (97 + y) ∧ s3 = bch (48 + n)) := Lib.hid ⟨hse1, hse2, hse3⟩
  have hs1 : s1.size = 1 := by rw [hse1]; rfl
  have hs2 : s2.size = 1 := by rw [hse2]; rfl
  have hs3 : s3.size = 1 := by rw [hse3]; rfl
  clear hse1 hse2 hse3
  have hrow : (w.alloc (.cells #[.int .i64 2, .int .i64 x, .int .i64 y, .int .i64 n, .slice A k c, .slice A' k' c'] 47)).heap[w.heap.size]? = some (.cells #[.int .i64 2, .int .i64 x, .int .i64 y, .int .i64 n, .slice A k c, .slice A' k' c'] 47) := heap_alloc_new w _
  have q0 : (w.alloc (.cells #[.int .i64 2, .int .i64 x, .int .i64 y, .int .i64 n, .slice A k c, .slice A' k' c'] 47)).cell? ⟨w.heap.size, 0, none⟩ = some (.int .i64 2) := by rw [cell_of_row _ _ _ _ _ _ hrow]; rfl
  have q1 : (w.alloc (.cells #[.int .i64 2, .int .i64 x, .int .i64 y, .int .i64 n, .slice A k c, .slice A' k' c'] 47)).cell? ⟨w.heap.size, 1, none⟩ = some (.int .i64 x) := by rw [cell_of_row _ _ _ _ _ _ hrow]; rfl
  have q2 : (w.alloc (.cells #[.int .i64 2, .int .i64 x, .int .i64 y, .int .i64 n, .slice A k c, .slice A' k' c'] 47)).cell? ⟨w.heap.size, 2, none⟩ = some (.int .i64 y) := by rw [cell_of_row _ _ _ _ _ _ hrow]; rfl
  have q3 : (w.alloc (.cells #[.int .i64 2, .int .i64 x, .int .i64 y, .int .i64 n, .slice A k c, .slice A' k' c'] 47)).cell? ⟨w.heap.size, 3, none⟩ = some (.int .i64 n) := by rw [cell_of_row _ _ _ _ _ _ hrow]; rfl
  have HW := Lib.hid (bel_a w (.cells #[.int .i64 2, .int .i64 x, .int .i64 y, .int .i64 n, .slice A k c, .slice A' k' c'] 47))
  have hWs : w.heap.size < (w.alloc (.cells #[.int .i64 2, .int .i64 x, .int .i64 y, .int .i64 n, .slice A k c, .slice A' k' c'] 47)).heap.size := by simp
  go_enter Tryd.func21, Tryd.ntmps21
  go_wp2_with fail
  generalize w.alloc (.cells #[.int .i64 2, .int .i64 x, .int .i64 y, .int .i64 n, .slice A k c, .slice A' k' c'] 47) = W at *
  clear hrow
  have BEL : Hid (∀ w', (w'.cell? ⟨w.heap.size, 0, none⟩ = some (.int .i64 2) ∧ w'.cell? ⟨w.heap.size, 1, none⟩ = some (.int .i64 x) ∧ w'.cell? ⟨w.heap.size, 2, none⟩ = some (.int .i64 y) ∧ w'.cell? ⟨w.heap.size, 3, none⟩ = some (.int .i64 n) ∧ Below W.heap.size W w' ∧ w.heap.size < W.heap.size) → Below W.heap.size W w') := Lib.hid fun w' h => h.2.2.2.2.1
  go_region_held3 (fun w' => (w'.cell? ⟨w.heap.size, 0, none⟩ = some (.int .i64 2) ∧ w'.cell? ⟨w.heap.size, 1, none⟩ = some (.int .i64 x) ∧ w'.cell? ⟨w.heap.size, 2, none⟩ = some (.int .i64 y) ∧ w'.cell? ⟨w.heap.size, 3, none⟩ = some (.int .i64 n) ∧ Below W.heap.size W w' ∧ w.heap.size < W.heap.size))
    (first | exact ⟨q0, q1, q2, q3, (Below.refl _ _).drew, hWs⟩ | exact Hd4.step (by assumption) (by assumption) | go_keep)
    (first
      | (go_at_call 32; (with_reducible refine (CX.out _).mono ?_); (rintro e w2 ⟨rfl, hb2⟩))
      | (go_at_call 32; (with_reducible refine (CY.out _).mono ?_); (rintro e w3 ⟨rfl, hb3⟩))
      | (go_at_call 33; (with_reducible refine (CN.out _).mono ?_); (rintro e w4 ⟨rfl, hb4⟩)))
  all_goals
    have hadd0 := fun w => add_str w s1 ⟨#[61, 98, 111, 120, 32]⟩ (by simp only [size_lit, List.size_toArray, List.length_cons, List.length_nil]; omega)
    have hadd1 := fun w => add_str w (s1 ++ ⟨#[61, 98, 111, 120, 32]⟩) s3 (by simp only [ByteArray.size_append, size_lit, List.size_toArray, List.length_cons, List.length_nil]; omega)
    go_wp2_with fail
    go_ret
    obtain ⟨q1, q2, q3⟩ := HSE.out
    subst q1 q2 q3
    exact ⟨rfl, HW.out.trans ((BEL.out _ (by assumption)).mono (by omega))⟩
set_option maxHeartbeats 4000000 in
set_option maxRecDepth 100000 in
theorem smpX_3 (x y n : Int) (A A' : Option Addr) (k c k' c' : Nat) (w : World) (hx0 : 0 ≤ x) (hx5 : x ≤ 5) (hy0 : 0 ≤ y) (hy5 : y ≤ 5) (h0 : 0 ≤ n) (h9 : n ≤ 9) :
    Calls Tryd.prog 21 #[.agg #[.int .i64 3, .int .i64 x, .int .i64 y, .int .i64 n, .slice A k c, .slice A' k' c']] w (TxRet (smpT 3 x y n) w) := by
  obtain ⟨s1, hse1⟩ : ∃ s, s = bch (97 + x) := ⟨_, rfl⟩
  obtain ⟨s2, hse2⟩ : ∃ s, s = bch (97 + y) := ⟨_, rfl⟩
  obtain ⟨s3, hse3⟩ : ∃ s, s = bch (48 + n) := ⟨_, rfl⟩
  have CX : Hid (∀ w, Calls Tryd.prog 32 #[.int .i64 x] w (TxRet s1 w)) := Lib.hid fun w => by rw [hse1]; exact iletter_any x w hx0 hx5
  have CY : Hid (∀ w, Calls Tryd.prog 32 #[.int .i64 y] w (TxRet s2 w)) := Lib.hid fun w => by rw [hse2]; exact iletter_any y w hy0 hy5
  have CN : Hid (∀ w, Calls Tryd.prog 33 #[.int .i64 n] w (TxRet s3 w)) := Lib.hid fun w => by rw [hse3]; exact itoa_any n w h0 h9
  have HSE : Hid (s1 = bch (97 + x) ∧ s2 = bch (97 + y) ∧ s3 = bch (48 + n)) := Lib.hid ⟨hse1, hse2, hse3⟩
  have hs1 : s1.size = 1 := by rw [hse1]; rfl
  have hs2 : s2.size = 1 := by rw [hse2]; rfl
  have hs3 : s3.size = 1 := by rw [hse3]; rfl
  clear hse1 hse2 hse3
  have hrow : (w.alloc (.cells #[.int .i64 3, .int .i64 x, .int .i64 y, .int .i64 n, .slice A k c, .slice A' k' c'] 47)).heap[w.heap.size]? = some (.cells #[.int .i64 3, .int .i64 x, .int .i64 y, .int .i64 n, .slice A k c, .slice A' k' c'] 47) := heap_alloc_new w _
  have q0 : (w.alloc (.cells #[.int .i64 3, .int .i64 x, .int .i64 y, .int .i64 n, .slice A k c, .slice A' k' c'] 47)).cell? ⟨w.heap.size, 0, none⟩ = some (.int .i64 3) := by rw [cell_of_row _ _ _ _ _ _ hrow]; rfl
  have q1 : (w.alloc (.cells #[.int .i64 3, .int .i64 x, .int .i64 y, .int .i64 n, .slice A k c, .slice A' k' c'] 47)).cell? ⟨w.heap.size, 1, none⟩ = some (.int .i64 x) := by rw [cell_of_row _ _ _ _ _ _ hrow]; rfl
  have q2 : (w.alloc (.cells #[.int .i64 3, .int .i64 x, .int .i64 y, .int .i64 n, .slice A k c, .slice A' k' c'] 47)).cell? ⟨w.heap.size, 2, none⟩ = some (.int .i64 y) := by rw [cell_of_row _ _ _ _ _ _ hrow]; rfl
  have q3 : (w.alloc (.cells #[.int .i64 3, .int .i64 x, .int .i64 y, .int .i64 n, .slice A k c, .slice A' k' c'] 47)).cell? ⟨w.heap.size, 3, none⟩ = some (.int .i64 n) := by rw [cell_of_row _ _ _ _ _ _ hrow]; rfl
  have HW := Lib.hid (bel_a w (.cells #[.int .i64 3, .int .i64 x, .int .i64 y, .int .i64 n, .slice A k c, .slice A' k' c'] 47))
  have hWs : w.heap.size < (w.alloc (.cells #[.int .i64 3, .int .i64 x, .int .i64 y, .int .i64 n, .slice A k c, .slice A' k' c'] 47)).heap.size := by simp
  go_enter Tryd.func21, Tryd.ntmps21
  go_wp2_with fail
  generalize w.alloc (.cells #[.int .i64 3, .int .i64 x, .int .i64 y, .int .i64 n, .slice A k c, .slice A' k' c'] 47) = W at *
  clear hrow
  have BEL : Hid (∀ w', (w'.cell? ⟨w.heap.size, 0, none⟩ = some (.int .i64 3) ∧ w'.cell? ⟨w.heap.size, 1, none⟩ = some (.int .i64 x) ∧ w'.cell? ⟨w.heap.size, 2, none⟩ = some (.int .i64 y) ∧ w'.cell? ⟨w.heap.size, 3, none⟩ = some (.int .i64 n) ∧ Below W.heap.size W w' ∧ w.heap.size < W.heap.size) → Below W.heap.size W w') := Lib.hid fun w' h => h.2.2.2.2.1
  go_region_held3 (fun w' => (w'.cell? ⟨w.heap.size, 0, none⟩ = some (.int .i64 3) ∧ w'.cell? ⟨w.heap.size, 1, none⟩ = some (.int .i64 x) ∧ w'.cell? ⟨w.heap.size, 2, none⟩ = some (.int .i64 y) ∧ w'.cell? ⟨w.heap.size, 3, none⟩ = some (.int .i64 n) ∧ Below W.heap.size W w' ∧ w.heap.size < W.heap.size))
    (first | exact ⟨q0, q1, q2, q3, (Below.refl _ _).drew, hWs⟩ | exact Hd4.step (by assumption) (by assumption) | go_keep)
    (first
      | (go_at_call 32; (with_reducible refine (CX.out _).mono ?_); (rintro e w2 ⟨rfl, hb2⟩))
      | (go_at_call 32; (with_reducible refine (CY.out _).mono ?_); (rintro e w3 ⟨rfl, hb3⟩))
      | (go_at_call 33; (with_reducible refine (CN.out _).mono ?_); (rintro e w4 ⟨rfl, hb4⟩)))
  all_goals
    have hadd0 := fun w => add_str w s1 ⟨#[61]⟩ (by simp only [size_lit, List.size_toArray, List.length_cons, List.length_nil]; omega)
    have hadd1 := fun w => add_str w (s1 ++ ⟨#[61]⟩) s2 (by simp only [ByteArray.size_append, size_lit, List.size_toArray, List.length_cons, List.length_nil]; omega)
    go_wp2_with fail
    go_ret
    obtain ⟨q1, q2, q3⟩ := HSE.out
    subst q1 q2 q3
    exact ⟨rfl, HW.out.trans ((BEL.out _ (by assumption)).mono (by omega))⟩
set_option maxHeartbeats 4000000 in
set_option maxRecDepth 100000 in
theorem smpX_4 (x y n : Int) (A A' : Option Addr) (k c k' c' : Nat) (w : World) (hx0 : 0 ≤ x) (hx5 : x ≤ 5) (hy0 : 0 ≤ y) (hy5 : y ≤ 5) (h0 : 0 ≤ n) (h9 : n ≤ 9) :
    Calls Tryd.prog 21 #[.agg #[.int .i64 4, .int .i64 x, .int .i64 y, .int .i64 n, .slice A k c, .slice A' k' c']] w (TxRet (smpT 4 x y n) w) := by
  obtain ⟨s1, hse1⟩ : ∃ s, s = bch (97 + x) := ⟨_, rfl⟩
  obtain ⟨s2, hse2⟩ : ∃ s, s = bch (97 + y) := ⟨_, rfl⟩
  obtain ⟨s3, hse3⟩ : ∃ s, s = bch (48 + n) := ⟨_, rfl⟩
  have CX : Hid (∀ w, Calls Tryd.prog 32 #[.int .i64 x] w (TxRet s1 w)) := Lib.hid fun w => by rw [hse1]; exact iletter_any x w hx0 hx5
  have CY : Hid (∀ w, Calls Tryd.prog 32 #[.int .i64 y] w (TxRet s2 w)) := Lib.hid fun w => by rw [hse2]; exact iletter_any y w hy0 hy5
  have CN : Hid (∀ w, Calls Tryd.prog 33 #[.int .i64 n] w (TxRet s3 w)) := Lib.hid fun w => by rw [hse3]; exact itoa_any n w h0 h9
  have HSE : Hid (s1 = bch (97 + x) ∧ s2 = bch (97 + y) ∧ s3 = bch (48 + n)) := Lib.hid ⟨hse1, hse2, hse3⟩
  have hs1 : s1.size = 1 := by rw [hse1]; rfl
  have hs2 : s2.size = 1 := by rw [hse2]; rfl
  have hs3 : s3.size = 1 := by rw [hse3]; rfl
  clear hse1 hse2 hse3
  have hrow : (w.alloc (.cells #[.int .i64 4, .int .i64 x, .int .i64 y, .int .i64 n, .slice A k c, .slice A' k' c'] 47)).heap[w.heap.size]? = some (.cells #[.int .i64 4, .int .i64 x, .int .i64 y, .int .i64 n, .slice A k c, .slice A' k' c'] 47) := heap_alloc_new w _
  have q0 : (w.alloc (.cells #[.int .i64 4, .int .i64 x, .int .i64 y, .int .i64 n, .slice A k c, .slice A' k' c'] 47)).cell? ⟨w.heap.size, 0, none⟩ = some (.int .i64 4) := by rw [cell_of_row _ _ _ _ _ _ hrow]; rfl
  have q1 : (w.alloc (.cells #[.int .i64 4, .int .i64 x, .int .i64 y, .int .i64 n, .slice A k c, .slice A' k' c'] 47)).cell? ⟨w.heap.size, 1, none⟩ = some (.int .i64 x) := by rw [cell_of_row _ _ _ _ _ _ hrow]; rfl
  have q2 : (w.alloc (.cells #[.int .i64 4, .int .i64 x, .int .i64 y, .int .i64 n, .slice A k c, .slice A' k' c'] 47)).cell? ⟨w.heap.size, 2, none⟩ = some (.int .i64 y) := by rw [cell_of_row _ _ _ _ _ _ hrow]; rfl
  have q3 : (w.alloc (.cells #[.int .i64 4, .int .i64 x, .int .i64 y, .int .i64 n, .slice A k c, .slice A' k' c'] 47)).cell? ⟨w.heap.size, 3, none⟩ = some (.int .i64 n) := by rw [cell_of_row _ _ _ _ _ _ hrow]; rfl
  have HW := Lib.hid (bel_a w (.cells #[.int .i64 4, .int .i64 x, .int .i64 y, .int .i64 n, .slice A k c, .slice A' k' c'] 47))
  have hWs : w.heap.size < (w.alloc (.cells #[.int .i64 4, .int .i64 x, .int .i64 y, .int .i64 n, .slice A k c, .slice A' k' c'] 47)).heap.size := by simp
  go_enter Tryd.func21, Tryd.ntmps21
  go_wp2_with fail
  generalize w.alloc (.cells #[.int .i64 4, .int .i64 x, .int .i64 y, .int .i64 n, .slice A k c, .slice A' k' c'] 47) = W at *
  clear hrow
  have BEL : Hid (∀ w', (w'.cell? ⟨w.heap.size, 0, none⟩ = some (.int .i64 4) ∧ w'.cell? ⟨w.heap.size, 1, none⟩ = some (.int .i64 x) ∧ w'.cell? ⟨w.heap.size, 2, none⟩ = some (.int .i64 y) ∧ w'.cell? ⟨w.heap.size, 3, none⟩ = some (.int .i64 n) ∧ Below W.heap.size W w' ∧ w.heap.size < W.heap.size) → Below W.heap.size W w') := Lib.hid fun w' h => h.2.2.2.2.1
  go_region_held3 (fun w' => (w'.cell? ⟨w.heap.size, 0, none⟩ = some (.int .i64 4) ∧ w'.cell? ⟨w.heap.size, 1, none⟩ = some (.int .i64 x) ∧ w'.cell? ⟨w.heap.size, 2, none⟩ = some (.int .i64 y) ∧ w'.cell? ⟨w.heap.size, 3, none⟩ = some (.int .i64 n) ∧ Below W.heap.size W w' ∧ w.heap.size < W.heap.size))
    (first | exact ⟨q0, q1, q2, q3, (Below.refl _ _).drew, hWs⟩ | exact Hd4.step (by assumption) (by assumption) | go_keep)
    (first
      | (go_at_call 32; (with_reducible refine (CX.out _).mono ?_); (rintro e w2 ⟨rfl, hb2⟩))
      | (go_at_call 32; (with_reducible refine (CY.out _).mono ?_); (rintro e w3 ⟨rfl, hb3⟩))
      | (go_at_call 33; (with_reducible refine (CN.out _).mono ?_); (rintro e w4 ⟨rfl, hb4⟩)))
  all_goals
    have hadd0 := fun w => add_str w s1 ⟨#[61, 38]⟩ (by simp only [size_lit, List.size_toArray, List.length_cons, List.length_nil]; omega)
    have hadd1 := fun w => add_str w (s1 ++ ⟨#[61, 38]⟩) s2 (by simp only [ByteArray.size_append, size_lit, List.size_toArray, List.length_cons, List.length_nil]; omega)
    go_wp2_with fail
    go_ret
    obtain ⟨q1, q2, q3⟩ := HSE.out
    subst q1 q2 q3
    exact ⟨rfl, HW.out.trans ((BEL.out _ (by assumption)).mono (by omega))⟩
set_option maxHeartbeats 4000000 in
set_option maxRecDepth 100000 in
theorem smpX_5 (x y n : Int) (A A' : Option Addr) (k c k' c' : Nat) (w : World) (hx0 : 0 ≤ x) (hx5 : x ≤ 5) (hy0 : 0 ≤ y) (hy5 : y ≤ 5) (h0 : 0 ≤ n) (h9 : n ≤ 9) :
    Calls Tryd.prog 21 #[.agg #[.int .i64 5, .int .i64 x, .int .i64 y, .int .i64 n, .slice A k c, .slice A' k' c']] w (TxRet (smpT 5 x y n) w) := by
  obtain ⟨s1, hse1⟩ : ∃ s, s = bch (97 + x) := ⟨_, rfl⟩
  obtain ⟨s2, hse2⟩ : ∃ s, s = bch (97 + y) := ⟨_, rfl⟩
  obtain ⟨s3, hse3⟩ : ∃ s, s = bch (48 + n) := ⟨_, rfl⟩
  have CX : Hid (∀ w, Calls Tryd.prog 32 #[.int .i64 x] w (TxRet s1 w)) := Lib.hid fun w => by rw [hse1]; exact iletter_any x w hx0 hx5
  have CY : Hid (∀ w, Calls Tryd.prog 32 #[.int .i64 y] w (TxRet s2 w)) := Lib.hid fun w => by rw [hse2]; exact iletter_any y w hy0 hy5
  have CN : Hid (∀ w, Calls Tryd.prog 33 #[.int .i64 n] w (TxRet s3 w)) := Lib.hid fun w => by rw [hse3]; exact itoa_any n w h0 h9
  have HSE : Hid (s1 = bch (97 + x) ∧ s2 = bch (97 + y) ∧ s3 = bch (48 + n)) := Lib.hid ⟨hse1, hse2, hse3⟩
  have hs1 : s1.size = 1 := by rw [hse1]; rfl
  have hs2 : s2.size = 1 := by rw [hse2]; rfl
  have hs3 : s3.size = 1 := by rw [hse3]; rfl
  clear hse1 hse2 hse3
  have hrow : (w.alloc (.cells #[.int .i64 5, .int .i64 x, .int .i64 y, .int .i64 n, .slice A k c, .slice A' k' c'] 47)).heap[w.heap.size]? = some (.cells #[.int .i64 5, .int .i64 x, .int .i64 y, .int .i64 n, .slice A k c, .slice A' k' c'] 47) := heap_alloc_new w _
  have q0 : (w.alloc (.cells #[.int .i64 5, .int .i64 x, .int .i64 y, .int .i64 n, .slice A k c, .slice A' k' c'] 47)).cell? ⟨w.heap.size, 0, none⟩ = some (.int .i64 5) := by rw [cell_of_row _ _ _ _ _ _ hrow]; rfl
  have q1 : (w.alloc (.cells #[.int .i64 5, .int .i64 x, .int .i64 y, .int .i64 n, .slice A k c, .slice A' k' c'] 47)).cell? ⟨w.heap.size, 1, none⟩ = some (.int .i64 x) := by rw [cell_of_row _ _ _ _ _ _ hrow]; rfl
  have q2 : (w.alloc (.cells #[.int .i64 5, .int .i64 x, .int .i64 y, .int .i64 n, .slice A k c, .slice A' k' c'] 47)).cell? ⟨w.heap.size, 2, none⟩ = some (.int .i64 y) := by rw [cell_of_row _ _ _ _ _ _ hrow]; rfl
  have q3 : (w.alloc (.cells #[.int .i64 5, .int .i64 x, .int .i64 y, .int .i64 n, .slice A k c, .slice A' k' c'] 47)).cell? ⟨w.heap.size, 3, none⟩ = some (.int .i64 n) := by rw [cell_of_row _ _ _ _ _ _ hrow]; rfl
  have HW := Lib.hid (bel_a w (.cells #[.int .i64 5, .int .i64 x, .int .i64 y, .int .i64 n, .slice A k c, .slice A' k' c'] 47))
  have hWs : w.heap.size < (w.alloc (.cells #[.int .i64 5, .int .i64 x, .int .i64 y, .int .i64 n, .slice A k c, .slice A' k' c'] 47)).heap.size := by simp
  go_enter Tryd.func21, Tryd.ntmps21
  go_wp2_with fail
  generalize w.alloc (.cells #[.int .i64 5, .int .i64 x, .int .i64 y, .int .i64 n, .slice A k c, .slice A' k' c'] 47) = W at *
  clear hrow
  have BEL : Hid (∀ w', (w'.cell? ⟨w.heap.size, 0, none⟩ = some (.int .i64 5) ∧ w'.cell? ⟨w.heap.size, 1, none⟩ = some (.int .i64 x) ∧ w'.cell? ⟨w.heap.size, 2, none⟩ = some (.int .i64 y) ∧ w'.cell? ⟨w.heap.size, 3, none⟩ = some (.int .i64 n) ∧ Below W.heap.size W w' ∧ w.heap.size < W.heap.size) → Below W.heap.size W w') := Lib.hid fun w' h => h.2.2.2.2.1
  go_region_held3 (fun w' => (w'.cell? ⟨w.heap.size, 0, none⟩ = some (.int .i64 5) ∧ w'.cell? ⟨w.heap.size, 1, none⟩ = some (.int .i64 x) ∧ w'.cell? ⟨w.heap.size, 2, none⟩ = some (.int .i64 y) ∧ w'.cell? ⟨w.heap.size, 3, none⟩ = some (.int .i64 n) ∧ Below W.heap.size W w' ∧ w.heap.size < W.heap.size))
    (first | exact ⟨q0, q1, q2, q3, (Below.refl _ _).drew, hWs⟩ | exact Hd4.step (by assumption) (by assumption) | go_keep)
    (first
      | (go_at_call 32; (with_reducible refine (CX.out _).mono ?_); (rintro e w2 ⟨rfl, hb2⟩))
      | (go_at_call 32; (with_reducible refine (CY.out _).mono ?_); (rintro e w3 ⟨rfl, hb3⟩))
      | (go_at_call 33; (with_reducible refine (CN.out _).mono ?_); (rintro e w4 ⟨rfl, hb4⟩)))
  all_goals
    have hadd0 := fun w => add_str w s1 ⟨#[61, 38, 109, 117, 116, 32]⟩ (by simp only [size_lit, List.size_toArray, List.length_cons, List.length_nil]; omega)
    have hadd1 := fun w => add_str w (s1 ++ ⟨#[61, 38, 109, 117, 116, 32]⟩) s2 (by simp only [ByteArray.size_append, size_lit, List.size_toArray, List.length_cons, List.length_nil]; omega)
    go_wp2_with fail
    go_ret
    obtain ⟨q1, q2, q3⟩ := HSE.out
    subst q1 q2 q3
    exact ⟨rfl, HW.out.trans ((BEL.out _ (by assumption)).mono (by omega))⟩
set_option maxHeartbeats 4000000 in
set_option maxRecDepth 100000 in
theorem smpX_6 (x y n : Int) (A A' : Option Addr) (k c k' c' : Nat) (w : World) (hx0 : 0 ≤ x) (hx5 : x ≤ 5) (hy0 : 0 ≤ y) (hy5 : y ≤ 5) (h0 : 0 ≤ n) (h9 : n ≤ 9) :
    Calls Tryd.prog 21 #[.agg #[.int .i64 6, .int .i64 x, .int .i64 y, .int .i64 n, .slice A k c, .slice A' k' c']] w (TxRet (smpT 6 x y n) w) := by
  obtain ⟨s1, hse1⟩ : ∃ s, s = bch (97 + x) := ⟨_, rfl⟩
  obtain ⟨s2, hse2⟩ : ∃ s, s = bch (97 + y) := ⟨_, rfl⟩
  obtain ⟨s3, hse3⟩ : ∃ s, s = bch (48 + n) := ⟨_, rfl⟩
  have CX : Hid (∀ w, Calls Tryd.prog 32 #[.int .i64 x] w (TxRet s1 w)) := Lib.hid fun w => by rw [hse1]; exact iletter_any x w hx0 hx5
  have CY : Hid (∀ w, Calls Tryd.prog 32 #[.int .i64 y] w (TxRet s2 w)) := Lib.hid fun w => by rw [hse2]; exact iletter_any y w hy0 hy5
  have CN : Hid (∀ w, Calls Tryd.prog 33 #[.int .i64 n] w (TxRet s3 w)) := Lib.hid fun w => by rw [hse3]; exact itoa_any n w h0 h9
  have HSE : Hid (s1 = bch (97 + x) ∧ s2 = bch (97 + y) ∧ s3 = bch (48 + n)) := Lib.hid ⟨hse1, hse2, hse3⟩
  have hs1 : s1.size = 1 := by rw [hse1]; rfl
  have hs2 : s2.size = 1 := by rw [hse2]; rfl
  have hs3 : s3.size = 1 := by rw [hse3]; rfl
  clear hse1 hse2 hse3
  have hrow : (w.alloc (.cells #[.int .i64 6, .int .i64 x, .int .i64 y, .int .i64 n, .slice A k c, .slice A' k' c'] 47)).heap[w.heap.size]? = some (.cells #[.int .i64 6, .int .i64 x, .int .i64 y, .int .i64 n, .slice A k c, .slice A' k' c'] 47) := heap_alloc_new w _
  have q0 : (w.alloc (.cells #[.int .i64 6, .int .i64 x, .int .i64 y, .int .i64 n, .slice A k c, .slice A' k' c'] 47)).cell? ⟨w.heap.size, 0, none⟩ = some (.int .i64 6) := by rw [cell_of_row _ _ _ _ _ _ hrow]; rfl
  have q1 : (w.alloc (.cells #[.int .i64 6, .int .i64 x, .int .i64 y, .int .i64 n, .slice A k c, .slice A' k' c'] 47)).cell? ⟨w.heap.size, 1, none⟩ = some (.int .i64 x) := by rw [cell_of_row _ _ _ _ _ _ hrow]; rfl
  have q2 : (w.alloc (.cells #[.int .i64 6, .int .i64 x, .int .i64 y, .int .i64 n, .slice A k c, .slice A' k' c'] 47)).cell? ⟨w.heap.size, 2, none⟩ = some (.int .i64 y) := by rw [cell_of_row _ _ _ _ _ _ hrow]; rfl
  have q3 : (w.alloc (.cells #[.int .i64 6, .int .i64 x, .int .i64 y, .int .i64 n, .slice A k c, .slice A' k' c'] 47)).cell? ⟨w.heap.size, 3, none⟩ = some (.int .i64 n) := by rw [cell_of_row _ _ _ _ _ _ hrow]; rfl
  have HW := Lib.hid (bel_a w (.cells #[.int .i64 6, .int .i64 x, .int .i64 y, .int .i64 n, .slice A k c, .slice A' k' c'] 47))
  have hWs : w.heap.size < (w.alloc (.cells #[.int .i64 6, .int .i64 x, .int .i64 y, .int .i64 n, .slice A k c, .slice A' k' c'] 47)).heap.size := by simp
  go_enter Tryd.func21, Tryd.ntmps21
  go_wp2_with fail
  generalize w.alloc (.cells #[.int .i64 6, .int .i64 x, .int .i64 y, .int .i64 n, .slice A k c, .slice A' k' c'] 47) = W at *
  clear hrow
  have BEL : Hid (∀ w', (w'.cell? ⟨w.heap.size, 0, none⟩ = some (.int .i64 6) ∧ w'.cell? ⟨w.heap.size, 1, none⟩ = some (.int .i64 x) ∧ w'.cell? ⟨w.heap.size, 2, none⟩ = some (.int .i64 y) ∧ w'.cell? ⟨w.heap.size, 3, none⟩ = some (.int .i64 n) ∧ Below W.heap.size W w' ∧ w.heap.size < W.heap.size) → Below W.heap.size W w') := Lib.hid fun w' h => h.2.2.2.2.1
  go_region_held3 (fun w' => (w'.cell? ⟨w.heap.size, 0, none⟩ = some (.int .i64 6) ∧ w'.cell? ⟨w.heap.size, 1, none⟩ = some (.int .i64 x) ∧ w'.cell? ⟨w.heap.size, 2, none⟩ = some (.int .i64 y) ∧ w'.cell? ⟨w.heap.size, 3, none⟩ = some (.int .i64 n) ∧ Below W.heap.size W w' ∧ w.heap.size < W.heap.size))
    (first | exact ⟨q0, q1, q2, q3, (Below.refl _ _).drew, hWs⟩ | exact Hd4.step (by assumption) (by assumption) | go_keep)
    (first
      | (go_at_call 32; (with_reducible refine (CX.out _).mono ?_); (rintro e w2 ⟨rfl, hb2⟩))
      | (go_at_call 32; (with_reducible refine (CY.out _).mono ?_); (rintro e w3 ⟨rfl, hb3⟩))
      | (go_at_call 33; (with_reducible refine (CN.out _).mono ?_); (rintro e w4 ⟨rfl, hb4⟩)))
  all_goals
    have hadd0 := fun w => add_str w s1 ⟨#[61, 42]⟩ (by simp only [size_lit, List.size_toArray, List.length_cons, List.length_nil]; omega)
    have hadd1 := fun w => add_str w (s1 ++ ⟨#[61, 42]⟩) s2 (by simp only [ByteArray.size_append, size_lit, List.size_toArray, List.length_cons, List.length_nil]; omega)
    go_wp2_with fail
    go_ret
    obtain ⟨q1, q2, q3⟩ := HSE.out
    subst q1 q2 q3
    exact ⟨rfl, HW.out.trans ((BEL.out _ (by assumption)).mono (by omega))⟩
set_option maxHeartbeats 4000000 in
set_option maxRecDepth 100000 in
theorem smpX_7 (x y n : Int) (A A' : Option Addr) (k c k' c' : Nat) (w : World) (hx0 : 0 ≤ x) (hx5 : x ≤ 5) (hy0 : 0 ≤ y) (hy5 : y ≤ 5) (h0 : 0 ≤ n) (h9 : n ≤ 9) :
    Calls Tryd.prog 21 #[.agg #[.int .i64 7, .int .i64 x, .int .i64 y, .int .i64 n, .slice A k c, .slice A' k' c']] w (TxRet (smpT 7 x y n) w) := by
  obtain ⟨s1, hse1⟩ : ∃ s, s = bch (97 + x) := ⟨_, rfl⟩
  obtain ⟨s2, hse2⟩ : ∃ s, s = bch (97 + y) := ⟨_, rfl⟩
  obtain ⟨s3, hse3⟩ : ∃ s, s = bch (48 + n) := ⟨_, rfl⟩
  have CX : Hid (∀ w, Calls Tryd.prog 32 #[.int .i64 x] w (TxRet s1 w)) := Lib.hid fun w => by rw [hse1]; exact iletter_any x w hx0 hx5
  have CY : Hid (∀ w, Calls Tryd.prog 32 #[.int .i64 y] w (TxRet s2 w)) := Lib.hid fun w => by rw [hse2]; exact iletter_any y w hy0 hy5
  have CN : Hid (∀ w, Calls Tryd.prog 33 #[.int .i64 n] w (TxRet s3 w)) := Lib.hid fun w => by rw [hse3]; exact itoa_any n w h0 h9
  have HSE : Hid (s1 = bch (97 + x) ∧ s2 = bch (97 + y) ∧ s3 = bch (48 + n)) := Lib.hid ⟨hse1, hse2, hse3⟩
  have hs1 : s1.size = 1 := by rw [hse1]; rfl
  have hs2 : s2.size = 1 := by rw [hse2]; rfl
  have hs3 : s3.size = 1 := by rw [hse3]; rfl
  clear hse1 hse2 hse3
  have hrow : (w.alloc (.cells #[.int .i64 7, .int .i64 x, .int .i64 y, .int .i64 n, .slice A k c, .slice A' k' c'] 47)).heap[w.heap.size]? = some (.cells #[.int .i64 7, .int .i64 x, .int .i64 y, .int .i64 n, .slice A k c, .slice A' k' c'] 47) := heap_alloc_new w _
  have q0 : (w.alloc (.cells #[.int .i64 7, .int .i64 x, .int .i64 y, .int .i64 n, .slice A k c, .slice A' k' c'] 47)).cell? ⟨w.heap.size, 0, none⟩ = some (.int .i64 7) := by rw [cell_of_row _ _ _ _ _ _ hrow]; rfl
  have q1 : (w.alloc (.cells #[.int .i64 7, .int .i64 x, .int .i64 y, .int .i64 n, .slice A k c, .slice A' k' c'] 47)).cell? ⟨w.heap.size, 1, none⟩ = some (.int .i64 x) := by rw [cell_of_row _ _ _ _ _ _ hrow]; rfl
  have q2 : (w.alloc (.cells #[.int .i64 7, .int .i64 x, .int .i64 y, .int .i64 n, .slice A k c, .slice A' k' c'] 47)).cell? ⟨w.heap.size, 2, none⟩ = some (.int .i64 y) := by rw [cell_of_row _ _ _ _ _ _ hrow]; rfl
  have q3 : (w.alloc (.cells #[.int .i64 7, .int .i64 x, .int .i64 y, .int .i64 n, .slice A k c, .slice A' k' c'] 47)).cell? ⟨w.heap.size, 3, none⟩ = some (.int .i64 n) := by rw [cell_of_row _ _ _ _ _ _ hrow]; rfl
  have HW := Lib.hid (bel_a w (.cells #[.int .i64 7, .int .i64 x, .int .i64 y, .int .i64 n, .slice A k c, .slice A' k' c'] 47))
  have hWs : w.heap.size < (w.alloc (.cells #[.int .i64 7, .int .i64 x, .int .i64 y, .int .i64 n, .slice A k c, .slice A' k' c'] 47)).heap.size := by simp
  go_enter Tryd.func21, Tryd.ntmps21
  go_wp2_with fail
  generalize w.alloc (.cells #[.int .i64 7, .int .i64 x, .int .i64 y, .int .i64 n, .slice A k c, .slice A' k' c'] 47) = W at *
  clear hrow
  have BEL : Hid (∀ w', (w'.cell? ⟨w.heap.size, 0, none⟩ = some (.int .i64 7) ∧ w'.cell? ⟨w.heap.size, 1, none⟩ = some (.int .i64 x) ∧ w'.cell? ⟨w.heap.size, 2, none⟩ = some (.int .i64 y) ∧ w'.cell? ⟨w.heap.size, 3, none⟩ = some (.int .i64 n) ∧ Below W.heap.size W w' ∧ w.heap.size < W.heap.size) → Below W.heap.size W w') := Lib.hid fun w' h => h.2.2.2.2.1
  go_region_held3 (fun w' => (w'.cell? ⟨w.heap.size, 0, none⟩ = some (.int .i64 7) ∧ w'.cell? ⟨w.heap.size, 1, none⟩ = some (.int .i64 x) ∧ w'.cell? ⟨w.heap.size, 2, none⟩ = some (.int .i64 y) ∧ w'.cell? ⟨w.heap.size, 3, none⟩ = some (.int .i64 n) ∧ Below W.heap.size W w' ∧ w.heap.size < W.heap.size))
    (first | exact ⟨q0, q1, q2, q3, (Below.refl _ _).drew, hWs⟩ | exact Hd4.step (by assumption) (by assumption) | go_keep)
    (first
      | (go_at_call 32; (with_reducible refine (CX.out _).mono ?_); (rintro e w2 ⟨rfl, hb2⟩))
      | (go_at_call 32; (with_reducible refine (CY.out _).mono ?_); (rintro e w3 ⟨rfl, hb3⟩))
      | (go_at_call 33; (with_reducible refine (CN.out _).mono ?_); (rintro e w4 ⟨rfl, hb4⟩)))
  all_goals
    have hadd0 := fun w => add_str w ⟨#[42]⟩ s1 (by simp only [size_lit, List.size_toArray, List.length_cons, List.length_nil]; omega)
    have hadd1 := fun w => add_str w (⟨#[42]⟩ ++ s1) ⟨#[61]⟩ (by simp only [ByteArray.size_append, size_lit, List.size_toArray, List.length_cons, List.length_nil]; omega)
    have hadd2 := fun w => add_str w ((⟨#[42]⟩ ++ s1) ++ ⟨#[61]⟩) s2 (by simp only [ByteArray.size_append, size_lit, List.size_toArray, List.length_cons, List.length_nil]; omega)
    go_wp2_with fail
    go_ret
    obtain ⟨q1, q2, q3⟩ := HSE.out
    subst q1 q2 q3
    exact ⟨rfl, HW.out.trans ((BEL.out _ (by assumption)).mono (by omega))⟩
set_option maxHeartbeats 4000000 in
set_option maxRecDepth 100000 in
theorem smpX_8 (x y n : Int) (A A' : Option Addr) (k c k' c' : Nat) (w : World) (hx0 : 0 ≤ x) (hx5 : x ≤ 5) (hy0 : 0 ≤ y) (hy5 : y ≤ 5) (h0 : 0 ≤ n) (h9 : n ≤ 9) :
    Calls Tryd.prog 21 #[.agg #[.int .i64 8, .int .i64 x, .int .i64 y, .int .i64 n, .slice A k c, .slice A' k' c']] w (TxRet (smpT 8 x y n) w) := by
  obtain ⟨s1, hse1⟩ : ∃ s, s = bch (97 + x) := ⟨_, rfl⟩
  obtain ⟨s2, hse2⟩ : ∃ s, s = bch (97 + y) := ⟨_, rfl⟩
  obtain ⟨s3, hse3⟩ : ∃ s, s = bch (48 + n) := ⟨_, rfl⟩
  have CX : Hid (∀ w, Calls Tryd.prog 32 #[.int .i64 x] w (TxRet s1 w)) := Lib.hid fun w => by rw [hse1]; exact iletter_any x w hx0 hx5
  have CY : Hid (∀ w, Calls Tryd.prog 32 #[.int .i64 y] w (TxRet s2 w)) := Lib.hid fun w => by rw [hse2]; exact iletter_any y w hy0 hy5
  have CN : Hid (∀ w, Calls Tryd.prog 33 #[.int .i64 n] w (TxRet s3 w)) := Lib.hid fun w => by rw [hse3]; exact itoa_any n w h0 h9
  have HSE : Hid (s1 = bch (97 + x) ∧ s2 = bch (97 + y) ∧ s3 = bch (48 + n)) := Lib.hid ⟨hse1, hse2, hse3⟩
  have hs1 : s1.size = 1 := by rw [hse1]; rfl
  have hs2 : s2.size = 1 := by rw [hse2]; rfl
  have hs3 : s3.size = 1 := by rw [hse3]; rfl
  clear hse1 hse2 hse3
  have hrow : (w.alloc (.cells #[.int .i64 8, .int .i64 x, .int .i64 y, .int .i64 n, .slice A k c, .slice A' k' c'] 47)).heap[w.heap.size]? = some (.cells #[.int .i64 8, .int .i64 x, .int .i64 y, .int .i64 n, .slice A k c, .slice A' k' c'] 47) := heap_alloc_new w _
  have q0 : (w.alloc (.cells #[.int .i64 8, .int .i64 x, .int .i64 y, .int .i64 n, .slice A k c, .slice A' k' c'] 47)).cell? ⟨w.heap.size, 0, none⟩ = some (.int .i64 8) := by rw [cell_of_row _ _ _ _ _ _ hrow]; rfl
  have q1 : (w.alloc (.cells #[.int .i64 8, .int .i64 x, .int .i64 y, .int .i64 n, .slice A k c, .slice A' k' c'] 47)).cell? ⟨w.heap.size, 1, none⟩ = some (.int .i64 x) := by rw [cell_of_row _ _ _ _ _ _ hrow]; rfl
  have q2 : (w.alloc (.cells #[.int .i64 8, .int .i64 x, .int .i64 y, .int .i64 n, .slice A k c, .slice A' k' c'] 47)).cell? ⟨w.heap.size, 2, none⟩ = some (.int .i64 y) := by rw [cell_of_row _ _ _ _ _ _ hrow]; rfl
  have q3 : (w.alloc (.cells #[.int .i64 8, .int .i64 x, .int .i64 y, .int .i64 n, .slice A k c, .slice A' k' c'] 47)).cell? ⟨w.heap.size, 3, none⟩ = some (.int .i64 n) := by rw [cell_of_row _ _ _ _ _ _ hrow]; rfl
  have HW := Lib.hid (bel_a w (.cells #[.int .i64 8, .int .i64 x, .int .i64 y, .int .i64 n, .slice A k c, .slice A' k' c'] 47))
  have hWs : w.heap.size < (w.alloc (.cells #[.int .i64 8, .int .i64 x, .int .i64 y, .int .i64 n, .slice A k c, .slice A' k' c'] 47)).heap.size := by simp
  go_enter Tryd.func21, Tryd.ntmps21
  go_wp2_with fail
  generalize w.alloc (.cells #[.int .i64 8, .int .i64 x, .int .i64 y, .int .i64 n, .slice A k c, .slice A' k' c'] 47) = W at *
  clear hrow
  have BEL : Hid (∀ w', (w'.cell? ⟨w.heap.size, 0, none⟩ = some (.int .i64 8) ∧ w'.cell? ⟨w.heap.size, 1, none⟩ = some (.int .i64 x) ∧ w'.cell? ⟨w.heap.size, 2, none⟩ = some (.int .i64 y) ∧ w'.cell? ⟨w.heap.size, 3, none⟩ = some (.int .i64 n) ∧ Below W.heap.size W w' ∧ w.heap.size < W.heap.size) → Below W.heap.size W w') := Lib.hid fun w' h => h.2.2.2.2.1
  go_region_held3 (fun w' => (w'.cell? ⟨w.heap.size, 0, none⟩ = some (.int .i64 8) ∧ w'.cell? ⟨w.heap.size, 1, none⟩ = some (.int .i64 x) ∧ w'.cell? ⟨w.heap.size, 2, none⟩ = some (.int .i64 y) ∧ w'.cell? ⟨w.heap.size, 3, none⟩ = some (.int .i64 n) ∧ Below W.heap.size W w' ∧ w.heap.size < W.heap.size))
    (first | exact ⟨q0, q1, q2, q3, (Below.refl _ _).drew, hWs⟩ | exact Hd4.step (by assumption) (by assumption) | go_keep)
    (first
      | (go_at_call 32; (with_reducible refine (CX.out _).mono ?_); (rintro e w2 ⟨rfl, hb2⟩))
      | (go_at_call 32; (with_reducible refine (CY.out _).mono ?_); (rintro e w3 ⟨rfl, hb3⟩))
      | (go_at_call 33; (with_reducible refine (CN.out _).mono ?_); (rintro e w4 ⟨rfl, hb4⟩)))
  all_goals
    have hadd0 := fun w => add_str w ⟨#[100, 114, 111, 112, 32]⟩ s1 (by simp only [size_lit, List.size_toArray, List.length_cons, List.length_nil]; omega)
    go_wp2_with fail
    go_ret
    obtain ⟨q1, q2, q3⟩ := HSE.out
    subst q1 q2 q3
    exact ⟨rfl, HW.out.trans ((BEL.out _ (by assumption)).mono (by omega))⟩
theorem txtX_any (op x y n : Int) (A A' : Option Addr) (k c k' c' : Nat) (w : World) (ho1 : 1 ≤ op) (ho8 : op ≤ 8) (hx0 : 0 ≤ x) (hx5 : x ≤ 5) (hy0 : 0 ≤ y) (hy5 : y ≤ 5) (h0 : 0 ≤ n) (h9 : n ≤ 9) :
    Calls Tryd.prog 22 #[.agg #[.int .i64 op, .int .i64 x, .int .i64 y, .int .i64 n, .slice A k c, .slice A' k' c']] w (TxRet (smpT op x y n) w) := by
  have hv : op = 1 ∨ op = 2 ∨ op = 3 ∨ op = 4 ∨ op = 5 ∨ op = 6 ∨ op = 7 ∨ op = 8 := by omega
  rcases hv with rfl | rfl | rfl | rfl | rfl | rfl | rfl | rfl
  · exact txtX_1 x y n A A' k c k' c' w hx0 hx5 hy0 hy5 h0 h9
  · exact txtX_2 x y n A A' k c k' c' w hx0 hx5 hy0 hy5 h0 h9
  · exact txtX_3 x y n A A' k c k' c' w hx0 hx5 hy0 hy5 h0 h9
  · exact txtX_4 x y n A A' k c k' c' w hx0 hx5 hy0 hy5 h0 h9
  · exact txtX_5 x y n A A' k c k' c' w hx0 hx5 hy0 hy5 h0 h9
  · exact txtX_6 x y n A A' k c k' c' w hx0 hx5 hy0 hy5 h0 h9
  · exact txtX_7 x y n A A' k c k' c' w hx0 hx5 hy0 hy5 h0 h9
  · exact txtX_8 x y n A A' k c k' c' w hx0 hx5 hy0 hy5 h0 h9
theorem smpX_any (op x y n : Int) (A A' : Option Addr) (k c k' c' : Nat) (w : World) (ho1 : 1 ≤ op) (ho8 : op ≤ 8) (hx0 : 0 ≤ x) (hx5 : x ≤ 5) (hy0 : 0 ≤ y) (hy5 : y ≤ 5) (h0 : 0 ≤ n) (h9 : n ≤ 9) :
    Calls Tryd.prog 21 #[.agg #[.int .i64 op, .int .i64 x, .int .i64 y, .int .i64 n, .slice A k c, .slice A' k' c']] w (TxRet (smpT op x y n) w) := by
  have hv : op = 1 ∨ op = 2 ∨ op = 3 ∨ op = 4 ∨ op = 5 ∨ op = 6 ∨ op = 7 ∨ op = 8 := by omega
  rcases hv with rfl | rfl | rfl | rfl | rfl | rfl | rfl | rfl
  · exact smpX_1 x y n A A' k c k' c' w hx0 hx5 hy0 hy5 h0 h9
  · exact smpX_2 x y n A A' k c k' c' w hx0 hx5 hy0 hy5 h0 h9
  · exact smpX_3 x y n A A' k c k' c' w hx0 hx5 hy0 hy5 h0 h9
  · exact smpX_4 x y n A A' k c k' c' w hx0 hx5 hy0 hy5 h0 h9
  · exact smpX_5 x y n A A' k c k' c' w hx0 hx5 hy0 hy5 h0 h9
  · exact smpX_6 x y n A A' k c k' c' w hx0 hx5 hy0 hy5 h0 h9
  · exact smpX_7 x y n A A' k c k' c' w hx0 hx5 hy0 hy5 h0 h9
  · exact smpX_8 x y n A A' k c k' c' w hx0 hx5 hy0 hy5 h0 h9

end Go.Proofs.YtfioaohadanjmaaDoor
