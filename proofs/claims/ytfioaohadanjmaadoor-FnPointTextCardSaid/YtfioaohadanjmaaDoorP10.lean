import Derived.Test.YtfioaohadanjmaaDoorP09
import Derived.Deep.RegionHeld3
set_option linter.unusedVariables false

/- l1Text. -/
namespace Go.Proofs.YtfioaohadanjmaaDoor
open Go.RowKit

theorem size_lit (a : Array UInt8) : (⟨a⟩ : ByteArray).size = a.size := rfl
theorem simple_op {ts : List Int} {op x y n : Int} (h : simpleP ts op x y n = true) : (op = 1 ∧ 0 ≤ n ∧ n ≤ 9) ∨ (op = 2 ∧ 0 ≤ n ∧ n ≤ 9) ∨ op = 3 ∨ op = 4 ∨ op = 5 ∨ op = 6 ∨ op = 7 ∨ op = 8 := by
  unfold simpleP at h
  repeat' split at h
  all_goals simp only [Bool.and_eq_true, Bool.or_eq_true, beq_iff_eq, bne_iff_ne, decide_eq_true_eq, Bool.false_eq_true] at h
  all_goals first | exact h.elim | omega

set_option maxHeartbeats 1000000 in
theorem txt_1 (x y n : Int) (A A' : Option Addr) (k c k' c' : Nat) (w : World) (h0 : 0 ≤ n) (h9 : n ≤ 9) :
    Calls Tryd.prog 22 #[.agg #[.int .i64 1, .int .i64 x, .int .i64 y, .int .i64 n, .slice A k c, .slice A' k' c']] w (StrRet 12 w) := by
  go_enter Tryd.func22, Tryd.ntmps22
  go_wp2_with fail
  refine (letter_any x _).mono ?_
  rintro e w1 ⟨s1, rfl, hs1, hb1⟩
  have hc := fun i => box_kept hb1 (by simp) i
  have hz := hb1.size
  simp at hz
  have d0 := hc 0
  have d1 := hc 1
  have d2 := hc 2
  have d3 := hc 3
  have d4 := hc 4
  have d5 := hc 5
  simp at d0 d1 d2 d3 d4 d5
  have HB1 := Lib.hid hb1
  clear hc hb1
  go_wp2_with fail
  refine (letter_any y _).mono ?_
  rintro e w2 ⟨s2, rfl, hs2, hb2⟩
  have hz2 := hb2.size
  have e0 := (hb2.cell (p := ⟨w.heap.size, 0, none⟩) (by show w.heap.size < _; omega)).trans d0
  have e1 := (hb2.cell (p := ⟨w.heap.size, 1, none⟩) (by show w.heap.size < _; omega)).trans d1
  have e2 := (hb2.cell (p := ⟨w.heap.size, 2, none⟩) (by show w.heap.size < _; omega)).trans d2
  have e3 := (hb2.cell (p := ⟨w.heap.size, 3, none⟩) (by show w.heap.size < _; omega)).trans d3
  have e4 := (hb2.cell (p := ⟨w.heap.size, 4, none⟩) (by show w.heap.size < _; omega)).trans d4
  have e5 := (hb2.cell (p := ⟨w.heap.size, 5, none⟩) (by show w.heap.size < _; omega)).trans d5
  have HB2 := Lib.hid ((bel_a w _).trans ((HB1.out.trans (hb2.mono (by simp; omega))).mono (by simp)))
  clear d0 d1 d2 d3 d4 d5 hb2
  have hadd0 := fun w => add_str w s1 ⟨#[61]⟩ (by simp only [size_lit, List.size_toArray, List.length_cons, List.length_nil]; omega)
  go_wp2_with fail
  refine (dec_any n _ h0 h9).mono ?_
  rintro e w3 ⟨s3, rfl, hs3, hb3⟩
  have hadd1 := fun w => add_str w (s1 ++ ⟨#[61]⟩) s3 (by simp only [ByteArray.size_append, size_lit, List.size_toArray, List.length_cons, List.length_nil]; omega)
  go_wp2_with fail
  go_ret
  exact ⟨_, rfl, by simp only [ByteArray.size_append, size_lit, List.size_toArray, List.length_cons, List.length_nil]; omega, HB2.out.trans (hb3.mono (by omega))⟩

set_option maxHeartbeats 1000000 in
theorem txt_2 (x y n : Int) (A A' : Option Addr) (k c k' c' : Nat) (w : World) (h0 : 0 ≤ n) (h9 : n ≤ 9) :
    Calls Tryd.prog 22 #[.agg #[.int .i64 2, .int .i64 x, .int .i64 y, .int .i64 n, .slice A k c, .slice A' k' c']] w (StrRet 12 w) := by
  go_enter Tryd.func22, Tryd.ntmps22
  go_wp2_with fail
  refine (letter_any x _).mono ?_
  rintro e w1 ⟨s1, rfl, hs1, hb1⟩
  have hc := fun i => box_kept hb1 (by simp) i
  have hz := hb1.size
  simp at hz
  have d0 := hc 0
  have d1 := hc 1
  have d2 := hc 2
  have d3 := hc 3
  have d4 := hc 4
  have d5 := hc 5
  simp at d0 d1 d2 d3 d4 d5
  have HB1 := Lib.hid hb1
  clear hc hb1
  go_wp2_with fail
  refine (letter_any y _).mono ?_
  rintro e w2 ⟨s2, rfl, hs2, hb2⟩
  have hz2 := hb2.size
  have e0 := (hb2.cell (p := ⟨w.heap.size, 0, none⟩) (by show w.heap.size < _; omega)).trans d0
  have e1 := (hb2.cell (p := ⟨w.heap.size, 1, none⟩) (by show w.heap.size < _; omega)).trans d1
  have e2 := (hb2.cell (p := ⟨w.heap.size, 2, none⟩) (by show w.heap.size < _; omega)).trans d2
  have e3 := (hb2.cell (p := ⟨w.heap.size, 3, none⟩) (by show w.heap.size < _; omega)).trans d3
  have e4 := (hb2.cell (p := ⟨w.heap.size, 4, none⟩) (by show w.heap.size < _; omega)).trans d4
  have e5 := (hb2.cell (p := ⟨w.heap.size, 5, none⟩) (by show w.heap.size < _; omega)).trans d5
  have HB2 := Lib.hid ((bel_a w _).trans ((HB1.out.trans (hb2.mono (by simp; omega))).mono (by simp)))
  clear d0 d1 d2 d3 d4 d5 hb2
  have hadd0 := fun w => add_str w s1 ⟨#[61, 98, 111, 120, 32]⟩ (by simp only [size_lit, List.size_toArray, List.length_cons, List.length_nil]; omega)
  go_wp2_with fail
  refine (dec_any n _ h0 h9).mono ?_
  rintro e w3 ⟨s3, rfl, hs3, hb3⟩
  have hadd1 := fun w => add_str w (s1 ++ ⟨#[61, 98, 111, 120, 32]⟩) s3 (by simp only [ByteArray.size_append, size_lit, List.size_toArray, List.length_cons, List.length_nil]; omega)
  go_wp2_with fail
  go_ret
  exact ⟨_, rfl, by simp only [ByteArray.size_append, size_lit, List.size_toArray, List.length_cons, List.length_nil]; omega, HB2.out.trans (hb3.mono (by omega))⟩

set_option maxHeartbeats 1000000 in
theorem txt_3 (x y n : Int) (A A' : Option Addr) (k c k' c' : Nat) (w : World) :
    Calls Tryd.prog 22 #[.agg #[.int .i64 3, .int .i64 x, .int .i64 y, .int .i64 n, .slice A k c, .slice A' k' c']] w (StrRet 12 w) := by
  go_enter Tryd.func22, Tryd.ntmps22
  go_wp2_with fail
  refine (letter_any x _).mono ?_
  rintro e w1 ⟨s1, rfl, hs1, hb1⟩
  have hc := fun i => box_kept hb1 (by simp) i
  have hz := hb1.size
  simp at hz
  have d0 := hc 0
  have d1 := hc 1
  have d2 := hc 2
  have d3 := hc 3
  have d4 := hc 4
  have d5 := hc 5
  simp at d0 d1 d2 d3 d4 d5
  have HB1 := Lib.hid hb1
  clear hc hb1
  go_wp2_with fail
  refine (letter_any y _).mono ?_
  rintro e w2 ⟨s2, rfl, hs2, hb2⟩
  have hz2 := hb2.size
  have e0 := (hb2.cell (p := ⟨w.heap.size, 0, none⟩) (by show w.heap.size < _; omega)).trans d0
  have e1 := (hb2.cell (p := ⟨w.heap.size, 1, none⟩) (by show w.heap.size < _; omega)).trans d1
  have e2 := (hb2.cell (p := ⟨w.heap.size, 2, none⟩) (by show w.heap.size < _; omega)).trans d2
  have e3 := (hb2.cell (p := ⟨w.heap.size, 3, none⟩) (by show w.heap.size < _; omega)).trans d3
  have e4 := (hb2.cell (p := ⟨w.heap.size, 4, none⟩) (by show w.heap.size < _; omega)).trans d4
  have e5 := (hb2.cell (p := ⟨w.heap.size, 5, none⟩) (by show w.heap.size < _; omega)).trans d5
  have HB2 := Lib.hid ((bel_a w _).trans ((HB1.out.trans (hb2.mono (by simp; omega))).mono (by simp)))
  clear d0 d1 d2 d3 d4 d5 hb2
  have hadd0 := fun w => add_str w s1 ⟨#[61]⟩ (by simp only [size_lit, List.size_toArray, List.length_cons, List.length_nil]; omega)
  have hadd1 := fun w => add_str w (s1 ++ ⟨#[61]⟩) s2 (by simp only [ByteArray.size_append, size_lit, List.size_toArray, List.length_cons, List.length_nil]; omega)
  go_wp2_with fail
  go_ret
  exact ⟨_, rfl, by simp only [ByteArray.size_append, size_lit, List.size_toArray, List.length_cons, List.length_nil]; omega, HB2.out⟩

set_option maxHeartbeats 1000000 in
theorem txt_4 (x y n : Int) (A A' : Option Addr) (k c k' c' : Nat) (w : World) :
    Calls Tryd.prog 22 #[.agg #[.int .i64 4, .int .i64 x, .int .i64 y, .int .i64 n, .slice A k c, .slice A' k' c']] w (StrRet 12 w) := by
  go_enter Tryd.func22, Tryd.ntmps22
  go_wp2_with fail
  refine (letter_any x _).mono ?_
  rintro e w1 ⟨s1, rfl, hs1, hb1⟩
  have hc := fun i => box_kept hb1 (by simp) i
  have hz := hb1.size
  simp at hz
  have d0 := hc 0
  have d1 := hc 1
  have d2 := hc 2
  have d3 := hc 3
  have d4 := hc 4
  have d5 := hc 5
  simp at d0 d1 d2 d3 d4 d5
  have HB1 := Lib.hid hb1
  clear hc hb1
  go_wp2_with fail
  refine (letter_any y _).mono ?_
  rintro e w2 ⟨s2, rfl, hs2, hb2⟩
  have hz2 := hb2.size
  have e0 := (hb2.cell (p := ⟨w.heap.size, 0, none⟩) (by show w.heap.size < _; omega)).trans d0
  have e1 := (hb2.cell (p := ⟨w.heap.size, 1, none⟩) (by show w.heap.size < _; omega)).trans d1
  have e2 := (hb2.cell (p := ⟨w.heap.size, 2, none⟩) (by show w.heap.size < _; omega)).trans d2
  have e3 := (hb2.cell (p := ⟨w.heap.size, 3, none⟩) (by show w.heap.size < _; omega)).trans d3
  have e4 := (hb2.cell (p := ⟨w.heap.size, 4, none⟩) (by show w.heap.size < _; omega)).trans d4
  have e5 := (hb2.cell (p := ⟨w.heap.size, 5, none⟩) (by show w.heap.size < _; omega)).trans d5
  have HB2 := Lib.hid ((bel_a w _).trans ((HB1.out.trans (hb2.mono (by simp; omega))).mono (by simp)))
  clear d0 d1 d2 d3 d4 d5 hb2
  have hadd0 := fun w => add_str w s1 ⟨#[61, 38]⟩ (by simp only [size_lit, List.size_toArray, List.length_cons, List.length_nil]; omega)
  have hadd1 := fun w => add_str w (s1 ++ ⟨#[61, 38]⟩) s2 (by simp only [ByteArray.size_append, size_lit, List.size_toArray, List.length_cons, List.length_nil]; omega)
  go_wp2_with fail
  go_ret
  exact ⟨_, rfl, by simp only [ByteArray.size_append, size_lit, List.size_toArray, List.length_cons, List.length_nil]; omega, HB2.out⟩

set_option maxHeartbeats 1000000 in
theorem txt_5 (x y n : Int) (A A' : Option Addr) (k c k' c' : Nat) (w : World) :
    Calls Tryd.prog 22 #[.agg #[.int .i64 5, .int .i64 x, .int .i64 y, .int .i64 n, .slice A k c, .slice A' k' c']] w (StrRet 12 w) := by
  go_enter Tryd.func22, Tryd.ntmps22
  go_wp2_with fail
  refine (letter_any x _).mono ?_
  rintro e w1 ⟨s1, rfl, hs1, hb1⟩
  have hc := fun i => box_kept hb1 (by simp) i
  have hz := hb1.size
  simp at hz
  have d0 := hc 0
  have d1 := hc 1
  have d2 := hc 2
  have d3 := hc 3
  have d4 := hc 4
  have d5 := hc 5
  simp at d0 d1 d2 d3 d4 d5
  have HB1 := Lib.hid hb1
  clear hc hb1
  go_wp2_with fail
  refine (letter_any y _).mono ?_
  rintro e w2 ⟨s2, rfl, hs2, hb2⟩
  have hz2 := hb2.size
  have e0 := (hb2.cell (p := ⟨w.heap.size, 0, none⟩) (by show w.heap.size < _; omega)).trans d0
  have e1 := (hb2.cell (p := ⟨w.heap.size, 1, none⟩) (by show w.heap.size < _; omega)).trans d1
  have e2 := (hb2.cell (p := ⟨w.heap.size, 2, none⟩) (by show w.heap.size < _; omega)).trans d2
  have e3 := (hb2.cell (p := ⟨w.heap.size, 3, none⟩) (by show w.heap.size < _; omega)).trans d3
  have e4 := (hb2.cell (p := ⟨w.heap.size, 4, none⟩) (by show w.heap.size < _; omega)).trans d4
  have e5 := (hb2.cell (p := ⟨w.heap.size, 5, none⟩) (by show w.heap.size < _; omega)).trans d5
  have HB2 := Lib.hid ((bel_a w _).trans ((HB1.out.trans (hb2.mono (by simp; omega))).mono (by simp)))
  clear d0 d1 d2 d3 d4 d5 hb2
  have hadd0 := fun w => add_str w s1 ⟨#[61, 38, 109, 117, 116, 32]⟩ (by simp only [size_lit, List.size_toArray, List.length_cons, List.length_nil]; omega)
  have hadd1 := fun w => add_str w (s1 ++ ⟨#[61, 38, 109, 117, 116, 32]⟩) s2 (by simp only [ByteArray.size_append, size_lit, List.size_toArray, List.length_cons, List.length_nil]; omega)
  go_wp2_with fail
  go_ret
  exact ⟨_, rfl, by simp only [ByteArray.size_append, size_lit, List.size_toArray, List.length_cons, List.length_nil]; omega, HB2.out⟩

set_option maxHeartbeats 1000000 in
theorem txt_6 (x y n : Int) (A A' : Option Addr) (k c k' c' : Nat) (w : World) :
    Calls Tryd.prog 22 #[.agg #[.int .i64 6, .int .i64 x, .int .i64 y, .int .i64 n, .slice A k c, .slice A' k' c']] w (StrRet 12 w) := by
  go_enter Tryd.func22, Tryd.ntmps22
  go_wp2_with fail
  refine (letter_any x _).mono ?_
  rintro e w1 ⟨s1, rfl, hs1, hb1⟩
  have hc := fun i => box_kept hb1 (by simp) i
  have hz := hb1.size
  simp at hz
  have d0 := hc 0
  have d1 := hc 1
  have d2 := hc 2
  have d3 := hc 3
  have d4 := hc 4
  have d5 := hc 5
  simp at d0 d1 d2 d3 d4 d5
  have HB1 := Lib.hid hb1
  clear hc hb1
  go_wp2_with fail
  refine (letter_any y _).mono ?_
  rintro e w2 ⟨s2, rfl, hs2, hb2⟩
  have hz2 := hb2.size
  have e0 := (hb2.cell (p := ⟨w.heap.size, 0, none⟩) (by show w.heap.size < _; omega)).trans d0
  have e1 := (hb2.cell (p := ⟨w.heap.size, 1, none⟩) (by show w.heap.size < _; omega)).trans d1
  have e2 := (hb2.cell (p := ⟨w.heap.size, 2, none⟩) (by show w.heap.size < _; omega)).trans d2
  have e3 := (hb2.cell (p := ⟨w.heap.size, 3, none⟩) (by show w.heap.size < _; omega)).trans d3
  have e4 := (hb2.cell (p := ⟨w.heap.size, 4, none⟩) (by show w.heap.size < _; omega)).trans d4
  have e5 := (hb2.cell (p := ⟨w.heap.size, 5, none⟩) (by show w.heap.size < _; omega)).trans d5
  have HB2 := Lib.hid ((bel_a w _).trans ((HB1.out.trans (hb2.mono (by simp; omega))).mono (by simp)))
  clear d0 d1 d2 d3 d4 d5 hb2
  have hadd0 := fun w => add_str w s1 ⟨#[61, 42]⟩ (by simp only [size_lit, List.size_toArray, List.length_cons, List.length_nil]; omega)
  have hadd1 := fun w => add_str w (s1 ++ ⟨#[61, 42]⟩) s2 (by simp only [ByteArray.size_append, size_lit, List.size_toArray, List.length_cons, List.length_nil]; omega)
  go_wp2_with fail
  go_ret
  exact ⟨_, rfl, by simp only [ByteArray.size_append, size_lit, List.size_toArray, List.length_cons, List.length_nil]; omega, HB2.out⟩

set_option maxHeartbeats 1000000 in
theorem txt_7 (x y n : Int) (A A' : Option Addr) (k c k' c' : Nat) (w : World) :
    Calls Tryd.prog 22 #[.agg #[.int .i64 7, .int .i64 x, .int .i64 y, .int .i64 n, .slice A k c, .slice A' k' c']] w (StrRet 12 w) := by
  go_enter Tryd.func22, Tryd.ntmps22
  go_wp2_with fail
  refine (letter_any x _).mono ?_
  rintro e w1 ⟨s1, rfl, hs1, hb1⟩
  have hc := fun i => box_kept hb1 (by simp) i
  have hz := hb1.size
  simp at hz
  have d0 := hc 0
  have d1 := hc 1
  have d2 := hc 2
  have d3 := hc 3
  have d4 := hc 4
  have d5 := hc 5
  simp at d0 d1 d2 d3 d4 d5
  have HB1 := Lib.hid hb1
  clear hc hb1
  go_wp2_with fail
  refine (letter_any y _).mono ?_
  rintro e w2 ⟨s2, rfl, hs2, hb2⟩
  have hz2 := hb2.size
  have e0 := (hb2.cell (p := ⟨w.heap.size, 0, none⟩) (by show w.heap.size < _; omega)).trans d0
  have e1 := (hb2.cell (p := ⟨w.heap.size, 1, none⟩) (by show w.heap.size < _; omega)).trans d1
  have e2 := (hb2.cell (p := ⟨w.heap.size, 2, none⟩) (by show w.heap.size < _; omega)).trans d2
  have e3 := (hb2.cell (p := ⟨w.heap.size, 3, none⟩) (by show w.heap.size < _; omega)).trans d3
  have e4 := (hb2.cell (p := ⟨w.heap.size, 4, none⟩) (by show w.heap.size < _; omega)).trans d4
  have e5 := (hb2.cell (p := ⟨w.heap.size, 5, none⟩) (by show w.heap.size < _; omega)).trans d5
  have HB2 := Lib.hid ((bel_a w _).trans ((HB1.out.trans (hb2.mono (by simp; omega))).mono (by simp)))
  clear d0 d1 d2 d3 d4 d5 hb2
  have hadd0 := fun w => add_str w ⟨#[42]⟩ s1 (by simp only [size_lit, List.size_toArray, List.length_cons, List.length_nil]; omega)
  have hadd1 := fun w => add_str w (⟨#[42]⟩ ++ s1) ⟨#[61]⟩ (by simp only [ByteArray.size_append, size_lit, List.size_toArray, List.length_cons, List.length_nil]; omega)
  have hadd2 := fun w => add_str w ((⟨#[42]⟩ ++ s1) ++ ⟨#[61]⟩) s2 (by simp only [ByteArray.size_append, size_lit, List.size_toArray, List.length_cons, List.length_nil]; omega)
  go_wp2_with fail
  go_ret
  exact ⟨_, rfl, by simp only [ByteArray.size_append, size_lit, List.size_toArray, List.length_cons, List.length_nil]; omega, HB2.out⟩

set_option maxHeartbeats 1000000 in
theorem txt_8 (x y n : Int) (A A' : Option Addr) (k c k' c' : Nat) (w : World) :
    Calls Tryd.prog 22 #[.agg #[.int .i64 8, .int .i64 x, .int .i64 y, .int .i64 n, .slice A k c, .slice A' k' c']] w (StrRet 12 w) := by
  go_enter Tryd.func22, Tryd.ntmps22
  go_wp2_with fail
  refine (letter_any x _).mono ?_
  rintro e w1 ⟨s1, rfl, hs1, hb1⟩
  have hc := fun i => box_kept hb1 (by simp) i
  have hz := hb1.size
  simp at hz
  have d0 := hc 0
  have d1 := hc 1
  have d2 := hc 2
  have d3 := hc 3
  have d4 := hc 4
  have d5 := hc 5
  simp at d0 d1 d2 d3 d4 d5
  have HB1 := Lib.hid hb1
  clear hc hb1
  go_wp2_with fail
  refine (letter_any y _).mono ?_
  rintro e w2 ⟨s2, rfl, hs2, hb2⟩
  have hz2 := hb2.size
  have e0 := (hb2.cell (p := ⟨w.heap.size, 0, none⟩) (by show w.heap.size < _; omega)).trans d0
  have e1 := (hb2.cell (p := ⟨w.heap.size, 1, none⟩) (by show w.heap.size < _; omega)).trans d1
  have e2 := (hb2.cell (p := ⟨w.heap.size, 2, none⟩) (by show w.heap.size < _; omega)).trans d2
  have e3 := (hb2.cell (p := ⟨w.heap.size, 3, none⟩) (by show w.heap.size < _; omega)).trans d3
  have e4 := (hb2.cell (p := ⟨w.heap.size, 4, none⟩) (by show w.heap.size < _; omega)).trans d4
  have e5 := (hb2.cell (p := ⟨w.heap.size, 5, none⟩) (by show w.heap.size < _; omega)).trans d5
  have HB2 := Lib.hid ((bel_a w _).trans ((HB1.out.trans (hb2.mono (by simp; omega))).mono (by simp)))
  clear d0 d1 d2 d3 d4 d5 hb2
  have hadd0 := fun w => add_str w ⟨#[100, 114, 111, 112, 32]⟩ s1 (by simp only [size_lit, List.size_toArray, List.length_cons, List.length_nil]; omega)
  go_wp2_with fail
  go_ret
  exact ⟨_, rfl, by simp only [ByteArray.size_append, size_lit, List.size_toArray, List.length_cons, List.length_nil]; omega, HB2.out⟩

def Hd2 (W : World) (b1 o1 : Nat) (v1 : Value) (b2 o2 : Nat) (v2 : Value) (w' : World) : Prop := w'.cell? ⟨b1, o1, none⟩ = some v1 ∧ w'.cell? ⟨b2, o2, none⟩ = some v2 ∧ Below W.heap.size W w' ∧ b1 < W.heap.size ∧ b2 < W.heap.size
theorem Hd2.step {W : World} {b1 o1 : Nat} {v1 : Value} {b2 o2 : Nat} {v2 : Value} {w' w'' : World} (h : Hd2 W b1 o1 v1 b2 o2 v2 w') (hb : Below w'.heap.size w' w'') : Hd2 W b1 o1 v1 b2 o2 v2 w'' := by
  obtain ⟨h1, h2, hB, k1, k2⟩ := h
  have hs := hB.size
  exact ⟨(hb.cell (p := ⟨b1, o1, none⟩) (by show b1 < _; omega)).trans h1, (hb.cell (p := ⟨b2, o2, none⟩) (by show b2 < _; omega)).trans h2, hB.trans (hb.mono hs), k1, k2⟩
theorem Hd2.bel {W : World} {b1 o1 : Nat} {v1 : Value} {b2 o2 : Nat} {v2 : Value} {w' : World} (h : Hd2 W b1 o1 v1 b2 o2 v2 w') : Below W.heap.size W w' := h.2.2.1

set_option maxHeartbeats 1000000 in
theorem txt_loop (x y n : Int) (ev : Value) (m : Nat) (hm : m ≤ 100) (hL : LstTxt m) (ts : List Int) (B d : Nat) (th el : List St) (tv : Value) (w : World) (hsz : szL th ≤ m) (hok : slOk ts d th = true) (hB : B ≤ w.heap.size) (hth : StS w B tv th) (hel : StS w B ev el) :
    Calls Tryd.prog 22 #[.agg #[.int .i64 10, .int .i64 x, .int .i64 y, .int .i64 n, tv, ev]] w (StrRet (13 * szL th + 6) w) := by
  have hth0 := hth
  obtain ⟨A, c, rfl, hc⟩ := hth0.slice
  obtain ⟨A', c', rfl, -⟩ := hel.slice
  have HOK := Lib.hid hok
  clear hok hth0
  go_enter Tryd.func22, Tryd.ntmps22
  go_wp2_with fail
  refine (hL ts B th d _ _ hsz HOK.out (by simp; omega) (hth.low (bel_a _ _) hB)).mono ?_
  rintro e w1 ⟨s1, rfl, hs1, hb1⟩
  have ha1 := fun w => add_str w ⟨#[108, 111, 111, 112, 123]⟩ s1 (by simp only [size_lit, List.size_toArray, List.length_cons, List.length_nil]; omega)
  have ha2 := fun w => add_str w (⟨#[108, 111, 111, 112, 123]⟩ ++ s1) ⟨#[125]⟩ (by simp only [ByteArray.size_append, size_lit, List.size_toArray, List.length_cons, List.length_nil]; omega)
  go_wp2_with fail
  go_ret
  exact ⟨_, rfl, by simp only [ByteArray.size_append, size_lit, List.size_toArray, List.length_cons, List.length_nil]; omega, (bel_a _ _).trans (hb1.mono (by simp))⟩

set_option maxHeartbeats 1000000 in
set_option maxRecDepth 100000 in
theorem txt_if (x y n : Int) (ev : Value) (m : Nat) (hm : m ≤ 100) (hL : LstTxt m) (ts : List Int) (B d : Nat) (th el : List St) (tv : Value) (w : World) (hsz : szL th ≤ m) (hsz' : szL el ≤ m) (hok : slOk ts d th = true) (hok' : slOk ts d el = true) (hB : B ≤ w.heap.size) (hth : StS w B tv th) (hel : StS w B ev el) :
    Calls Tryd.prog 22 #[.agg #[.int .i64 9, .int .i64 x, .int .i64 y, .int .i64 n, tv, ev]] w (StrRet (13 * szL th + 13 * szL el + 6) w) := by
  have hth0 := hth
  have hel0 := hel
  obtain ⟨A, c, rfl, hc⟩ := hth0.slice
  obtain ⟨A', c', rfl, -⟩ := hel0.slice
  have HOK := Lib.hid hok
  have HOK' := Lib.hid hok'
  clear hok hth0 hok' hel0
  have hrow : (w.alloc (.cells #[.int .i64 9, .int .i64 x, .int .i64 y, .int .i64 n, .slice A th.length c, .slice A' el.length c'] 47)).heap[w.heap.size]? = some (.cells #[.int .i64 9, .int .i64 x, .int .i64 y, .int .i64 n, .slice A th.length c, .slice A' el.length c'] 47) := heap_alloc_new w _
  have q4 : (w.alloc (.cells #[.int .i64 9, .int .i64 x, .int .i64 y, .int .i64 n, .slice A th.length c, .slice A' el.length c'] 47)).cell? ⟨w.heap.size, 4, none⟩ = some (.slice A th.length c) := by rw [cell_of_row _ _ _ _ _ _ hrow]; rfl
  have q5 : (w.alloc (.cells #[.int .i64 9, .int .i64 x, .int .i64 y, .int .i64 n, .slice A th.length c, .slice A' el.length c'] 47)).cell? ⟨w.heap.size, 5, none⟩ = some (.slice A' el.length c') := by rw [cell_of_row _ _ _ _ _ _ hrow]; rfl
  have hth1 := hth.low (bel_a w (.cells #[.int .i64 9, .int .i64 x, .int .i64 y, .int .i64 n, .slice A th.length c, .slice A' el.length c'] 47)) hB
  have hel1 := hel.low (bel_a w (.cells #[.int .i64 9, .int .i64 x, .int .i64 y, .int .i64 n, .slice A th.length c, .slice A' el.length c'] 47)) hB
  have hW := bel_a w (.cells #[.int .i64 9, .int .i64 x, .int .i64 y, .int .i64 n, .slice A th.length c, .slice A' el.length c'] 47)
  have hWs : w.heap.size < (w.alloc (.cells #[.int .i64 9, .int .i64 x, .int .i64 y, .int .i64 n, .slice A th.length c, .slice A' el.length c'] 47)).heap.size := by simp
  go_enter Tryd.func22, Tryd.ntmps22
  go_wp2_with fail
  generalize w.alloc (.cells #[.int .i64 9, .int .i64 x, .int .i64 y, .int .i64 n, .slice A th.length c, .slice A' el.length c'] 47) = W at *
  clear hth hel hrow
  have CT : ∀ w', (w'.cell? ⟨w.heap.size, 4, none⟩ = some (.slice A th.length c) ∧ w'.cell? ⟨w.heap.size, 5, none⟩ = some (.slice A' el.length c') ∧ Below W.heap.size W w' ∧ w.heap.size < W.heap.size ∧ w.heap.size < W.heap.size) → Calls Tryd.prog 36 #[.slice A th.length c] w' (StrRet (13 * szL th) w') := fun w' h => hL ts B th d _ _ hsz HOK.out (by have := h.2.2.1.size; omega) (hth1.low h.2.2.1 (by omega))
  have CE : ∀ w', (w'.cell? ⟨w.heap.size, 4, none⟩ = some (.slice A th.length c) ∧ w'.cell? ⟨w.heap.size, 5, none⟩ = some (.slice A' el.length c') ∧ Below W.heap.size W w' ∧ w.heap.size < W.heap.size ∧ w.heap.size < W.heap.size) → Calls Tryd.prog 36 #[.slice A' el.length c'] w' (StrRet (13 * szL el) w') := fun w' h => hL ts B el d _ _ hsz' HOK'.out (by have := h.2.2.1.size; omega) (hel1.low h.2.2.1 (by omega))
  have BEL' : ∀ w', (w'.cell? ⟨w.heap.size, 4, none⟩ = some (.slice A th.length c) ∧ w'.cell? ⟨w.heap.size, 5, none⟩ = some (.slice A' el.length c') ∧ Below W.heap.size W w' ∧ w.heap.size < W.heap.size ∧ w.heap.size < W.heap.size) → Below W.heap.size W w' := fun w' h => h.2.2.1
  have HCT := Lib.hid CT
  have HCE := Lib.hid CE
  have BEL := Lib.hid BEL'
  have HW := Lib.hid hW
  clear CT CE BEL' hth1 hel1 hW
  go_region_held3 (fun w' => (w'.cell? ⟨w.heap.size, 4, none⟩ = some (.slice A th.length c) ∧ w'.cell? ⟨w.heap.size, 5, none⟩ = some (.slice A' el.length c') ∧ Below W.heap.size W w' ∧ w.heap.size < W.heap.size ∧ w.heap.size < W.heap.size))
    (first | exact ⟨q4, q5, (Below.refl _ _).drew, hWs, hWs⟩ | exact Hd2.step (by assumption) (by assumption) | go_keep)
    (first
      | (go_at_call 36; (with_reducible refine (HCT.out _ (by assumption)).mono ?_); (rintro e w2 ⟨s1, rfl, hs1, hb1⟩); (have ha1 := fun w => add_str w ⟨#[105, 102, 123]⟩ s1 (by simp only [size_lit, List.size_toArray, List.length_cons, List.length_nil]; omega)); (have ha2 := fun w => add_str w (⟨#[105, 102, 123]⟩ ++ s1) ⟨#[125, 123]⟩ (by simp only [ByteArray.size_append, size_lit, List.size_toArray, List.length_cons, List.length_nil]; omega)); (try (have ha3 := fun w => add_str w (⟨#[105, 102, 123]⟩ ++ s1 ++ ⟨#[125, 123]⟩) s2 (by simp only [ByteArray.size_append, size_lit, List.size_toArray, List.length_cons, List.length_nil]; omega))); (try (have ha4 := fun w => add_str w (⟨#[105, 102, 123]⟩ ++ s1 ++ ⟨#[125, 123]⟩ ++ s2) ⟨#[125]⟩ (by simp only [ByteArray.size_append, size_lit, List.size_toArray, List.length_cons, List.length_nil]; omega))))
      | (go_at_call 36; (with_reducible refine (HCE.out _ (by assumption)).mono ?_); (rintro e w3 ⟨s2, rfl, hs2, hb2⟩); (try (have ha3 := fun w => add_str w (⟨#[105, 102, 123]⟩ ++ s1 ++ ⟨#[125, 123]⟩) s2 (by simp only [ByteArray.size_append, size_lit, List.size_toArray, List.length_cons, List.length_nil]; omega))); (try (have ha4 := fun w => add_str w (⟨#[105, 102, 123]⟩ ++ s1 ++ ⟨#[125, 123]⟩ ++ s2) ⟨#[125]⟩ (by simp only [ByteArray.size_append, size_lit, List.size_toArray, List.length_cons, List.length_nil]; omega)))))
  all_goals
    go_wp2_with fail
    go_ret
    exact ⟨_, rfl, by simp only [ByteArray.size_append, size_lit, List.size_toArray, List.length_cons, List.length_nil]; omega, HW.out.trans ((BEL.out _ (by assumption)).mono (by omega))⟩

theorem stOk_branch {ts : List Int} {d : Nat} {s : St} (h : stOk ts d s = true) : ((s.op = 9 ∨ s.op = 10) ∧ slOk ts (d - 1) s.th = true ∧ slOk ts (d - 1) s.el = true) ∨ simpleP ts s.op s.x s.y s.n = true := by
  rw [stOk_eq] at h
  split at h
  · rename_i hb
    simp only [Bool.and_eq_true] at h
    left
    refine ⟨?_, h.1.2, h.2⟩
    simpa [isBranchP] using hb
  · simp only [Bool.and_eq_true] at h
    exact .inr h.2
theorem StrRet.le {n m : Nat} {w : World} {e : Ending} {w' : World} (h : StrRet n w e w') (hnm : n ≤ m) : StrRet m w e w' := by
  obtain ⟨s, h1, h2, h3⟩ := h
  exact ⟨s, h1, by omega, h3⟩
theorem txtOk_of (m : Nat) (hm : m ≤ 100) (hL : LstTxt m) : TxtOk (m + 1) := by
  intro ts B s d tv ev w hsz hok hB hth hel
  have hs := s.sz_eq
  have hbr := stOk_branch hok
  obtain ⟨A, c, e1, hc⟩ := hth.slice
  obtain ⟨A', c', e2, hc'⟩ := hel.slice
  rcases hbr with ⟨ho, h1, h2⟩ | hsp
  · rcases ho with ho | ho
    · rw [ho]
      exact (txt_if _ _ _ _ m hm hL ts B (d - 1) s.th s.el _ w (by omega) (by omega) h1 h2 hB hth hel).mono fun _ _ h => h.le (by omega)
    · rw [ho]
      exact (txt_loop _ _ _ _ m hm hL ts B (d - 1) s.th s.el _ w (by omega) h1 hB hth hel).mono fun _ _ h => h.le (by omega)
  · rw [e1, e2]
    rcases simple_op hsp with ⟨ho, h0, h9⟩ | ⟨ho, h0, h9⟩ | ho | ho | ho | ho | ho | ho <;> rw [ho]
    · exact (txt_1 _ _ _ _ _ _ _ _ _ w h0 h9).mono fun _ _ h => h.le (by omega)
    · exact (txt_2 _ _ _ _ _ _ _ _ _ w h0 h9).mono fun _ _ h => h.le (by omega)
    · exact (txt_3 _ _ _ _ _ _ _ _ _ w).mono fun _ _ h => h.le (by omega)
    · exact (txt_4 _ _ _ _ _ _ _ _ _ w).mono fun _ _ h => h.le (by omega)
    · exact (txt_5 _ _ _ _ _ _ _ _ _ w).mono fun _ _ h => h.le (by omega)
    · exact (txt_6 _ _ _ _ _ _ _ _ _ w).mono fun _ _ h => h.le (by omega)
    · exact (txt_7 _ _ _ _ _ _ _ _ _ w).mono fun _ _ h => h.le (by omega)
    · exact (txt_8 _ _ _ _ _ _ _ _ _ w).mono fun _ _ h => h.le (by omega)
theorem txtOk (m : Nat) (hm : m ≤ 100) : TxtOk m := by
  induction m with
  | zero =>
    intro ts B s d tv ev w hsz
    have := s.sz_eq
    omega
  | succ m ih => exact txtOk_of m (by omega) (lstTxt_of m (by omega) (ih (by omega)))
theorem l1List_any (ts : List Int) (B : Nat) (l : List St) (d : Nat) (vb : Value) (w : World) (hm : szL l ≤ 30) (hok : slOk ts d l = true) (hB : B ≤ w.heap.size) (hl : StS w B vb l) :
    Calls Tryd.prog 36 #[vb] w (StrRet 390 w) :=
  (lstTxt_of 30 (by omega) (txtOk 30 (by omega)) ts B l d vb w hm hok hB hl).mono fun _ _ h => h.le (by omega)

theorem ty_range {ts : List Int} (h : tsOkP ts = true) {k : Nat} (hk : k < ts.length) : 1 ≤ ts.getD k 0 ∧ ts.getD k 0 ≤ 4 := by
  simp only [tsOkP, Bool.and_eq_true, List.all_eq_true, decide_eq_true_eq] at h
  exact h.2 (ts.getD k 0) (by rw [getD_lt hk]; exact List.getElem_mem hk)

set_option maxHeartbeats 1000000 in
theorem l1Program_any (vt vb : Value) (ts : List Int) (l : List St) (B : Nat) (w : World) (ht : IntS w B vt ts) (hl : StS w B vb l) (hB : B ≤ w.heap.size) (hok : validP ts l = true) :
    Calls Tryd.prog 39 #[.agg #[vt, vb]] w (StrRet 400 w) := by
  have hv : tsOkP ts = true ∧ slOk ts 4 l = true ∧ szL l ≤ 30 := by simpa [validP, Bool.and_eq_true] using hok
  have h6 : ts.length ≤ 6 := by
    have := hv.1
    simp only [tsOkP, Bool.and_eq_true, decide_eq_true_eq] at this; exact this.1
  have HV := Lib.hid hv
  clear hv hok
  obtain ⟨A, c, rfl, hc, -, hr⟩ := ht
  obtain ⟨A', c', e2, hc'⟩ := hl.slice
  have hr1 := hr.low (bel_a w (.cells #[.slice A ts.length c, vb] 29)) hB
  have hl1 := hl.low (bel_a w (.cells #[.slice A ts.length c, vb] 29)) hB
  clear hr hl
  subst e2
  go_enter Tryd.func39, Tryd.ntmps39
  go_wp2_with fail
  have b0 : (w.alloc (.cells #[.slice A ts.length c, .slice A' l.length c'] 29)).cell? ⟨w.heap.size, 0, none⟩ = some (.slice A ts.length c) := by rw [cell_of_row _ _ _ _ _ _ (heap_alloc_new w _)]; rfl
  have b1 : (w.alloc (.cells #[.slice A ts.length c, .slice A' l.length c'] 29)).cell? ⟨w.heap.size, 1, none⟩ = some (.slice A' l.length c') := by rw [cell_of_row _ _ _ _ _ _ (heap_alloc_new w _)]; rfl
  have hbw := bel_a w (.cells #[.slice A ts.length c, .slice A' l.length c'] 29)
  have hws : w.heap.size < (w.alloc (.cells #[.slice A ts.length c, .slice A' l.length c'] 29)).heap.size := by simp
  generalize w.alloc (.cells #[.slice A ts.length c, .slice A' l.length c'] 29) = W at *
  go_loopw [3, 4] (fun t i wr => ∃ (k : Nat) (s : ByteArray), k ≤ ts.length ∧ i = .int .i64 k ∧ t = .string s ∧ s.size ≤ k ∧ Below W.heap.size W wr) (fun _ i _ => ts.length - (intOf i).toNat)
  case atStart => exact ⟨0, ⟨#[]⟩, Nat.zero_le _, rfl, rfl, Nat.le_refl 0, Below.refl _ _⟩
  case round =>
    obtain ⟨k, s, hk, rfl, rfl, hs, hbr⟩ := hrel
    have hsr := hbr.size
    have d0 := (hbr.cell (p := ⟨w.heap.size, 0, none⟩) hws).trans b0
    have d1 := (hbr.cell (p := ⟨w.heap.size, 1, none⟩) hws).trans b1
    by_cases hlt : k < ts.length
    · obtain ⟨b, off, rfl, hb, hcell⟩ := (hr1.low hbr (by omega)).int_at hlt
      have hck := hcell k hlt
      have hz1 : w.heap.size < wr.heap.size := by omega
      have hz2 : b < wr.heap.size := by omega
      obtain ⟨t1, t4⟩ := ty_range HV.out.1 hlt
      clear hcell
      have ht : ts.getD k 0 = 1 ∨ ts.getD k 0 = 2 ∨ ts.getD k 0 = 3 ∨ ts.getD k 0 = 4 := by omega
      have ha := fun (x : UInt8) w => add_str w s ⟨#[x]⟩ (by simp only [size_lit, List.size_toArray, List.length_cons, List.length_nil]; omega)
      clear t1 t4
      rcases ht with ht | ht | ht | ht <;> rw [ht] at hck
      all_goals
        clear ht
        go_wp2_with fail
        refine ⟨⟨k + 1, _, by omega, by go_num, rfl, ?_, hbr.trans ((bel_a _ _).mono hsr)⟩, by simp [intOf]; omega⟩
        simp only [ByteArray.size_append, size_lit, List.size_toArray, List.length_cons, List.length_nil]; omega
    · have ha := fun w => add_str w s ⟨#[58]⟩ (by simp only [size_lit, List.size_toArray, List.length_cons, List.length_nil]; omega)
      go_wp2_with fail
      refine (l1List_any ts B l 4 _ _ HV.out.2.2 HV.out.2.1 (by omega) (hl1.low hbr (by omega))).mono ?_
      rintro e w1 ⟨s1, rfl, hs1, hb1⟩
      have ha2 := fun w => add_str w (s ++ ⟨#[58]⟩) s1 (by simp only [ByteArray.size_append, size_lit, List.size_toArray, List.length_cons, List.length_nil]; omega)
      go_wp2_with fail
      go_ret
      refine ⟨_, rfl, ?_, hbw.trans ((hbr.trans (hb1.mono hsr)).mono (by omega))⟩
      simp only [ByteArray.size_append, size_lit, List.size_toArray, List.length_cons, List.length_nil]; omega

end Go.Proofs.YtfioaohadanjmaaDoor
