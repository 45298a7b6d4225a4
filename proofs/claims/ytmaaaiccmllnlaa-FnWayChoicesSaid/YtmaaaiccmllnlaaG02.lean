import Derived.Test.YtmaaaiccmllnlaaG01
set_option linter.unusedVariables false

namespace Go.Proofs.Ytmaaaiccmllnlaa
open Go.RowKit

set_option maxHeartbeats 400000 in
theorem l3Use_any (vt : Value) (ts : List Int) (B : Nat) (op x y n v : Int) (nv : Value) (w : World) (ht : IntS w B vt ts) (hB : B ≤ w.heap.size) (h0 : 0 ≤ v) (h1 : v < ts.length) :
    Calls Try.prog 130 #[vt, .agg #[.int .i64 op, .int .i64 x, .int .i64 y, .int .i64 n, nv], .int .i64 v] w fun e w' => e = .returned (.int .i64 (useP ts op x y v)) ∧ Below w.heap.size w w' := by
  obtain ⟨b, off, c, rfl, hb, hc, hm, hcell⟩ := ht.get h0 h1
  have hcell' : ∀ o, (w.alloc o).cell? ⟨b, off + v.toNat, none⟩ = some (.int .i64 (typeOfP ts v)) := fun o => (World.cell?_alloc_past _ _ _ (by omega)).trans hcell
  clear hcell
  go_enter Try.func130, Try.ntmps130
  go_wp2
  all_goals (go_ret; refine ⟨?_, (Below.refl _ _).alloc (Nat.le_refl _) _⟩; simp_all [useP])

set_option maxHeartbeats 400000 in
theorem l1Type_any (vt : Value) (ts : List Int) (B : Nat) (v : Int) (w : World) (ht : IntS w B vt ts) :
    Calls Try.prog 155 #[vt, .int .i64 v] w fun e w' => e = .returned (.int .i64 (typeOfP ts v)) ∧ w = w' := by
  by_cases h0 : 0 ≤ v
  · by_cases h1 : v < ts.length
    · obtain ⟨b, off, c, rfl, hb, hc, hm, hcell⟩ := ht.get h0 h1
      go_enter Try.func155, Try.ntmps155
      go_wp2
      go_ret
      exact ⟨rfl, rfl⟩
    · obtain ⟨A, c, rfl, hc, hm, hr⟩ := ht
      go_enter Try.func155, Try.ntmps155
      go_wp2
      go_ret
      exact ⟨ret_int (by rw [typeOfP, if_pos h0, getD_ge (by omega)]), rfl⟩
  · obtain ⟨A, c, rfl, hc, hm, hr⟩ := ht
    go_enter Try.func155, Try.ntmps155
    go_wp2
    go_ret
    exact ⟨ret_int (by rw [typeOfP, if_neg (by omega)]), rfl⟩

set_option maxHeartbeats 400000 in
theorem typeOf_any (vt : Value) (ts : List Int) (B : Nat) (v : Int) (w : World) (ht : IntS w B vt ts) :
    Calls Try.prog 149 #[vt, .int .i64 v] w fun e w' => e = .returned (.int .i64 (typeOfP ts v)) ∧ w = w' := by
  by_cases h0 : 0 ≤ v ∧ v < ts.length
  · obtain ⟨b, off, c, rfl, hb, hc, hm, hcell⟩ := ht.get h0.1 h0.2
    have hw : withinP v 0 ((ts.length : Int) - 1) = true := by simp [withinP]; omega
    have H := Lib.hid h0
    clear h0
    go_enter Try.func149, Try.ntmps149
    go_wp2_with (go_at_call 87; refine (within_any _ _ _ _).mono ?_; rintro e w' ⟨rfl, rfl⟩; (have h0 := H.out.1); (have h1 := H.out.2))
    go_ret
    exact ⟨rfl, rfl⟩
  · obtain ⟨A, c, rfl, hc, hm, hr⟩ := ht
    have hw : withinP v 0 ((ts.length : Int) - 1) = false := by simp [withinP]; omega
    have H := Lib.hid h0
    clear h0
    go_enter Try.func149, Try.ntmps149
    go_wp2_with (go_at_call 87; refine (within_any _ _ _ _).mono ?_; rintro e w' ⟨rfl, rfl⟩)
    go_ret
    refine ⟨ret_int ?_, rfl⟩
    unfold typeOfP
    split
    · rw [getD_ge (by have := H.out; omega)]
    · rfl

end Go.Proofs.Ytmaaaiccmllnlaa
