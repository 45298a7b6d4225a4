import Derived.Test.YtfioaohadanjmaaDoorP01
set_option linter.unusedVariables false

namespace Go.Proofs.YtfioaohadanjmaaDoor
open Go.RowKit

set_option maxHeartbeats 1000000 in
set_option maxRecDepth 100000 in
theorem simpleOk_any (vt : Value) (ts : List Int) (B : Nat) (op x y n : Int) (A1 A2 : Option Addr) (n1 n2 c1 c2 : Nat) (w : World) (ht : IntS w B vt ts) (hB : B ≤ w.heap.size) (hn1 : n1 = 0) (hn2 : n2 = 0) :
    Calls Tryd.prog 54 #[vt, .agg #[.int .i64 op, .int .i64 x, .int .i64 y, .int .i64 n, .slice A1 n1 c1, .slice A2 n2 c2]] w fun e w' => e = .returned (.bool (simpleP ts op x y n)) ∧ Below w.heap.size w w' := by
  subst hn1 hn2
  rcases (show op = 1 ∨ op = 2 ∨ op = 3 ∨ op = 4 ∨ op = 5 ∨ op = 6 ∨ op = 7 ∨ op = 8 ∨ (op < 1 ∨ 8 < op) by omega) with h | h | h | h | h | h | h | h | h
  case inr.inr.inr.inr.inr.inr.inr.inr =>
    have h1 : (op == 1) = false := by simp; omega
    have h2 : (op == 2) = false := by simp; omega
    have h3 : (op == 3) = false := by simp; omega
    have h4 : (op == 4) = false := by simp; omega
    have h5 : (op == 5) = false := by simp; omega
    have h6 : (op == 6) = false := by simp; omega
    have h7 : (op == 7) = false := by simp; omega
    have h8 : (op == 8) = false := by simp; omega
    have h9 : (op != 8) = true := by simp; omega
    clear h
    go_enter Tryd.func54, Tryd.ntmps54
    go_wp2_with fail
    go_quiet ((go_at_call 60; exact quiet_left (typeOf_any vt ts B _ _ ((ht.low ((Below.refl _ _).alloc (Nat.le_refl _) _) hB).drewN _))))
    go_wp2_with (first
      | (go_at_call 20; refine (within_any _ _ _ _).mono ?_; rintro e w' ⟨rfl, rfl⟩)
      | (go_at_call 61; refine (isHolder_any _ _).mono ?_; rintro e w' ⟨rfl, rfl⟩))
    all_goals (go_ret; exact ⟨ret_bool (by simp_all [simpleP]), bel_ad _ _ _⟩)
  all_goals
    subst h
    go_enter Tryd.func54, Tryd.ntmps54
    go_wp2_with fail
    go_quiet ((go_at_call 60; exact quiet_left (typeOf_any vt ts B _ _ ((ht.low ((Below.refl _ _).alloc (Nat.le_refl _) _) hB).drewN _))))
    go_wp2_with (first
      | (go_at_call 20; refine (within_any _ _ _ _).mono ?_; rintro e w' ⟨rfl, rfl⟩)
      | (go_at_call 61; refine (isHolder_any _ _).mono ?_; rintro e w' ⟨rfl, rfl⟩))
    all_goals (go_ret; exact ⟨ret_bool (by simp_all [simpleP, withinP]), bel_ad _ _ _⟩)

end Go.Proofs.YtfioaohadanjmaaDoor

namespace Go.Proofs.YtfioaohadanjmaaDoor
open Go.RowKit

set_option maxHeartbeats 1000000 in
set_option maxRecDepth 100000 in
theorem simpleOk_no (vt : Value) (ts : List Int) (B : Nat) (op x y n : Int) (A1 A2 : Option Addr) (n1 n2 c1 c2 : Nat) (w : World) (ht : IntS w B vt ts) (hB : B ≤ w.heap.size) (hn : 0 < n1 ∨ (n1 = 0 ∧ 0 < n2)) :
    Calls Tryd.prog 54 #[vt, .agg #[.int .i64 op, .int .i64 x, .int .i64 y, .int .i64 n, .slice A1 n1 c1, .slice A2 n2 c2]] w fun e w' => e = .returned (.bool false) ∧ Below w.heap.size w w' := by
  rcases (show op = 1 ∨ op = 2 ∨ op = 8 ∨ (op ≠ 1 ∧ op ≠ 2 ∧ op ≠ 8) by omega) with h | h | h | ⟨a1, a2, a8⟩
  case inr.inr.inr =>
    have h1 : (op == 1) = false := by simp; omega
    have h2 : (op == 2) = false := by simp; omega
    have h9 : (op != 8) = true := by simp; omega
    clear a1 a2 a8
    rcases hn with hn | ⟨rfl, hn⟩
    all_goals
      go_enter Tryd.func54, Tryd.ntmps54
      go_wp2_with fail
      go_quiet ((go_at_call 60; exact quiet_left (typeOf_any vt ts B _ _ ((ht.low ((Below.refl _ _).alloc (Nat.le_refl _) _) hB).drewN _))))
      go_wp2_with (first
        | (go_at_call 20; refine (within_any _ _ _ _).mono ?_; rintro e w' ⟨rfl, rfl⟩))
      all_goals (go_ret; exact ⟨rfl, bel_ad _ _ _⟩)
  all_goals
    subst h
    rcases hn with hn | ⟨rfl, hn⟩
    all_goals
      go_enter Tryd.func54, Tryd.ntmps54
      go_wp2_with fail
      go_quiet ((go_at_call 60; exact quiet_left (typeOf_any vt ts B _ _ ((ht.low ((Below.refl _ _).alloc (Nat.le_refl _) _) hB).drewN _))))
      go_wp2_with (first
        | (go_at_call 20; refine (within_any _ _ _ _).mono ?_; rintro e w' ⟨rfl, rfl⟩))
      all_goals (go_ret; exact ⟨rfl, bel_ad _ _ _⟩)

end Go.Proofs.YtfioaohadanjmaaDoor

namespace Go.Proofs.YtfioaohadanjmaaDoor
open Go.RowKit

set_option maxHeartbeats 1000000 in
theorem l1Simple_any (vt : Value) (ts : List Int) (B : Nat) (op x y n : Int) (tv ev : Value) (w : World) (ht : IntS w B vt ts) (hB : B ≤ w.heap.size) (hts : tsOkP ts = true) :
    Calls Tryd.prog 66 #[vt, .agg #[.int .i64 op, .int .i64 x, .int .i64 y, .int .i64 n, tv, ev]] w fun e w' => e = .returned (.bool (simpleP ts op x y n)) ∧ Below w.heap.size w w' := by
  have hx := typeOf_range hts x
  have hy := typeOf_range hts y
  have HT := Lib.hid hts
  have HH := Lib.hid (holder_ge hy.1 hy.2)
  have HY := Lib.hid hy
  clear hts
  rcases (show op = 1 ∨ op = 2 ∨ op = 3 ∨ op = 4 ∨ op = 5 ∨ op = 6 ∨ op = 7 ∨ op = 8 ∨ (op < 1 ∨ 8 < op) by omega) with h | h | h | h | h | h | h | h | h
  case inr.inr.inr.inr.inr.inr.inr.inr =>
    have h1 : (op == 1) = false := by simp; omega
    have h2 : (op == 2) = false := by simp; omega
    have h3 : (op == 3) = false := by simp; omega
    have h4 : (op == 4) = false := by simp; omega
    have h5 : (op == 5) = false := by simp; omega
    have h6 : (op == 6) = false := by simp; omega
    have h7 : (op == 7) = false := by simp; omega
    have h8 : (op == 8) = false := by simp; omega
    clear h
    go_enter Tryd.func66, Tryd.ntmps66
    go_wp2_with (go_at_call 73; refine (l1Type_any vt ts B _ _ (ht.low ((Below.refl _ _).alloc (Nat.le_refl _) _) hB)).mono ?_; rintro e w' ⟨rfl, rfl⟩)
    all_goals (go_ret; exact ⟨ret_bool (by simp_all [simpleP]), (Below.refl _ _).alloc (Nat.le_refl _) _⟩)
  all_goals
    subst h
    go_enter Tryd.func66, Tryd.ntmps66
    go_wp2_with (go_at_call 73; refine (l1Type_any vt ts B _ _ (ht.low ((Below.refl _ _).alloc (Nat.le_refl _) _) hB)).mono ?_; rintro e w' ⟨rfl, rfl⟩)
    all_goals (go_ret; exact ⟨ret_bool (by have hh := HH.out; clear hx hy; simp_all [simpleP] <;> (have hy := HY.out; omega)), (Below.refl _ _).alloc (Nat.le_refl _) _⟩)

end Go.Proofs.YtfioaohadanjmaaDoor
