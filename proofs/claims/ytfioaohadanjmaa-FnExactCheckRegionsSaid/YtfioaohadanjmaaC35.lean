import Derived.Test.YtfioaohadanjmaaC21
import Derived.Test.YtfioaohadanjmaaC34
import Derived.Test.YtfioaohadanjmaaC33
import Derived.Test.YtfioaohadanjmaaC24
import Derived.Test.YtfioaohadanjmaaC22
import Derived.Test.YtfioaohadanjmaaC13
import Derived.Test.YtfioaohadanjmaaC25
import Derived.Test.YtfioaohadanjmaaC12
import Derived.Test.YtfioaohadanjmaaC10
import Derived.Test.YtfioaohadanjmaaC11
set_option linter.unusedVariables false

/- spec.l4Accesses, spec.AccessesOf. -/
namespace Go.Proofs.Ytfioaohadanjmaa
open Go.RowKit

theorem use_takes (ts : List Int) (x y : Int) : useP ts 3 x y y = if takesP ts y = true then 2 else 1 := by
  unfold useP takesP
  simp
set_option maxHeartbeats 1000000 in
set_option maxRecDepth 100000 in
theorem l4Accesses_any (At : Option Addr) (ct : Nat) (ts : List Int) (B : Nat) (op x y n : Int) (A : Option Addr) (m c : Nat) (Am : Option Addr) (cm : Nat) (M : List Bool) (w : World) (ht : IntS w B (.slice At ts.length ct) ts) (hM : BoolS w B (.slice Am ts.length cm) M) (hml : M.length = ts.length) (hB : B ≤ w.heap.size) (h6 : ts.length ≤ 6) (hs : 0 ≤ setsP op x → setsP op x < ts.length) (hy : op = 3 → 0 ≤ y ∧ y < ts.length) :
    Calls Try.prog 62 #[.slice At ts.length ct, .agg #[.int .i64 op, .int .i64 x, .int .i64 y, .int .i64 n, .slice A m c], .slice Am ts.length cm] w (AxRet w (accL ts op x y (fun v => M.getD v false))) := by
  have HT := Lib.hid ht
  have HM := Lib.hid hM
  have HML := Lib.hid hml
  have HS := Lib.hid hs
  have HY := Lib.hid hy
  clear ht hM hml hs hy
  go_enter Try.func62, Try.ntmps62
  go_upto_region 2 with (at_builtin; fail)
  have hbA := bel_a w (.cells #[.int .i64 op, .int .i64 x, .int .i64 y, .int .i64 n, .slice A m c] 62)
  have hRA := heap_alloc_new w (.cells #[.int .i64 op, .int .i64 x, .int .i64 y, .int .i64 n, .slice A m c] 62)
  have hsA : (w.alloc (.cells #[.int .i64 op, .int .i64 x, .int .i64 y, .int .i64 n, .slice A m c] 62)).heap.size = w.heap.size + 1 := by simp
  have hON := OAx.empty (w.alloc (.cells #[.int .i64 op, .int .i64 x, .int .i64 y, .int .i64 n, .slice A m c] 62)) (w.heap.size + 1) (by simp)
  have hbE := bel_a (w.alloc (.cells #[.int .i64 op, .int .i64 x, .int .i64 y, .int .i64 n, .slice A m c] 62)) (.cells #[] 150)
  have hsE : ((w.alloc (.cells #[.int .i64 op, .int .i64 x, .int .i64 y, .int .i64 n, .slice A m c] 62)).alloc (.cells #[] 150)).heap.size = w.heap.size + 2 := by simp
  have hRE := row_below hRA hbE
  have hbA2 := hbA.trans (hbE.mono (by simp))
  rw [hsA] at hON
  clear hRA hbA hbE hsA
  generalize (w.alloc (.cells #[.int .i64 op, .int .i64 x, .int .i64 y, .int .i64 n, .slice A m c] 62)).alloc (.cells #[] 150) = W0 at *
  obtain ⟨bx, hbx⟩ : ∃ bx, bx = w.heap.size := ⟨_, rfl⟩
  rw [← hbx] at hRE hsE hON ⊢
  have y0 : W0.cell? ⟨bx, 0, none⟩ = some (.int .i64 op) := by rw [cell_of_row _ _ _ _ _ _ hRE]; rfl
  have y1 : W0.cell? ⟨bx, 1, none⟩ = some (.int .i64 x) := by rw [cell_of_row _ _ _ _ _ _ hRE]; rfl
  have y2 : W0.cell? ⟨bx, 2, none⟩ = some (.int .i64 y) := by rw [cell_of_row _ _ _ _ _ _ hRE]; rfl
  have y3 : W0.cell? ⟨bx, 3, none⟩ = some (.int .i64 n) := by rw [cell_of_row _ _ _ _ _ _ hRE]; rfl
  have y4 : W0.cell? ⟨bx, 4, none⟩ = some (.slice A m c) := by rw [cell_of_row _ _ _ _ _ _ hRE]; rfl
  have HBA := Lib.hid hbA2
  have HON := Lib.hid hON
  have HBX := Lib.hid hbx
  have HTW := Lib.hid (HT.out.low hbA2 hB)
  have HMW := Lib.hid (HM.out.low hbA2 hB)
  have hBx : B ≤ bx := by omega
  have HSA := Lib.hid hsE
  have hBW : B ≤ W0.heap.size := by omega
  have hbW : bx + 1 ≤ W0.heap.size := by omega
  clear hRE hbA2 hbx hB hsE hON
  rcases (by omega : op = 4 ∨ op = 6 ∨ op = 5 ∨ op = 7 ∨ op = 8 ∨ op = 3 ∨ (op ≠ 3 ∧ op ≠ 4 ∧ op ≠ 5 ∧ op ≠ 6 ∧ op ≠ 7 ∧ op ≠ 8)) with rfl | rfl | rfl | rfl | rfl | rfl | ho
  · have HA1 : Hid (acc1 ts 4 x y = [⟨y, false⟩]) := Lib.hid (by unfold acc1; simp)
    go_wp2_with (at_builtin; go_must (refine wpList_push_ax rfl (.tmp 15) (.tmp 19) rfl HON.out (by omega) (by simp) y false rfl rfl ?_); intro v' w' hP' hE'; (have z0 := (hE'.cell (p := ⟨bx, 0, none⟩) (by show bx < bx + 1; omega)).trans y0); (have z1 := (hE'.cell (p := ⟨bx, 1, none⟩) (by show bx < bx + 1; omega)).trans y1); (have z2 := (hE'.cell (p := ⟨bx, 2, none⟩) (by show bx < bx + 1; omega)).trans y2); (have z3 := (hE'.cell (p := ⟨bx, 3, none⟩) (by show bx < bx + 1; omega)).trans y3); (have z4 := (hE'.cell (p := ⟨bx, 4, none⟩) (by show bx < bx + 1; omega)).trans y4); (have HO := Lib.hid hP'); (have HBE := Lib.hid hE'); clear hP' hE' y0 y1 y2 y3 y4)
    have hsz' := HBE.out.size
    refine (l3Set_any _ _ _ _ _ _).mono ?_
    rintro e w5 ⟨rfl, hb5⟩
    obtain ⟨s, hs⟩ : ∃ s, s = setsP 4 x := ⟨_, rfl⟩
    have HSS := Lib.hid hs
    have HS2 := HS.out
    rw [← hs] at HS2 ⊢
    have HO5 := Lib.hid (HO.out.bel hb5)
    have HT5 := Lib.hid ((HTW.out.low HBE.out (by omega)).low hb5 (by omega))
    have HM5 := Lib.hid ((HMW.out.low HBE.out (by omega)).low hb5 (by omega))
    have HB5 := Lib.hid (HBA.out.trans ((HBE.out.mono (by rw [← HBX.out]; omega)).trans (hb5.mono (by rw [← HBX.out]; omega))))
    have hs5 := hb5.size
    clear z0 z1 z2 z3 z4 hs hb5
    by_cases hs0 : 0 ≤ s
    · have hs1 : decide (s ≥ 0) = true := by simpa using hs0
      have hsl := HS2 hs0
      obtain ⟨k, rfl⟩ : ∃ k : Nat, s = k := ⟨s.toNat, by omega⟩
      have hk6 : k < ts.length := by omega
      have ht := HT5.out
      obtain ⟨bt, ot, ct2, e, hbt, -, -, hct2⟩ := ht.get (i := (k : Nat)) (by omega) hsl
      injection e with e1 e9 e2
      subst e1 e2
      rw [Int.toNat_natCast] at hct2
      clear e9 hs0 hsl HS2 ht
      by_cases hty : typeOfP ts (k : Nat) = 2
      · rw [hty] at hct2
        obtain ⟨Am', cm', e, -, -, hrm⟩ := HM5.out
        injection e with e1 e9 e2
        subst e1 e2
        have hkM : k < M.length := by rw [HML.out]; exact hk6
        obtain ⟨b7, o7, rfl, hb7, hcell7⟩ := hrm.bool_at (k := k) hkM
        have d7 := hcell7 k hkM
        clear hcell7 hrm e9 hkM
        cases hbk : M.getD k false
        · rw [hbk] at d7
          have HL : Hid (accL ts 4 x y (fun v => M.getD v false) = [⟨y, false⟩]) := Lib.hid (by unfold accL acc2; rw [HA1.out, ← HSS.out, if_neg (fun h => by have h3 : M.getD k false = true := (by have h4 := h.2.2; rw [Int.toNat_natCast] at h4; exact h4); rw [hbk] at h3; cases h3), List.append_nil])
          clear hbk
          go_wp2_with (at_builtin; fail)
          go_ret
          exact ⟨_, rfl, by rw [HL.out]; exact HO5.out.toS (by simp), HB5.out⟩
        · rw [hbk] at d7
          have HL : Hid (accL ts 4 x y (fun v => M.getD v false) = [⟨y, false⟩] ++ [⟨(k : Nat), true⟩]) := Lib.hid (by unfold accL acc2; rw [HA1.out, ← HSS.out, if_pos ⟨by omega, hty, by rw [Int.toNat_natCast]; exact hbk⟩])
          clear hbk
          go_wp2_with (at_builtin; go_must (refine wpList_push_ax rfl (.tmp 69) (.tmp 72) rfl HO5.out (by omega) (by simp) (k : Nat) true rfl rfl ?_); intro v9 w9 hP9 hE9)
          go_ret
          exact ⟨_, rfl, by rw [HL.out]; exact hP9.toS (by simp), HB5.out.trans (hE9.mono (by rw [← HBX.out]; omega))⟩
      · have hty2 : ((typeOfP ts (k : Nat)) == 2) = false := by simpa using hty
        have HL : Hid (accL ts 4 x y (fun v => M.getD v false) = [⟨y, false⟩]) := Lib.hid (by unfold accL acc2; rw [HA1.out, ← HSS.out, if_neg (fun h => hty h.2.1), List.append_nil])
        clear hty
        go_wp2_with (at_builtin; fail)
        go_ret
        exact ⟨_, rfl, by rw [HL.out]; exact HO5.out.toS (by simp), HB5.out⟩
    · have hs1 : decide (s ≥ 0) = false := by simpa using hs0
      have HL : Hid (accL ts 4 x y (fun v => M.getD v false) = [⟨y, false⟩]) := Lib.hid (by unfold accL acc2; rw [HA1.out, ← HSS.out, if_neg (fun h => hs0 h.1), List.append_nil])
      clear hs0 HS2
      go_wp2_with (at_builtin; fail)
      go_ret
      exact ⟨_, rfl, by rw [HL.out]; exact HO5.out.toS (by simp), HB5.out⟩
  · have HA1 : Hid (acc1 ts 6 x y = [⟨y, false⟩]) := Lib.hid (by unfold acc1; simp)
    go_wp2_with (at_builtin; go_must (refine wpList_push_ax rfl (.tmp 15) (.tmp 19) rfl HON.out (by omega) (by simp) y false rfl rfl ?_); intro v' w' hP' hE'; (have z0 := (hE'.cell (p := ⟨bx, 0, none⟩) (by show bx < bx + 1; omega)).trans y0); (have z1 := (hE'.cell (p := ⟨bx, 1, none⟩) (by show bx < bx + 1; omega)).trans y1); (have z2 := (hE'.cell (p := ⟨bx, 2, none⟩) (by show bx < bx + 1; omega)).trans y2); (have z3 := (hE'.cell (p := ⟨bx, 3, none⟩) (by show bx < bx + 1; omega)).trans y3); (have z4 := (hE'.cell (p := ⟨bx, 4, none⟩) (by show bx < bx + 1; omega)).trans y4); (have HO := Lib.hid hP'); (have HBE := Lib.hid hE'); clear hP' hE' y0 y1 y2 y3 y4)
    have hsz' := HBE.out.size
    refine (l3Set_any _ _ _ _ _ _).mono ?_
    rintro e w5 ⟨rfl, hb5⟩
    obtain ⟨s, hs⟩ : ∃ s, s = setsP 6 x := ⟨_, rfl⟩
    have HSS := Lib.hid hs
    have HS2 := HS.out
    rw [← hs] at HS2 ⊢
    have HO5 := Lib.hid (HO.out.bel hb5)
    have HT5 := Lib.hid ((HTW.out.low HBE.out (by omega)).low hb5 (by omega))
    have HM5 := Lib.hid ((HMW.out.low HBE.out (by omega)).low hb5 (by omega))
    have HB5 := Lib.hid (HBA.out.trans ((HBE.out.mono (by rw [← HBX.out]; omega)).trans (hb5.mono (by rw [← HBX.out]; omega))))
    have hs5 := hb5.size
    clear z0 z1 z2 z3 z4 hs hb5
    by_cases hs0 : 0 ≤ s
    · have hs1 : decide (s ≥ 0) = true := by simpa using hs0
      have hsl := HS2 hs0
      obtain ⟨k, rfl⟩ : ∃ k : Nat, s = k := ⟨s.toNat, by omega⟩
      have hk6 : k < ts.length := by omega
      have ht := HT5.out
      obtain ⟨bt, ot, ct2, e, hbt, -, -, hct2⟩ := ht.get (i := (k : Nat)) (by omega) hsl
      injection e with e1 e9 e2
      subst e1 e2
      rw [Int.toNat_natCast] at hct2
      clear e9 hs0 hsl HS2 ht
      by_cases hty : typeOfP ts (k : Nat) = 2
      · rw [hty] at hct2
        obtain ⟨Am', cm', e, -, -, hrm⟩ := HM5.out
        injection e with e1 e9 e2
        subst e1 e2
        have hkM : k < M.length := by rw [HML.out]; exact hk6
        obtain ⟨b7, o7, rfl, hb7, hcell7⟩ := hrm.bool_at (k := k) hkM
        have d7 := hcell7 k hkM
        clear hcell7 hrm e9 hkM
        cases hbk : M.getD k false
        · rw [hbk] at d7
          have HL : Hid (accL ts 6 x y (fun v => M.getD v false) = [⟨y, false⟩]) := Lib.hid (by unfold accL acc2; rw [HA1.out, ← HSS.out, if_neg (fun h => by have h3 : M.getD k false = true := (by have h4 := h.2.2; rw [Int.toNat_natCast] at h4; exact h4); rw [hbk] at h3; cases h3), List.append_nil])
          clear hbk
          go_wp2_with (at_builtin; fail)
          go_ret
          exact ⟨_, rfl, by rw [HL.out]; exact HO5.out.toS (by simp), HB5.out⟩
        · rw [hbk] at d7
          have HL : Hid (accL ts 6 x y (fun v => M.getD v false) = [⟨y, false⟩] ++ [⟨(k : Nat), true⟩]) := Lib.hid (by unfold accL acc2; rw [HA1.out, ← HSS.out, if_pos ⟨by omega, hty, by rw [Int.toNat_natCast]; exact hbk⟩])
          clear hbk
          go_wp2_with (at_builtin; go_must (refine wpList_push_ax rfl (.tmp 69) (.tmp 72) rfl HO5.out (by omega) (by simp) (k : Nat) true rfl rfl ?_); intro v9 w9 hP9 hE9)
          go_ret
          exact ⟨_, rfl, by rw [HL.out]; exact hP9.toS (by simp), HB5.out.trans (hE9.mono (by rw [← HBX.out]; omega))⟩
      · have hty2 : ((typeOfP ts (k : Nat)) == 2) = false := by simpa using hty
        have HL : Hid (accL ts 6 x y (fun v => M.getD v false) = [⟨y, false⟩]) := Lib.hid (by unfold accL acc2; rw [HA1.out, ← HSS.out, if_neg (fun h => hty h.2.1), List.append_nil])
        clear hty
        go_wp2_with (at_builtin; fail)
        go_ret
        exact ⟨_, rfl, by rw [HL.out]; exact HO5.out.toS (by simp), HB5.out⟩
    · have hs1 : decide (s ≥ 0) = false := by simpa using hs0
      have HL : Hid (accL ts 6 x y (fun v => M.getD v false) = [⟨y, false⟩]) := Lib.hid (by unfold accL acc2; rw [HA1.out, ← HSS.out, if_neg (fun h => hs0 h.1), List.append_nil])
      clear hs0 HS2
      go_wp2_with (at_builtin; fail)
      go_ret
      exact ⟨_, rfl, by rw [HL.out]; exact HO5.out.toS (by simp), HB5.out⟩
  · have HA1 : Hid (acc1 ts 5 x y = [⟨y, true⟩]) := Lib.hid (by unfold acc1; simp)
    go_wp2_with (at_builtin; go_must (refine wpList_push_ax rfl (.tmp 23) (.tmp 27) rfl HON.out (by omega) (by simp) y true rfl rfl ?_); intro v' w' hP' hE'; (have z0 := (hE'.cell (p := ⟨bx, 0, none⟩) (by show bx < bx + 1; omega)).trans y0); (have z1 := (hE'.cell (p := ⟨bx, 1, none⟩) (by show bx < bx + 1; omega)).trans y1); (have z2 := (hE'.cell (p := ⟨bx, 2, none⟩) (by show bx < bx + 1; omega)).trans y2); (have z3 := (hE'.cell (p := ⟨bx, 3, none⟩) (by show bx < bx + 1; omega)).trans y3); (have z4 := (hE'.cell (p := ⟨bx, 4, none⟩) (by show bx < bx + 1; omega)).trans y4); (have HO := Lib.hid hP'); (have HBE := Lib.hid hE'); clear hP' hE' y0 y1 y2 y3 y4)
    have hsz' := HBE.out.size
    refine (l3Set_any _ _ _ _ _ _).mono ?_
    rintro e w5 ⟨rfl, hb5⟩
    obtain ⟨s, hs⟩ : ∃ s, s = setsP 5 x := ⟨_, rfl⟩
    have HSS := Lib.hid hs
    have HS2 := HS.out
    rw [← hs] at HS2 ⊢
    have HO5 := Lib.hid (HO.out.bel hb5)
    have HT5 := Lib.hid ((HTW.out.low HBE.out (by omega)).low hb5 (by omega))
    have HM5 := Lib.hid ((HMW.out.low HBE.out (by omega)).low hb5 (by omega))
    have HB5 := Lib.hid (HBA.out.trans ((HBE.out.mono (by rw [← HBX.out]; omega)).trans (hb5.mono (by rw [← HBX.out]; omega))))
    have hs5 := hb5.size
    clear z0 z1 z2 z3 z4 hs hb5
    by_cases hs0 : 0 ≤ s
    · have hs1 : decide (s ≥ 0) = true := by simpa using hs0
      have hsl := HS2 hs0
      obtain ⟨k, rfl⟩ : ∃ k : Nat, s = k := ⟨s.toNat, by omega⟩
      have hk6 : k < ts.length := by omega
      have ht := HT5.out
      obtain ⟨bt, ot, ct2, e, hbt, -, -, hct2⟩ := ht.get (i := (k : Nat)) (by omega) hsl
      injection e with e1 e9 e2
      subst e1 e2
      rw [Int.toNat_natCast] at hct2
      clear e9 hs0 hsl HS2 ht
      by_cases hty : typeOfP ts (k : Nat) = 2
      · rw [hty] at hct2
        obtain ⟨Am', cm', e, -, -, hrm⟩ := HM5.out
        injection e with e1 e9 e2
        subst e1 e2
        have hkM : k < M.length := by rw [HML.out]; exact hk6
        obtain ⟨b7, o7, rfl, hb7, hcell7⟩ := hrm.bool_at (k := k) hkM
        have d7 := hcell7 k hkM
        clear hcell7 hrm e9 hkM
        cases hbk : M.getD k false
        · rw [hbk] at d7
          have HL : Hid (accL ts 5 x y (fun v => M.getD v false) = [⟨y, true⟩]) := Lib.hid (by unfold accL acc2; rw [HA1.out, ← HSS.out, if_neg (fun h => by have h3 : M.getD k false = true := (by have h4 := h.2.2; rw [Int.toNat_natCast] at h4; exact h4); rw [hbk] at h3; cases h3), List.append_nil])
          clear hbk
          go_wp2_with (at_builtin; fail)
          go_ret
          exact ⟨_, rfl, by rw [HL.out]; exact HO5.out.toS (by simp), HB5.out⟩
        · rw [hbk] at d7
          have HL : Hid (accL ts 5 x y (fun v => M.getD v false) = [⟨y, true⟩] ++ [⟨(k : Nat), true⟩]) := Lib.hid (by unfold accL acc2; rw [HA1.out, ← HSS.out, if_pos ⟨by omega, hty, by rw [Int.toNat_natCast]; exact hbk⟩])
          clear hbk
          go_wp2_with (at_builtin; go_must (refine wpList_push_ax rfl (.tmp 69) (.tmp 72) rfl HO5.out (by omega) (by simp) (k : Nat) true rfl rfl ?_); intro v9 w9 hP9 hE9)
          go_ret
          exact ⟨_, rfl, by rw [HL.out]; exact hP9.toS (by simp), HB5.out.trans (hE9.mono (by rw [← HBX.out]; omega))⟩
      · have hty2 : ((typeOfP ts (k : Nat)) == 2) = false := by simpa using hty
        have HL : Hid (accL ts 5 x y (fun v => M.getD v false) = [⟨y, true⟩]) := Lib.hid (by unfold accL acc2; rw [HA1.out, ← HSS.out, if_neg (fun h => hty h.2.1), List.append_nil])
        clear hty
        go_wp2_with (at_builtin; fail)
        go_ret
        exact ⟨_, rfl, by rw [HL.out]; exact HO5.out.toS (by simp), HB5.out⟩
    · have hs1 : decide (s ≥ 0) = false := by simpa using hs0
      have HL : Hid (accL ts 5 x y (fun v => M.getD v false) = [⟨y, true⟩]) := Lib.hid (by unfold accL acc2; rw [HA1.out, ← HSS.out, if_neg (fun h => hs0 h.1), List.append_nil])
      clear hs0 HS2
      go_wp2_with (at_builtin; fail)
      go_ret
      exact ⟨_, rfl, by rw [HL.out]; exact HO5.out.toS (by simp), HB5.out⟩
  · have HA1 : Hid (acc1 ts 7 x y = [⟨x, true⟩]) := Lib.hid (by unfold acc1; simp)
    go_wp2_with (at_builtin; go_must (refine wpList_push_ax rfl (.tmp 32) (.tmp 36) rfl HON.out (by omega) (by simp) x true rfl rfl ?_); intro v' w' hP' hE'; (have z0 := (hE'.cell (p := ⟨bx, 0, none⟩) (by show bx < bx + 1; omega)).trans y0); (have z1 := (hE'.cell (p := ⟨bx, 1, none⟩) (by show bx < bx + 1; omega)).trans y1); (have z2 := (hE'.cell (p := ⟨bx, 2, none⟩) (by show bx < bx + 1; omega)).trans y2); (have z3 := (hE'.cell (p := ⟨bx, 3, none⟩) (by show bx < bx + 1; omega)).trans y3); (have z4 := (hE'.cell (p := ⟨bx, 4, none⟩) (by show bx < bx + 1; omega)).trans y4); (have HO := Lib.hid hP'); (have HBE := Lib.hid hE'); clear hP' hE' y0 y1 y2 y3 y4)
    have hsz' := HBE.out.size
    refine (l3Set_any _ _ _ _ _ _).mono ?_
    rintro e w5 ⟨rfl, hb5⟩
    obtain ⟨s, hs⟩ : ∃ s, s = setsP 7 x := ⟨_, rfl⟩
    have HSS := Lib.hid hs
    have HS2 := HS.out
    rw [← hs] at HS2 ⊢
    have HO5 := Lib.hid (HO.out.bel hb5)
    have HT5 := Lib.hid ((HTW.out.low HBE.out (by omega)).low hb5 (by omega))
    have HM5 := Lib.hid ((HMW.out.low HBE.out (by omega)).low hb5 (by omega))
    have HB5 := Lib.hid (HBA.out.trans ((HBE.out.mono (by rw [← HBX.out]; omega)).trans (hb5.mono (by rw [← HBX.out]; omega))))
    have hs5 := hb5.size
    clear z0 z1 z2 z3 z4 hs hb5
    by_cases hs0 : 0 ≤ s
    · have hs1 : decide (s ≥ 0) = true := by simpa using hs0
      have hsl := HS2 hs0
      obtain ⟨k, rfl⟩ : ∃ k : Nat, s = k := ⟨s.toNat, by omega⟩
      have hk6 : k < ts.length := by omega
      have ht := HT5.out
      obtain ⟨bt, ot, ct2, e, hbt, -, -, hct2⟩ := ht.get (i := (k : Nat)) (by omega) hsl
      injection e with e1 e9 e2
      subst e1 e2
      rw [Int.toNat_natCast] at hct2
      clear e9 hs0 hsl HS2 ht
      by_cases hty : typeOfP ts (k : Nat) = 2
      · rw [hty] at hct2
        obtain ⟨Am', cm', e, -, -, hrm⟩ := HM5.out
        injection e with e1 e9 e2
        subst e1 e2
        have hkM : k < M.length := by rw [HML.out]; exact hk6
        obtain ⟨b7, o7, rfl, hb7, hcell7⟩ := hrm.bool_at (k := k) hkM
        have d7 := hcell7 k hkM
        clear hcell7 hrm e9 hkM
        cases hbk : M.getD k false
        · rw [hbk] at d7
          have HL : Hid (accL ts 7 x y (fun v => M.getD v false) = [⟨x, true⟩]) := Lib.hid (by unfold accL acc2; rw [HA1.out, ← HSS.out, if_neg (fun h => by have h3 : M.getD k false = true := (by have h4 := h.2.2; rw [Int.toNat_natCast] at h4; exact h4); rw [hbk] at h3; cases h3), List.append_nil])
          clear hbk
          go_wp2_with (at_builtin; fail)
          go_ret
          exact ⟨_, rfl, by rw [HL.out]; exact HO5.out.toS (by simp), HB5.out⟩
        · rw [hbk] at d7
          have HL : Hid (accL ts 7 x y (fun v => M.getD v false) = [⟨x, true⟩] ++ [⟨(k : Nat), true⟩]) := Lib.hid (by unfold accL acc2; rw [HA1.out, ← HSS.out, if_pos ⟨by omega, hty, by rw [Int.toNat_natCast]; exact hbk⟩])
          clear hbk
          go_wp2_with (at_builtin; go_must (refine wpList_push_ax rfl (.tmp 69) (.tmp 72) rfl HO5.out (by omega) (by simp) (k : Nat) true rfl rfl ?_); intro v9 w9 hP9 hE9)
          go_ret
          exact ⟨_, rfl, by rw [HL.out]; exact hP9.toS (by simp), HB5.out.trans (hE9.mono (by rw [← HBX.out]; omega))⟩
      · have hty2 : ((typeOfP ts (k : Nat)) == 2) = false := by simpa using hty
        have HL : Hid (accL ts 7 x y (fun v => M.getD v false) = [⟨x, true⟩]) := Lib.hid (by unfold accL acc2; rw [HA1.out, ← HSS.out, if_neg (fun h => hty h.2.1), List.append_nil])
        clear hty
        go_wp2_with (at_builtin; fail)
        go_ret
        exact ⟨_, rfl, by rw [HL.out]; exact HO5.out.toS (by simp), HB5.out⟩
    · have hs1 : decide (s ≥ 0) = false := by simpa using hs0
      have HL : Hid (accL ts 7 x y (fun v => M.getD v false) = [⟨x, true⟩]) := Lib.hid (by unfold accL acc2; rw [HA1.out, ← HSS.out, if_neg (fun h => hs0 h.1), List.append_nil])
      clear hs0 HS2
      go_wp2_with (at_builtin; fail)
      go_ret
      exact ⟨_, rfl, by rw [HL.out]; exact HO5.out.toS (by simp), HB5.out⟩
  · have HA1 : Hid (acc1 ts 8 x y = [⟨x, true⟩]) := Lib.hid (by unfold acc1; simp)
    go_wp2_with (at_builtin; go_must (refine wpList_push_ax rfl (.tmp 32) (.tmp 36) rfl HON.out (by omega) (by simp) x true rfl rfl ?_); intro v' w' hP' hE'; (have z0 := (hE'.cell (p := ⟨bx, 0, none⟩) (by show bx < bx + 1; omega)).trans y0); (have z1 := (hE'.cell (p := ⟨bx, 1, none⟩) (by show bx < bx + 1; omega)).trans y1); (have z2 := (hE'.cell (p := ⟨bx, 2, none⟩) (by show bx < bx + 1; omega)).trans y2); (have z3 := (hE'.cell (p := ⟨bx, 3, none⟩) (by show bx < bx + 1; omega)).trans y3); (have z4 := (hE'.cell (p := ⟨bx, 4, none⟩) (by show bx < bx + 1; omega)).trans y4); (have HO := Lib.hid hP'); (have HBE := Lib.hid hE'); clear hP' hE' y0 y1 y2 y3 y4)
    have hsz' := HBE.out.size
    refine (l3Set_any _ _ _ _ _ _).mono ?_
    rintro e w5 ⟨rfl, hb5⟩
    obtain ⟨s, hs⟩ : ∃ s, s = setsP 8 x := ⟨_, rfl⟩
    have HSS := Lib.hid hs
    have HS2 := HS.out
    rw [← hs] at HS2 ⊢
    have HO5 := Lib.hid (HO.out.bel hb5)
    have HT5 := Lib.hid ((HTW.out.low HBE.out (by omega)).low hb5 (by omega))
    have HM5 := Lib.hid ((HMW.out.low HBE.out (by omega)).low hb5 (by omega))
    have HB5 := Lib.hid (HBA.out.trans ((HBE.out.mono (by rw [← HBX.out]; omega)).trans (hb5.mono (by rw [← HBX.out]; omega))))
    have hs5 := hb5.size
    clear z0 z1 z2 z3 z4 hs hb5
    by_cases hs0 : 0 ≤ s
    · have hs1 : decide (s ≥ 0) = true := by simpa using hs0
      have hsl := HS2 hs0
      obtain ⟨k, rfl⟩ : ∃ k : Nat, s = k := ⟨s.toNat, by omega⟩
      have hk6 : k < ts.length := by omega
      have ht := HT5.out
      obtain ⟨bt, ot, ct2, e, hbt, -, -, hct2⟩ := ht.get (i := (k : Nat)) (by omega) hsl
      injection e with e1 e9 e2
      subst e1 e2
      rw [Int.toNat_natCast] at hct2
      clear e9 hs0 hsl HS2 ht
      by_cases hty : typeOfP ts (k : Nat) = 2
      · rw [hty] at hct2
        obtain ⟨Am', cm', e, -, -, hrm⟩ := HM5.out
        injection e with e1 e9 e2
        subst e1 e2
        have hkM : k < M.length := by rw [HML.out]; exact hk6
        obtain ⟨b7, o7, rfl, hb7, hcell7⟩ := hrm.bool_at (k := k) hkM
        have d7 := hcell7 k hkM
        clear hcell7 hrm e9 hkM
        cases hbk : M.getD k false
        · rw [hbk] at d7
          have HL : Hid (accL ts 8 x y (fun v => M.getD v false) = [⟨x, true⟩]) := Lib.hid (by unfold accL acc2; rw [HA1.out, ← HSS.out, if_neg (fun h => by have h3 : M.getD k false = true := (by have h4 := h.2.2; rw [Int.toNat_natCast] at h4; exact h4); rw [hbk] at h3; cases h3), List.append_nil])
          clear hbk
          go_wp2_with (at_builtin; fail)
          go_ret
          exact ⟨_, rfl, by rw [HL.out]; exact HO5.out.toS (by simp), HB5.out⟩
        · rw [hbk] at d7
          have HL : Hid (accL ts 8 x y (fun v => M.getD v false) = [⟨x, true⟩] ++ [⟨(k : Nat), true⟩]) := Lib.hid (by unfold accL acc2; rw [HA1.out, ← HSS.out, if_pos ⟨by omega, hty, by rw [Int.toNat_natCast]; exact hbk⟩])
          clear hbk
          go_wp2_with (at_builtin; go_must (refine wpList_push_ax rfl (.tmp 69) (.tmp 72) rfl HO5.out (by omega) (by simp) (k : Nat) true rfl rfl ?_); intro v9 w9 hP9 hE9)
          go_ret
          exact ⟨_, rfl, by rw [HL.out]; exact hP9.toS (by simp), HB5.out.trans (hE9.mono (by rw [← HBX.out]; omega))⟩
      · have hty2 : ((typeOfP ts (k : Nat)) == 2) = false := by simpa using hty
        have HL : Hid (accL ts 8 x y (fun v => M.getD v false) = [⟨x, true⟩]) := Lib.hid (by unfold accL acc2; rw [HA1.out, ← HSS.out, if_neg (fun h => hty h.2.1), List.append_nil])
        clear hty
        go_wp2_with (at_builtin; fail)
        go_ret
        exact ⟨_, rfl, by rw [HL.out]; exact HO5.out.toS (by simp), HB5.out⟩
    · have hs1 : decide (s ≥ 0) = false := by simpa using hs0
      have HL : Hid (accL ts 8 x y (fun v => M.getD v false) = [⟨x, true⟩]) := Lib.hid (by unfold accL acc2; rw [HA1.out, ← HSS.out, if_neg (fun h => hs0 h.1), List.append_nil])
      clear hs0 HS2
      go_wp2_with (at_builtin; fail)
      go_ret
      exact ⟨_, rfl, by rw [HL.out]; exact HO5.out.toS (by simp), HB5.out⟩
  · obtain ⟨hy0, hyl⟩ := HY.out rfl
    go_wp2_with (at_builtin; fail)
    refine (l3Use_any _ ts B 3 x y n y _ _ HTW.out hBW hy0 hyl).mono ?_
    rintro e W1 ⟨rfl, hb3⟩
    rw [use_takes]
    have HON1 := Lib.hid (HON.out.bel hb3)
    have HTW1 := Lib.hid (HTW.out.low hb3 hBW)
    have HMW1 := Lib.hid (HMW.out.low hb3 hBW)
    have HBA1 := Lib.hid (HBA.out.trans (hb3.mono (by rw [← HBX.out]; omega)))
    have hs3 := hb3.size
    have hbW1 : bx + 1 ≤ W1.heap.size := by omega
    have x0 := (hb3.cell (p := ⟨bx, 0, none⟩) (by show bx < _; omega)).trans y0
    have x1 := (hb3.cell (p := ⟨bx, 1, none⟩) (by show bx < _; omega)).trans y1
    have x2 := (hb3.cell (p := ⟨bx, 2, none⟩) (by show bx < _; omega)).trans y2
    have x3 := (hb3.cell (p := ⟨bx, 3, none⟩) (by show bx < _; omega)).trans y3
    have x4 := (hb3.cell (p := ⟨bx, 4, none⟩) (by show bx < _; omega)).trans y4
    clear y0 y1 y2 y3 y4 HON HTW HMW HBA hb3
    have y0 := x0
    have y1 := x1
    have y2 := x2
    have y3 := x3
    have y4 := x4
    have HON := HON1
    have HTW := HTW1
    have HMW := HMW1
    have HBA := HBA1
    clear x0 x1 x2 x3 x4 HON1 HTW1 HMW1 HBA1
    cases htk : takesP ts y
    · have HA1 : Hid (acc1 ts 3 x y = []) := Lib.hid (by unfold acc1; rw [htk]; simp)
      go_wp2_with (at_builtin; fail)
      have z0 := y0
      have z1 := y1
      have z2 := y2
      have z3 := y3
      have z4 := y4
      have HO := HON
      have HBE := Lib.hid (Below.refl (bx + 1) W1)
      clear y0 y1 y2 y3 y4
      obtain ⟨w', rfl⟩ : ∃ w' : World, w' = W1 := ⟨_, rfl⟩
      have hsz' := HBE.out.size
      refine (l3Set_any _ _ _ _ _ _).mono ?_
      rintro e w5 ⟨rfl, hb5⟩
      obtain ⟨s, hs⟩ : ∃ s, s = setsP 3 x := ⟨_, rfl⟩
      have HSS := Lib.hid hs
      have HS2 := HS.out
      rw [← hs] at HS2 ⊢
      have HO5 := Lib.hid (HO.out.bel hb5)
      have HT5 := Lib.hid ((HTW.out.low HBE.out (by omega)).low hb5 (by omega))
      have HM5 := Lib.hid ((HMW.out.low HBE.out (by omega)).low hb5 (by omega))
      have HB5 := Lib.hid (HBA.out.trans ((HBE.out.mono (by rw [← HBX.out]; omega)).trans (hb5.mono (by rw [← HBX.out]; omega))))
      have hs5 := hb5.size
      clear z0 z1 z2 z3 z4 hs hb5
      by_cases hs0 : 0 ≤ s
      · have hs1 : decide (s ≥ 0) = true := by simpa using hs0
        have hsl := HS2 hs0
        obtain ⟨k, rfl⟩ : ∃ k : Nat, s = k := ⟨s.toNat, by omega⟩
        have hk6 : k < ts.length := by omega
        have ht := HT5.out
        obtain ⟨bt, ot, ct2, e, hbt, -, -, hct2⟩ := ht.get (i := (k : Nat)) (by omega) hsl
        injection e with e1 e9 e2
        subst e1 e2
        rw [Int.toNat_natCast] at hct2
        clear e9 hs0 hsl HS2 ht
        by_cases hty : typeOfP ts (k : Nat) = 2
        · rw [hty] at hct2
          obtain ⟨Am', cm', e, -, -, hrm⟩ := HM5.out
          injection e with e1 e9 e2
          subst e1 e2
          have hkM : k < M.length := by rw [HML.out]; exact hk6
          obtain ⟨b7, o7, rfl, hb7, hcell7⟩ := hrm.bool_at (k := k) hkM
          have d7 := hcell7 k hkM
          clear hcell7 hrm e9 hkM
          cases hbk : M.getD k false
          · rw [hbk] at d7
            have HL : Hid (accL ts 3 x y (fun v => M.getD v false) = []) := Lib.hid (by unfold accL acc2; rw [HA1.out, ← HSS.out, if_neg (fun h => by have h3 : M.getD k false = true := (by have h4 := h.2.2; rw [Int.toNat_natCast] at h4; exact h4); rw [hbk] at h3; cases h3), List.append_nil])
            clear hbk
            go_wp2_with (at_builtin; fail)
            go_ret
            exact ⟨_, rfl, by rw [HL.out]; exact HO5.out.toS (by simp), HB5.out⟩
          · rw [hbk] at d7
            have HL : Hid (accL ts 3 x y (fun v => M.getD v false) = [] ++ [⟨(k : Nat), true⟩]) := Lib.hid (by unfold accL acc2; rw [HA1.out, ← HSS.out, if_pos ⟨by omega, hty, by rw [Int.toNat_natCast]; exact hbk⟩])
            clear hbk
            go_wp2_with (at_builtin; go_must (refine wpList_push_ax rfl (.tmp 69) (.tmp 72) rfl HO5.out (by omega) (by simp) (k : Nat) true rfl rfl ?_); intro v9 w9 hP9 hE9)
            go_ret
            exact ⟨_, rfl, by rw [HL.out]; exact hP9.toS (by simp), HB5.out.trans (hE9.mono (by rw [← HBX.out]; omega))⟩
        · have hty2 : ((typeOfP ts (k : Nat)) == 2) = false := by simpa using hty
          have HL : Hid (accL ts 3 x y (fun v => M.getD v false) = []) := Lib.hid (by unfold accL acc2; rw [HA1.out, ← HSS.out, if_neg (fun h => hty h.2.1), List.append_nil])
          clear hty
          go_wp2_with (at_builtin; fail)
          go_ret
          exact ⟨_, rfl, by rw [HL.out]; exact HO5.out.toS (by simp), HB5.out⟩
      · have hs1 : decide (s ≥ 0) = false := by simpa using hs0
        have HL : Hid (accL ts 3 x y (fun v => M.getD v false) = []) := Lib.hid (by unfold accL acc2; rw [HA1.out, ← HSS.out, if_neg (fun h => hs0 h.1), List.append_nil])
        clear hs0 HS2
        go_wp2_with (at_builtin; fail)
        go_ret
        exact ⟨_, rfl, by rw [HL.out]; exact HO5.out.toS (by simp), HB5.out⟩
    · have HA1 : Hid (acc1 ts 3 x y = [⟨y, true⟩]) := Lib.hid (by unfold acc1; rw [htk]; simp)
      go_wp2_with (at_builtin; go_must (refine wpList_push_ax rfl (.tmp 46) (.tmp 50) rfl HON.out (by omega) (by simp) y true rfl rfl ?_); intro v' w' hP' hE'; (have z0 := (hE'.cell (p := ⟨bx, 0, none⟩) (by show bx < bx + 1; omega)).trans y0); (have z1 := (hE'.cell (p := ⟨bx, 1, none⟩) (by show bx < bx + 1; omega)).trans y1); (have z2 := (hE'.cell (p := ⟨bx, 2, none⟩) (by show bx < bx + 1; omega)).trans y2); (have z3 := (hE'.cell (p := ⟨bx, 3, none⟩) (by show bx < bx + 1; omega)).trans y3); (have z4 := (hE'.cell (p := ⟨bx, 4, none⟩) (by show bx < bx + 1; omega)).trans y4); (have HO := Lib.hid hP'); (have HBE := Lib.hid hE'); clear hP' hE' y0 y1 y2 y3 y4)
      have hsz' := HBE.out.size
      refine (l3Set_any _ _ _ _ _ _).mono ?_
      rintro e w5 ⟨rfl, hb5⟩
      obtain ⟨s, hs⟩ : ∃ s, s = setsP 3 x := ⟨_, rfl⟩
      have HSS := Lib.hid hs
      have HS2 := HS.out
      rw [← hs] at HS2 ⊢
      have HO5 := Lib.hid (HO.out.bel hb5)
      have HT5 := Lib.hid ((HTW.out.low HBE.out (by omega)).low hb5 (by omega))
      have HM5 := Lib.hid ((HMW.out.low HBE.out (by omega)).low hb5 (by omega))
      have HB5 := Lib.hid (HBA.out.trans ((HBE.out.mono (by rw [← HBX.out]; omega)).trans (hb5.mono (by rw [← HBX.out]; omega))))
      have hs5 := hb5.size
      clear z0 z1 z2 z3 z4 hs hb5
      by_cases hs0 : 0 ≤ s
      · have hs1 : decide (s ≥ 0) = true := by simpa using hs0
        have hsl := HS2 hs0
        obtain ⟨k, rfl⟩ : ∃ k : Nat, s = k := ⟨s.toNat, by omega⟩
        have hk6 : k < ts.length := by omega
        have ht := HT5.out
        obtain ⟨bt, ot, ct2, e, hbt, -, -, hct2⟩ := ht.get (i := (k : Nat)) (by omega) hsl
        injection e with e1 e9 e2
        subst e1 e2
        rw [Int.toNat_natCast] at hct2
        clear e9 hs0 hsl HS2 ht
        by_cases hty : typeOfP ts (k : Nat) = 2
        · rw [hty] at hct2
          obtain ⟨Am', cm', e, -, -, hrm⟩ := HM5.out
          injection e with e1 e9 e2
          subst e1 e2
          have hkM : k < M.length := by rw [HML.out]; exact hk6
          obtain ⟨b7, o7, rfl, hb7, hcell7⟩ := hrm.bool_at (k := k) hkM
          have d7 := hcell7 k hkM
          clear hcell7 hrm e9 hkM
          cases hbk : M.getD k false
          · rw [hbk] at d7
            have HL : Hid (accL ts 3 x y (fun v => M.getD v false) = [⟨y, true⟩]) := Lib.hid (by unfold accL acc2; rw [HA1.out, ← HSS.out, if_neg (fun h => by have h3 : M.getD k false = true := (by have h4 := h.2.2; rw [Int.toNat_natCast] at h4; exact h4); rw [hbk] at h3; cases h3), List.append_nil])
            clear hbk
            go_wp2_with (at_builtin; fail)
            go_ret
            exact ⟨_, rfl, by rw [HL.out]; exact HO5.out.toS (by simp), HB5.out⟩
          · rw [hbk] at d7
            have HL : Hid (accL ts 3 x y (fun v => M.getD v false) = [⟨y, true⟩] ++ [⟨(k : Nat), true⟩]) := Lib.hid (by unfold accL acc2; rw [HA1.out, ← HSS.out, if_pos ⟨by omega, hty, by rw [Int.toNat_natCast]; exact hbk⟩])
            clear hbk
            go_wp2_with (at_builtin; go_must (refine wpList_push_ax rfl (.tmp 69) (.tmp 72) rfl HO5.out (by omega) (by simp) (k : Nat) true rfl rfl ?_); intro v9 w9 hP9 hE9)
            go_ret
            exact ⟨_, rfl, by rw [HL.out]; exact hP9.toS (by simp), HB5.out.trans (hE9.mono (by rw [← HBX.out]; omega))⟩
        · have hty2 : ((typeOfP ts (k : Nat)) == 2) = false := by simpa using hty
          have HL : Hid (accL ts 3 x y (fun v => M.getD v false) = [⟨y, true⟩]) := Lib.hid (by unfold accL acc2; rw [HA1.out, ← HSS.out, if_neg (fun h => hty h.2.1), List.append_nil])
          clear hty
          go_wp2_with (at_builtin; fail)
          go_ret
          exact ⟨_, rfl, by rw [HL.out]; exact HO5.out.toS (by simp), HB5.out⟩
      · have hs1 : decide (s ≥ 0) = false := by simpa using hs0
        have HL : Hid (accL ts 3 x y (fun v => M.getD v false) = [⟨y, true⟩]) := Lib.hid (by unfold accL acc2; rw [HA1.out, ← HSS.out, if_neg (fun h => hs0 h.1), List.append_nil])
        clear hs0 HS2
        go_wp2_with (at_builtin; fail)
        go_ret
        exact ⟨_, rfl, by rw [HL.out]; exact HO5.out.toS (by simp), HB5.out⟩
  · obtain ⟨h3, h4, h5, h6', h7, h8⟩ := ho
    have k3 : (op == 3) = false := by simpa using h3
    have k4 : (op == 4) = false := by simpa using h4
    have k5 : (op == 5) = false := by simpa using h5
    have k6 : (op == 6) = false := by simpa using h6'
    have k7 : (op == 7) = false := by simpa using h7
    have k8 : (op == 8) = false := by simpa using h8
    have HA1 : Hid (acc1 ts op x y = []) := Lib.hid (by unfold acc1; simp [h3, h4, h5, h6', h7, h8])
    clear h3 h4 h5 h6' h7 h8
    go_wp2_with (at_builtin; fail)
    have z0 := y0
    have z1 := y1
    have z2 := y2
    have z3 := y3
    have z4 := y4
    have HO := HON
    have HBE := Lib.hid (Below.refl (bx + 1) W0)
    clear y0 y1 y2 y3 y4
    obtain ⟨w', rfl⟩ : ∃ w' : World, w' = W0 := ⟨_, rfl⟩
    have hsz' := HBE.out.size
    refine (l3Set_any _ _ _ _ _ _).mono ?_
    rintro e w5 ⟨rfl, hb5⟩
    obtain ⟨s, hs⟩ : ∃ s, s = setsP op x := ⟨_, rfl⟩
    have HSS := Lib.hid hs
    have HS2 := HS.out
    rw [← hs] at HS2 ⊢
    have HO5 := Lib.hid (HO.out.bel hb5)
    have HT5 := Lib.hid ((HTW.out.low HBE.out (by omega)).low hb5 (by omega))
    have HM5 := Lib.hid ((HMW.out.low HBE.out (by omega)).low hb5 (by omega))
    have HB5 := Lib.hid (HBA.out.trans ((HBE.out.mono (by rw [← HBX.out]; omega)).trans (hb5.mono (by rw [← HBX.out]; omega))))
    have hs5 := hb5.size
    clear z0 z1 z2 z3 z4 hs hb5
    by_cases hs0 : 0 ≤ s
    · have hs1 : decide (s ≥ 0) = true := by simpa using hs0
      have hsl := HS2 hs0
      obtain ⟨k, rfl⟩ : ∃ k : Nat, s = k := ⟨s.toNat, by omega⟩
      have hk6 : k < ts.length := by omega
      have ht := HT5.out
      obtain ⟨bt, ot, ct2, e, hbt, -, -, hct2⟩ := ht.get (i := (k : Nat)) (by omega) hsl
      injection e with e1 e9 e2
      subst e1 e2
      rw [Int.toNat_natCast] at hct2
      clear e9 hs0 hsl HS2 ht
      by_cases hty : typeOfP ts (k : Nat) = 2
      · rw [hty] at hct2
        obtain ⟨Am', cm', e, -, -, hrm⟩ := HM5.out
        injection e with e1 e9 e2
        subst e1 e2
        have hkM : k < M.length := by rw [HML.out]; exact hk6
        obtain ⟨b7, o7, rfl, hb7, hcell7⟩ := hrm.bool_at (k := k) hkM
        have d7 := hcell7 k hkM
        clear hcell7 hrm e9 hkM
        cases hbk : M.getD k false
        · rw [hbk] at d7
          have HL : Hid (accL ts op x y (fun v => M.getD v false) = []) := Lib.hid (by unfold accL acc2; rw [HA1.out, ← HSS.out, if_neg (fun h => by have h3 : M.getD k false = true := (by have h4 := h.2.2; rw [Int.toNat_natCast] at h4; exact h4); rw [hbk] at h3; cases h3), List.append_nil])
          clear hbk
          go_wp2_with (at_builtin; fail)
          go_ret
          exact ⟨_, rfl, by rw [HL.out]; exact HO5.out.toS (by simp), HB5.out⟩
        · rw [hbk] at d7
          have HL : Hid (accL ts op x y (fun v => M.getD v false) = [] ++ [⟨(k : Nat), true⟩]) := Lib.hid (by unfold accL acc2; rw [HA1.out, ← HSS.out, if_pos ⟨by omega, hty, by rw [Int.toNat_natCast]; exact hbk⟩])
          clear hbk
          go_wp2_with (at_builtin; go_must (refine wpList_push_ax rfl (.tmp 69) (.tmp 72) rfl HO5.out (by omega) (by simp) (k : Nat) true rfl rfl ?_); intro v9 w9 hP9 hE9)
          go_ret
          exact ⟨_, rfl, by rw [HL.out]; exact hP9.toS (by simp), HB5.out.trans (hE9.mono (by rw [← HBX.out]; omega))⟩
      · have hty2 : ((typeOfP ts (k : Nat)) == 2) = false := by simpa using hty
        have HL : Hid (accL ts op x y (fun v => M.getD v false) = []) := Lib.hid (by unfold accL acc2; rw [HA1.out, ← HSS.out, if_neg (fun h => hty h.2.1), List.append_nil])
        clear hty
        go_wp2_with (at_builtin; fail)
        go_ret
        exact ⟨_, rfl, by rw [HL.out]; exact HO5.out.toS (by simp), HB5.out⟩
    · have hs1 : decide (s ≥ 0) = false := by simpa using hs0
      have HL : Hid (accL ts op x y (fun v => M.getD v false) = []) := Lib.hid (by unfold accL acc2; rw [HA1.out, ← HSS.out, if_neg (fun h => hs0 h.1), List.append_nil])
      clear hs0 HS2
      go_wp2_with (at_builtin; fail)
      go_ret
      exact ⟨_, rfl, by rw [HL.out]; exact HO5.out.toS (by simp), HB5.out⟩

end Go.Proofs.Ytfioaohadanjmaa

/- spec.ConflictsAt. -/
namespace Go.Proofs.Ytfioaohadanjmaa
open Go.RowKit

end Go.Proofs.Ytfioaohadanjmaa

/- Words: rows of bools, states of loans, points, beside a growing slice of issues. -/
namespace Go.Proofs.Ytfioaohadanjmaa
open Go.RowKit

theorem PtS.imp {w w' : World} {B : Nat} {v : Value} {pts : List Pt} (h : PtS w B v pts) (hk : Kp w w') : PtS w' B v pts := by
  obtain ⟨A, c, nv, e, h1, h2, h3, h4⟩ := h
  refine ⟨A, c, nv, e, h1, h2, fun hn => ?_, fun i hi => (h4 i hi).imp hk⟩
  obtain ⟨b, off, e, hb, hc⟩ := h3 hn
  refine ⟨b, off, e, hb, fun i hi => ?_⟩
  obtain ⟨a0, a1, a2, a3, a4⟩ := hc i hi
  exact ⟨hk.1 _ _ _ a0, hk.1 _ _ _ a1, hk.1 _ _ _ a2, hk.1 _ _ _ a3, hk.1 _ _ _ a4⟩
abbrev Any : Nat → Prop := fun _ => True
theorem BoolS.toX {w : World} {B : Nat} {v : Value} {l : List Bool} (h : BoolS w B v l) : BoolX w Any v l := by
  obtain ⟨A, c, e, h1, h2, h3⟩ := h
  refine ⟨A, c, e, h1, h2, fun hn => ?_⟩
  obtain ⟨b, off, e, hb, hc⟩ := h3.2 hn
  have hcell : ∀ j, j < l.length → w.cell? ⟨b, off + j, none⟩ = some (.bool (l.getD j false)) := fun j hj => hc j _ (by rw [List.getElem?_map, List.getElem?_eq_getElem hj, getD_lt hj]; rfl)
  exact ⟨b, off, e, trivial, cell_lt (hcell 0 hn), hcell⟩
theorem BoolX.kp {w w' : World} {P : Nat → Prop} {v : Value} {l : List Bool} (h : BoolX w P v l) (hk : Kp w w') : BoolX w' Any v l := by
  obtain ⟨A, c, e, h1, h2, h3⟩ := h
  refine ⟨A, c, e, h1, h2, fun hn => ?_⟩
  obtain ⟨b, off, e, _, hb, hc⟩ := h3 hn
  exact ⟨b, off, e, trivial, Nat.lt_of_lt_of_le hb hk.2, fun j hj => hk.1 _ _ _ (hc j hj)⟩
theorem RwX.kp {w w' : World} {P : Nat → Prop} {v : Value} {l : List (List Bool)} (h : RwX w P v l) (hk : Kp w w') : RwX w' Any v l := by
  obtain ⟨A, c, rv, e, h1, h2, h3⟩ := h
  refine ⟨A, c, rv, e, h1, fun hn => ?_, fun i hi => (h3 i hi).kp hk⟩
  obtain ⟨b, off, e, _, hb, hc⟩ := h2 hn
  exact ⟨b, off, e, trivial, Nat.lt_of_lt_of_le hb hk.2, fun j hj => hk.1 _ _ _ (hc j hj)⟩
theorem FQ.toR {W : World} {G S : Nat} {rows : List (List Bool)} {seen : List Bool} {vs : List Value} {vq : Value} {q : List Nat} (h : FQ W G S rows seen vs vq q) (h6 : ∀ i, i < rows.length → (rows.getD i []).length ≤ 1000) : RwX W Any (.slice (some ⟨G, 0, none⟩) rows.length rows.length) rows := by
  have hG := h.out.lt
  refine ⟨_, _, fun i => vs.getD i (.slice none 0 0), rfl, Nat.le_refl _, fun hn => ⟨G, 0, rfl, trivial, hG, fun i hi => ?_⟩, fun i hi => ?_⟩
  · obtain ⟨A, c, e, -⟩ := (h.row i hi).slice
    show W.cell? ⟨G, 0 + i, none⟩ = some (vs.getD i (.slice none 0 0))
    rw [e, Nat.zero_add]
    exact h.cellG hi e
  · have := (h.row i hi).toS (by have := h6 i hi; omega)
    exact BoolS.toX this
/-- the slice v reads as states, one for each point -/
def S4 (w : World) (v : Value) (n m : Nat) (R : List (List (List Bool))) (Q : List (List Bool)) : Prop :=
  ∃ A c, v = .slice A n c ∧ n ≤ c ∧ ∀ k, k < n → ∃ g Av cv pk, A = some ⟨g, 0, none⟩ ∧ g < w.heap.size ∧ w.cell? ⟨g, k * 2, none⟩ = some (.slice Av m cv) ∧ w.cell? ⟨g, k * 2 + 1, none⟩ = some (.slice (some ⟨pk, 0, none⟩) n n) ∧ m ≤ cv ∧
    RwX w Any (.slice Av m cv) (R.getD k []) ∧ BoolX w Any (.slice (some ⟨pk, 0, none⟩) n n) (Q.getD k [])
theorem S4.kp {w w' : World} {v : Value} {n m : Nat} {R : List (List (List Bool))} {Q : List (List Bool)} (h : S4 w v n m R Q) (hk : Kp w w') : S4 w' v n m R Q := by
  obtain ⟨A, c, e, h1, h2⟩ := h
  refine ⟨A, c, e, h1, fun k hkn => ?_⟩
  obtain ⟨g, Av, cv, pk, e1, hg, c0, c1, hcv, hr, hq⟩ := h2 k hkn
  exact ⟨g, Av, cv, pk, e1, Nat.lt_of_lt_of_le hg hk.2, hk.1 _ _ _ c0, hk.1 _ _ _ c1, hcv, hr.kp hk, hq.kp hk⟩
theorem B4.toS4 {w : World} {base m : Nat} {vo : Value} {ps : List (Value × Nat)} {rbs : List (List Nat)} {R : List (List (List Bool))} {Q : List (List Bool)} {ts : List Int} {pts : List Pt} (h : B4 w base vo ps rbs pts.length R Q) (hi : R4I ts pts R Q) (hm : ts.length = m) (hn : pts.length ≤ 1000) : S4 w vo pts.length m R Q := by
  subst hm
  obtain ⟨A, c, rfl, hc⟩ := h.slice
  rw [hi.len] at hc ⊢
  refine ⟨A, c, rfl, hc, fun k hk => ?_⟩
  have hkR : k < R.length := by rw [hi.len]; exact hk
  have hrk := hi.row k hk
  obtain ⟨g, ea, hg, hgl, -, hgk, hgk2⟩ := h.at_ hkR
  have hx := (h.mid k hkR).toX (fun i hi' => hi.inn k i hk (by rw [← hrk]; exact hi')) (by omega)
  have hp := (h.plc k hkR).1
  obtain ⟨Av, cv, e, hcv⟩ := hx.slice
  rw [hrk] at hcv e
  rw [e] at hgk hx
  refine ⟨g, Av, cv, _, ea, hgl, hgk, hgk2, hcv, hx.kp (Kp.refl _), ?_⟩
  have hq := hi.innQ k hk
  have := hp.bools (c := pts.length) (by rw [hq]; omega) (by rw [hq]; exact Nat.le_refl _)
  rw [hq] at this
  exact this.toX
/-- a slice of issues that grows beside other memory -/
def OutS (w0 w : World) (base : Nat) (v : Value) (l : List Iss) : Prop := Out w0 w base 35 3 v l.length (isCells l)
theorem wpList_push_outS {ops : Array Oper} {rest : List Oper} {o : Oper} {a : Act} {Q : Exit → Act → World → Prop} {w0 w : World} {base : Nat} {vo : Value} {ls : List Iss} (hgd : o.guard = none) (s x : Operand)
    (ho : o.op = .call { callee := .builtin .append, args := #[s, x], argTypes := #[39, 39] })
    (hP : OutS w0 w base vo ls) (hn : ls.length ≤ 100000) (p u y : Int) (hs : a.eval s = vo) (hx : a.eval x = .slice (some ⟨w.heap.size, 0, none⟩) 1 1)
    (h : ∀ (v' : Value) (w' : World), OutS w0 w' base v' (ls ++ [⟨p, u, y⟩]) → (∀ (b : Nat) (cs : Array Value) (T : TypeId), w.heap[b]? = some (Obj.cells cs T (0, 0)) → T ≠ 35 → w'.heap[b]? = some (Obj.cells cs T (0, 0))) → wpList Try.prog ops Q rest (a.put o.dst v') w') :
    wpList Try.prog ops Q (o :: rest) a (w.alloc (.cells #[.int .i64 p, .int .i64 u, .int .i64 y] 35)) :=
  wpList_push_outK hgd s x ho Try.underlying39 Try.infoisCells rfl (by omega) (by omega) hP hn [.int .i64 p, .int .i64 u, .int .i64 y] rfl (by simp [Value.oneCell']) hs hx fun v' w' h' hk => h v' w' (by
    unfold OutS
    rw [isCells_append, List.length_append]
    exact h') hk
theorem OutS.own {w0 w : World} {base : Nat} {v : Value} {l : List Iss} (h : OutS w0 w base v l) : OIs w base v l := Out.own h
theorem OutS.slice {w0 w : World} {base : Nat} {v : Value} {l : List Iss} (h : OutS w0 w base v l) : ∃ A c, v = .slice A l.length c ∧ l.length ≤ c := Out.lenc h
end Go.Proofs.Ytfioaohadanjmaa

/- Issues: spec.l5Check. -/
namespace Go.Proofs.Ytfioaohadanjmaa
open Go.RowKit

end Go.Proofs.Ytfioaohadanjmaa

/- Issues: spec.CheckPlain. -/
namespace Go.Proofs.Ytfioaohadanjmaa
open Go.RowKit

theorem ORw.toR {w : World} {base : Nat} {v : Value} {vs : List Value} {rows : List (List Bool)} (h : ORw w base v vs rows) (h6 : ∀ i, i < rows.length → (rows.getD i []).length ≤ 1000) : RwX w Any v rows := by
  rcases h.own.2 with ⟨rfl, h0⟩ | ⟨g, cap, cur, rfl, hb, hh, hc, hm, hsz, htk⟩
  · exact ⟨none, 0, fun _ => .slice none 0 0, by rw [h0], by omega, fun hn => by omega, fun i hi => by omega⟩
  · refine ⟨_, cap, fun i => vs.getD i (.slice none 0 0), rfl, hc, fun hn => ⟨g, 0, rfl, trivial, (h.own.lt g rfl).2, fun i hi => ?_⟩, fun i hi => ?_⟩
    · rw [Nat.zero_add]
      refine (World.ownsRow.cellAt h.own i (by omega)).trans ?_
      show vs[i]? = some (vs.getD i (.slice none 0 0))
      rw [List.getElem?_eq_getElem (by rw [h.len]; exact hi), getD_lt (by rw [h.len]; exact hi)]
    · exact BoolS.toX ((h.row i hi).toS (by have := h6 i hi; omega))
end Go.Proofs.Ytfioaohadanjmaa

/- Issues: spec.CheckProgram, spec.Accepts, FirstIssue both. -/
namespace Go.Proofs.Ytfioaohadanjmaa
open Go.RowKit

end Go.Proofs.Ytfioaohadanjmaa
