import Derived.Test.YtidlifijgooceaaE48
import Derived.Test.YtidlifijgooceaaE52
set_option linter.unusedVariables false

/- spec.l4Accesses, spec.AccessesOf. -/
namespace Go.Proofs.Ytidlifijgooceaa
open Go.RowKit

theorem use_takes (ts : List Int) (x y : Int) : useP ts 3 x y y = if takesP ts y = true then 2 else 1 := by
  unfold useP takesP
  simp
set_option maxHeartbeats 1000000 in
set_option maxRecDepth 100000 in
theorem l4Accesses_any (At : Option Addr) (ct : Nat) (ts : List Int) (B : Nat) (op x y n : Int) (A : Option Addr) (m c : Nat) (Am : Option Addr) (cm : Nat) (M : List Bool) (w : World) (ht : IntS w B (.slice At ts.length ct) ts) (hM : BoolS w B (.slice Am ts.length cm) M) (hml : M.length = ts.length) (hB : B ≤ w.heap.size) (h6 : ts.length ≤ 6) (hs : 0 ≤ setsP op x → setsP op x < ts.length) (hy : op = 3 → 0 ≤ y ∧ y < ts.length) :
    Calls Try.prog 99 #[.slice At ts.length ct, .agg #[.int .i64 op, .int .i64 x, .int .i64 y, .int .i64 n, .slice A m c], .slice Am ts.length cm] w (AxRet w (accL ts op x y (fun v => M.getD v false))) := by
  have HT := Lib.hid ht
  have HM := Lib.hid hM
  have HML := Lib.hid hml
  have HS := Lib.hid hs
  have HY := Lib.hid hy
  clear ht hM hml hs hy
  go_enter Try.func99, Try.ntmps99
  go_upto_region 2 with (at_builtin; fail)
  have hbA := bel_a w (.cells #[.int .i64 op, .int .i64 x, .int .i64 y, .int .i64 n, .slice A m c] 100)
  have hRA := heap_alloc_new w (.cells #[.int .i64 op, .int .i64 x, .int .i64 y, .int .i64 n, .slice A m c] 100)
  have hsA : (w.alloc (.cells #[.int .i64 op, .int .i64 x, .int .i64 y, .int .i64 n, .slice A m c] 100)).heap.size = w.heap.size + 1 := by simp
  have hON := OAx.empty (w.alloc (.cells #[.int .i64 op, .int .i64 x, .int .i64 y, .int .i64 n, .slice A m c] 100)) (w.heap.size + 1) (by simp)
  have hbE := bel_a (w.alloc (.cells #[.int .i64 op, .int .i64 x, .int .i64 y, .int .i64 n, .slice A m c] 100)) (.cells #[] 156)
  have hsE : ((w.alloc (.cells #[.int .i64 op, .int .i64 x, .int .i64 y, .int .i64 n, .slice A m c] 100)).alloc (.cells #[] 156)).heap.size = w.heap.size + 2 := by simp
  have hRE := row_below hRA hbE
  have hbA2 := hbA.trans (hbE.mono (by simp))
  rw [hsA] at hON
  clear hRA hbA hbE hsA
  generalize (w.alloc (.cells #[.int .i64 op, .int .i64 x, .int .i64 y, .int .i64 n, .slice A m c] 100)).alloc (.cells #[] 156) = W0 at *
  obtain ⟨bx, hbx⟩ : ∃ bx, bx = w.heap.size := ⟨_, rfl⟩
  rw [← hbx] at hRE hsE hON ⊢
  have y0 : W0.cell? ⟨bx, 0, none⟩ = some (.int .i64 op) := by rw [cell_of_row _ _ _ _ _ _ hRE]; rfl
  have y1 : W0.cell? ⟨bx, 1, none⟩ = some (.int .i64 x) := by rw [cell_of_row _ _ _ _ _ _ hRE]; rfl
  have y2 : W0.cell? ⟨bx, 2, none⟩ = some (.int .i64 y) := by rw [cell_of_row _ _ _ _ _ _ hRE]; rfl
  have y3 : W0.cell? ⟨bx, 3, none⟩ = some (.int .i64 n) := by rw [cell_of_row _ _ _ _ _ _ hRE]; rfl
  have y4 : W0.cell? ⟨bx, 4, none⟩ = some (.slice A m c) := by rw [cell_of_row _ _ _ _ _ _ hRE]; rfl
  have HBA := Lib.hid hbA2
  have HON := Lib.hid hON
  have HBX := Lib.hid hbx
  have HTW := Lib.hid (HT.out.low hbA2 hB)
  have HMW := Lib.hid (HM.out.low hbA2 hB)
  have hBx : B ≤ bx := by omega
  have HSA := Lib.hid hsE
  have hBW : B ≤ W0.heap.size := by omega
  have hbW : bx + 1 ≤ W0.heap.size := by omega
  clear hRE hbA2 hbx hB hsE hON
  rcases (by omega : op = 4 ∨ op = 6 ∨ op = 5 ∨ op = 7 ∨ op = 8 ∨ op = 3 ∨ (op ≠ 3 ∧ op ≠ 4 ∧ op ≠ 5 ∧ op ≠ 6 ∧ op ≠ 7 ∧ op ≠ 8)) with rfl | rfl | rfl | rfl | rfl | rfl | ho
  · have HA1 : Hid (acc1 ts 4 x y = [⟨y, false⟩]) := Lib.hid (by unfold acc1; simp)
    go_wp2_with (at_builtin; go_must (refine wpList_push_ax rfl (.tmp 15) (.tmp 19) rfl HON.out (by omega) (by simp) y false rfl rfl ?_); intro v' w' hP' hE'; (have z0 := (hE'.cell (p := ⟨bx, 0, none⟩) (by show bx < bx + 1; omega)).trans y0); (have z1 := (hE'.cell (p := ⟨bx, 1, none⟩) (by show bx < bx + 1; omega)).trans y1); (have z2 := (hE'.cell (p := ⟨bx, 2, none⟩) (by show bx < bx + 1; omega)).trans y2); (have z3 := (hE'.cell (p := ⟨bx, 3, none⟩) (by show bx < bx + 1; omega)).trans y3); (have z4 := (hE'.cell (p := ⟨bx, 4, none⟩) (by show bx < bx + 1; omega)).trans y4); (have HO := Lib.hid hP'); (have HBE := Lib.hid hE'); clear hP' hE' y0 y1 y2 y3 y4)
    have hsz' := HBE.out.size
    refine (l3Set_any _ _ _ _ _ _).mono ?_
    rintro e w5 ⟨rfl, hb5⟩
    obtain ⟨s, hs⟩ : ∃ s, s = setsP 4 x := ⟨_, rfl⟩
    have HSS := Lib.hid hs
    have HS2 := HS.out
    rw [← hs] at HS2 ⊢
    have HO5 := Lib.hid (HO.out.bel hb5)
    have HT5 := Lib.hid ((HTW.out.low HBE.out (by omega)).low hb5 (by omega))
    have HM5 := Lib.hid ((HMW.out.low HBE.out (by omega)).low hb5 (by omega))
    have HB5 := Lib.hid (HBA.out.trans ((HBE.out.mono (by rw [← HBX.out]; omega)).trans (hb5.mono (by rw [← HBX.out]; omega))))
    have hs5 := hb5.size
    clear z0 z1 z2 z3 z4 hs hb5
    by_cases hs0 : 0 ≤ s
    · have hs1 : decide (s ≥ 0) = true := by simpa using hs0
      have hsl := HS2 hs0
      obtain ⟨k, rfl⟩ : ∃ k : Nat, s = k := ⟨s.toNat, by omega⟩
      have hk6 : k < ts.length := by omega
      have ht := HT5.out
      obtain ⟨bt, ot, ct2, e, hbt, -, -, hct2⟩ := ht.get (i := (k : Nat)) (by omega) hsl
      injection e with e1 e9 e2
      subst e1 e2
      rw [Int.toNat_natCast] at hct2
      clear e9 hs0 hsl HS2 ht
      by_cases hty : typeOfP ts (k : Nat) = 2
      · rw [hty] at hct2
        obtain ⟨Am', cm', e, -, -, hrm⟩ := HM5.out
        injection e with e1 e9 e2
        subst e1 e2
        have hkM : k < M.length := by rw [HML.out]; exact hk6
        obtain ⟨b7, o7, rfl, hb7, hcell7⟩ := hrm.bool_at (k := k) hkM
        have d7 := hcell7 k hkM
        clear hcell7 hrm e9 hkM
        cases hbk : M.getD k false
        · rw [hbk] at d7
          have HL : Hid (accL ts 4 x y (fun v => M.getD v false) = [⟨y, false⟩]) := Lib.hid (by unfold accL acc2; rw [HA1.out, ← HSS.out, if_neg (fun h => by have h3 : M.getD k false = true := (by have h4 := h.2.2; rw [Int.toNat_natCast] at h4; exact h4); rw [hbk] at h3; cases h3), List.append_nil])
          clear hbk
          go_wp2_with (at_builtin; fail)
          go_ret
          exact ⟨_, rfl, by rw [HL.out]; exact HO5.out.toS (by simp), HB5.out⟩
        · rw [hbk] at d7
          have HL : Hid (accL ts 4 x y (fun v => M.getD v false) = [⟨y, false⟩] ++ [⟨(k : Nat), true⟩]) := Lib.hid (by unfold accL acc2; rw [HA1.out, ← HSS.out, if_pos ⟨by omega, hty, by rw [Int.toNat_natCast]; exact hbk⟩])
          clear hbk
          go_wp2_with (at_builtin; go_must (refine wpList_push_ax rfl (.tmp 69) (.tmp 72) rfl HO5.out (by omega) (by simp) (k : Nat) true rfl rfl ?_); intro v9 w9 hP9 hE9)
          go_ret
          exact ⟨_, rfl, by rw [HL.out]; exact hP9.toS (by simp), HB5.out.trans (hE9.mono (by rw [← HBX.out]; omega))⟩
      · have hty2 : ((typeOfP ts (k : Nat)) == 2) = false := by simpa using hty
        have HL : Hid (accL ts 4 x y (fun v => M.getD v false) = [⟨y, false⟩]) := Lib.hid (by unfold accL acc2; rw [HA1.out, ← HSS.out, if_neg (fun h => hty h.2.1), List.append_nil])
        clear hty
        go_wp2_with (at_builtin; fail)
        go_ret
        exact ⟨_, rfl, by rw [HL.out]; exact HO5.out.toS (by simp), HB5.out⟩
    · have hs1 : decide (s ≥ 0) = false := by simpa using hs0
      have HL : Hid (accL ts 4 x y (fun v => M.getD v false) = [⟨y, false⟩]) := Lib.hid (by unfold accL acc2; rw [HA1.out, ← HSS.out, if_neg (fun h => hs0 h.1), List.append_nil])
      clear hs0 HS2
      go_wp2_with (at_builtin; fail)
      go_ret
      exact ⟨_, rfl, by rw [HL.out]; exact HO5.out.toS (by simp), HB5.out⟩
  · have HA1 : Hid (acc1 ts 6 x y = [⟨y, false⟩]) := Lib.hid (by unfold acc1; simp)
    go_wp2_with (at_builtin; go_must (refine wpList_push_ax rfl (.tmp 15) (.tmp 19) rfl HON.out (by omega) (by simp) y false rfl rfl ?_); intro v' w' hP' hE'; (have z0 := (hE'.cell (p := ⟨bx, 0, none⟩) (by show bx < bx + 1; omega)).trans y0); (have z1 := (hE'.cell (p := ⟨bx, 1, none⟩) (by show bx < bx + 1; omega)).trans y1); (have z2 := (hE'.cell (p := ⟨bx, 2, none⟩) (by show bx < bx + 1; omega)).trans y2); (have z3 := (hE'.cell (p := ⟨bx, 3, none⟩) (by show bx < bx + 1; omega)).trans y3); (have z4 := (hE'.cell (p := ⟨bx, 4, none⟩) (by show bx < bx + 1; omega)).trans y4); (have HO := Lib.hid hP'); (have HBE := Lib.hid hE'); clear hP' hE' y0 y1 y2 y3 y4)
    have hsz' := HBE.out.size
    refine (l3Set_any _ _ _ _ _ _).mono ?_
    rintro e w5 ⟨rfl, hb5⟩
    obtain ⟨s, hs⟩ : ∃ s, s = setsP 6 x := ⟨_, rfl⟩
    have HSS := Lib.hid hs
    have HS2 := HS.out
    rw [← hs] at HS2 ⊢
    have HO5 := Lib.hid (HO.out.bel hb5)
    have HT5 := Lib.hid ((HTW.out.low HBE.out (by omega)).low hb5 (by omega))
    have HM5 := Lib.hid ((HMW.out.low HBE.out (by omega)).low hb5 (by omega))
    have HB5 := Lib.hid (HBA.out.trans ((HBE.out.mono (by rw [← HBX.out]; omega)).trans (hb5.mono (by rw [← HBX.out]; omega))))
    have hs5 := hb5.size
    clear z0 z1 z2 z3 z4 hs hb5
    by_cases hs0 : 0 ≤ s
    · have hs1 : decide (s ≥ 0) = true := by simpa using hs0
      have hsl := HS2 hs0
      obtain ⟨k, rfl⟩ : ∃ k : Nat, s = k := ⟨s.toNat, by omega⟩
      have hk6 : k < ts.length := by omega
      have ht := HT5.out
      obtain ⟨bt, ot, ct2, e, hbt, -, -, hct2⟩ := ht.get (i := (k : Nat)) (by omega) hsl
      injection e with e1 e9 e2
      subst e1 e2
      rw [Int.toNat_natCast] at hct2
      clear e9 hs0 hsl HS2 ht
      by_cases hty : typeOfP ts (k : Nat) = 2
      · rw [hty] at hct2
        obtain ⟨Am', cm', e, -, -, hrm⟩ := HM5.out
        injection e with e1 e9 e2
        subst e1 e2
        have hkM : k < M.length := by rw [HML.out]; exact hk6
        obtain ⟨b7, o7, rfl, hb7, hcell7⟩ := hrm.bool_at (k := k) hkM
        have d7 := hcell7 k hkM
        clear hcell7 hrm e9 hkM
        cases hbk : M.getD k false
        · rw [hbk] at d7
          have HL : Hid (accL ts 6 x y (fun v => M.getD v false) = [⟨y, false⟩]) := Lib.hid (by unfold accL acc2; rw [HA1.out, ← HSS.out, if_neg (fun h => by have h3 : M.getD k false = true := (by have h4 := h.2.2; rw [Int.toNat_natCast] at h4; exact h4); rw [hbk] at h3; cases h3), List.append_nil])
          clear hbk
          go_wp2_with (at_builtin; fail)
          go_ret
          exact ⟨_, rfl, by rw [HL.out]; exact HO5.out.toS (by simp), HB5.out⟩
        · rw [hbk] at d7
          have HL : Hid (accL ts 6 x y (fun v => M.getD v false) = [⟨y, false⟩] ++ [⟨(k : Nat), true⟩]) := Lib.hid (by unfold accL acc2; rw [HA1.out, ← HSS.out, if_pos ⟨by omega, hty, by rw [Int.toNat_natCast]; exact hbk⟩])
          clear hbk
          go_wp2_with (at_builtin; go_must (refine wpList_push_ax rfl (.tmp 69) (.tmp 72) rfl HO5.out (by omega) (by simp) (k : Nat) true rfl rfl ?_); intro v9 w9 hP9 hE9)
          go_ret
          exact ⟨_, rfl, by rw [HL.out]; exact hP9.toS (by simp), HB5.out.trans (hE9.mono (by rw [← HBX.out]; omega))⟩
      · have hty2 : ((typeOfP ts (k : Nat)) == 2) = false := by simpa using hty
        have HL : Hid (accL ts 6 x y (fun v => M.getD v false) = [⟨y, false⟩]) := Lib.hid (by unfold accL acc2; rw [HA1.out, ← HSS.out, if_neg (fun h => hty h.2.1), List.append_nil])
        clear hty
        go_wp2_with (at_builtin; fail)
        go_ret
        exact ⟨_, rfl, by rw [HL.out]; exact HO5.out.toS (by simp), HB5.out⟩
    · have hs1 : decide (s ≥ 0) = false := by simpa using hs0
      have HL : Hid (accL ts 6 x y (fun v => M.getD v false) = [⟨y, false⟩]) := Lib.hid (by unfold accL acc2; rw [HA1.out, ← HSS.out, if_neg (fun h => hs0 h.1), List.append_nil])
      clear hs0 HS2
      go_wp2_with (at_builtin; fail)
      go_ret
      exact ⟨_, rfl, by rw [HL.out]; exact HO5.out.toS (by simp), HB5.out⟩
  · have HA1 : Hid (acc1 ts 5 x y = [⟨y, true⟩]) := Lib.hid (by unfold acc1; simp)
    go_wp2_with (at_builtin; go_must (refine wpList_push_ax rfl (.tmp 23) (.tmp 27) rfl HON.out (by omega) (by simp) y true rfl rfl ?_); intro v' w' hP' hE'; (have z0 := (hE'.cell (p := ⟨bx, 0, none⟩) (by show bx < bx + 1; omega)).trans y0); (have z1 := (hE'.cell (p := ⟨bx, 1, none⟩) (by show bx < bx + 1; omega)).trans y1); (have z2 := (hE'.cell (p := ⟨bx, 2, none⟩) (by show bx < bx + 1; omega)).trans y2); (have z3 := (hE'.cell (p := ⟨bx, 3, none⟩) (by show bx < bx + 1; omega)).trans y3); (have z4 := (hE'.cell (p := ⟨bx, 4, none⟩) (by show bx < bx + 1; omega)).trans y4); (have HO := Lib.hid hP'); (have HBE := Lib.hid hE'); clear hP' hE' y0 y1 y2 y3 y4)
    have hsz' := HBE.out.size
    refine (l3Set_any _ _ _ _ _ _).mono ?_
    rintro e w5 ⟨rfl, hb5⟩
    obtain ⟨s, hs⟩ : ∃ s, s = setsP 5 x := ⟨_, rfl⟩
    have HSS := Lib.hid hs
    have HS2 := HS.out
    rw [← hs] at HS2 ⊢
    have HO5 := Lib.hid (HO.out.bel hb5)
    have HT5 := Lib.hid ((HTW.out.low HBE.out (by omega)).low hb5 (by omega))
    have HM5 := Lib.hid ((HMW.out.low HBE.out (by omega)).low hb5 (by omega))
    have HB5 := Lib.hid (HBA.out.trans ((HBE.out.mono (by rw [← HBX.out]; omega)).trans (hb5.mono (by rw [← HBX.out]; omega))))
    have hs5 := hb5.size
    clear z0 z1 z2 z3 z4 hs hb5
    by_cases hs0 : 0 ≤ s
    · have hs1 : decide (s ≥ 0) = true := by simpa using hs0
      have hsl := HS2 hs0
      obtain ⟨k, rfl⟩ : ∃ k : Nat, s = k := ⟨s.toNat, by omega⟩
      have hk6 : k < ts.length := by omega
      have ht := HT5.out
      obtain ⟨bt, ot, ct2, e, hbt, -, -, hct2⟩ := ht.get (i := (k : Nat)) (by omega) hsl
      injection e with e1 e9 e2
      subst e1 e2
      rw [Int.toNat_natCast] at hct2
      clear e9 hs0 hsl HS2 ht
      by_cases hty : typeOfP ts (k : Nat) = 2
      · rw [hty] at hct2
        obtain ⟨Am', cm', e, -, -, hrm⟩ := HM5.out
        injection e with e1 e9 e2
        subst e1 e2
        have hkM : k < M.length := by rw [HML.out]; exact hk6
        obtain ⟨b7, o7, rfl, hb7, hcell7⟩ := hrm.bool_at (k := k) hkM
        have d7 := hcell7 k hkM
        clear hcell7 hrm e9 hkM
        cases hbk : M.getD k false
        · rw [hbk] at d7
          have HL : Hid (accL ts 5 x y (fun v => M.getD v false) = [⟨y, true⟩]) := Lib.hid (by unfold accL acc2; rw [HA1.out, ← HSS.out, if_neg (fun h => by have h3 : M.getD k false = true := (by have h4 := h.2.2; rw [Int.toNat_natCast] at h4; exact h4); rw [hbk] at h3; cases h3), List.append_nil])
          clear hbk
          go_wp2_with (at_builtin; fail)
          go_ret
          exact ⟨_, rfl, by rw [HL.out]; exact HO5.out.toS (by simp), HB5.out⟩
        · rw [hbk] at d7
          have HL : Hid (accL ts 5 x y (fun v => M.getD v false) = [⟨y, true⟩] ++ [⟨(k : Nat), true⟩]) := Lib.hid (by unfold accL acc2; rw [HA1.out, ← HSS.out, if_pos ⟨by omega, hty, by rw [Int.toNat_natCast]; exact hbk⟩])
          clear hbk
          go_wp2_with (at_builtin; go_must (refine wpList_push_ax rfl (.tmp 69) (.tmp 72) rfl HO5.out (by omega) (by simp) (k : Nat) true rfl rfl ?_); intro v9 w9 hP9 hE9)
          go_ret
          exact ⟨_, rfl, by rw [HL.out]; exact hP9.toS (by simp), HB5.out.trans (hE9.mono (by rw [← HBX.out]; omega))⟩
      · have hty2 : ((typeOfP ts (k : Nat)) == 2) = false := by simpa using hty
        have HL : Hid (accL ts 5 x y (fun v => M.getD v false) = [⟨y, true⟩]) := Lib.hid (by unfold accL acc2; rw [HA1.out, ← HSS.out, if_neg (fun h => hty h.2.1), List.append_nil])
        clear hty
        go_wp2_with (at_builtin; fail)
        go_ret
        exact ⟨_, rfl, by rw [HL.out]; exact HO5.out.toS (by simp), HB5.out⟩
    · have hs1 : decide (s ≥ 0) = false := by simpa using hs0
      have HL : Hid (accL ts 5 x y (fun v => M.getD v false) = [⟨y, true⟩]) := Lib.hid (by unfold accL acc2; rw [HA1.out, ← HSS.out, if_neg (fun h => hs0 h.1), List.append_nil])
      clear hs0 HS2
      go_wp2_with (at_builtin; fail)
      go_ret
      exact ⟨_, rfl, by rw [HL.out]; exact HO5.out.toS (by simp), HB5.out⟩
  · have HA1 : Hid (acc1 ts 7 x y = [⟨x, true⟩]) := Lib.hid (by unfold acc1; simp)
    go_wp2_with (at_builtin; go_must (refine wpList_push_ax rfl (.tmp 32) (.tmp 36) rfl HON.out (by omega) (by simp) x true rfl rfl ?_); intro v' w' hP' hE'; (have z0 := (hE'.cell (p := ⟨bx, 0, none⟩) (by show bx < bx + 1; omega)).trans y0); (have z1 := (hE'.cell (p := ⟨bx, 1, none⟩) (by show bx < bx + 1; omega)).trans y1); (have z2 := (hE'.cell (p := ⟨bx, 2, none⟩) (by show bx < bx + 1; omega)).trans y2); (have z3 := (hE'.cell (p := ⟨bx, 3, none⟩) (by show bx < bx + 1; omega)).trans y3); (have z4 := (hE'.cell (p := ⟨bx, 4, none⟩) (by show bx < bx + 1; omega)).trans y4); (have HO := Lib.hid hP'); (have HBE := Lib.hid hE'); clear hP' hE' y0 y1 y2 y3 y4)
    have hsz' := HBE.out.size
    refine (l3Set_any _ _ _ _ _ _).mono ?_
    rintro e w5 ⟨rfl, hb5⟩
    obtain ⟨s, hs⟩ : ∃ s, s = setsP 7 x := ⟨_, rfl⟩
    have HSS := Lib.hid hs
    have HS2 := HS.out
    rw [← hs] at HS2 ⊢
    have HO5 := Lib.hid (HO.out.bel hb5)
    have HT5 := Lib.hid ((HTW.out.low HBE.out (by omega)).low hb5 (by omega))
    have HM5 := Lib.hid ((HMW.out.low HBE.out (by omega)).low hb5 (by omega))
    have HB5 := Lib.hid (HBA.out.trans ((HBE.out.mono (by rw [← HBX.out]; omega)).trans (hb5.mono (by rw [← HBX.out]; omega))))
    have hs5 := hb5.size
    clear z0 z1 z2 z3 z4 hs hb5
    by_cases hs0 : 0 ≤ s
    · have hs1 : decide (s ≥ 0) = true := by simpa using hs0
      have hsl := HS2 hs0
      obtain ⟨k, rfl⟩ : ∃ k : Nat, s = k := ⟨s.toNat, by omega⟩
      have hk6 : k < ts.length := by omega
      have ht := HT5.out
      obtain ⟨bt, ot, ct2, e, hbt, -, -, hct2⟩ := ht.get (i := (k : Nat)) (by omega) hsl
      injection e with e1 e9 e2
      subst e1 e2
      rw [Int.toNat_natCast] at hct2
      clear e9 hs0 hsl HS2 ht
      by_cases hty : typeOfP ts (k : Nat) = 2
      · rw [hty] at hct2
        obtain ⟨Am', cm', e, -, -, hrm⟩ := HM5.out
        injection e with e1 e9 e2
        subst e1 e2
        have hkM : k < M.length := by rw [HML.out]; exact hk6
        obtain ⟨b7, o7, rfl, hb7, hcell7⟩ := hrm.bool_at (k := k) hkM
        have d7 := hcell7 k hkM
        clear hcell7 hrm e9 hkM
        cases hbk : M.getD k false
        · rw [hbk] at d7
          have HL : Hid (accL ts 7 x y (fun v => M.getD v false) = [⟨x, true⟩]) := Lib.hid (by unfold accL acc2; rw [HA1.out, ← HSS.out, if_neg (fun h => by have h3 : M.getD k false = true := (by have h4 := h.2.2; rw [Int.toNat_natCast] at h4; exact h4); rw [hbk] at h3; cases h3), List.append_nil])
          clear hbk
          go_wp2_with (at_builtin; fail)
          go_ret
          exact ⟨_, rfl, by rw [HL.out]; exact HO5.out.toS (by simp), HB5.out⟩
        · rw [hbk] at d7
          have HL : Hid (accL ts 7 x y (fun v => M.getD v false) = [⟨x, true⟩] ++ [⟨(k : Nat), true⟩]) := Lib.hid (by unfold accL acc2; rw [HA1.out, ← HSS.out, if_pos ⟨by omega, hty, by rw [Int.toNat_natCast]; exact hbk⟩])
          clear hbk
          go_wp2_with (at_builtin; go_must (refine wpList_push_ax rfl (.tmp 69) (.tmp 72) rfl HO5.out (by omega) (by simp) (k : Nat) true rfl rfl ?_); intro v9 w9 hP9 hE9)
          go_ret
          exact ⟨_, rfl, by rw [HL.out]; exact hP9.toS (by simp), HB5.out.trans (hE9.mono (by rw [← HBX.out]; omega))⟩
      · have hty2 : ((typeOfP ts (k : Nat)) == 2) = false := by simpa using hty
        have HL : Hid (accL ts 7 x y (fun v => M.getD v false) = [⟨x, true⟩]) := Lib.hid (by unfold accL acc2; rw [HA1.out, ← HSS.out, if_neg (fun h => hty h.2.1), List.append_nil])
        clear hty
        go_wp2_with (at_builtin; fail)
        go_ret
        exact ⟨_, rfl, by rw [HL.out]; exact HO5.out.toS (by simp), HB5.out⟩
    · have hs1 : decide (s ≥ 0) = false := by simpa using hs0
      have HL : Hid (accL ts 7 x y (fun v => M.getD v false) = [⟨x, true⟩]) := Lib.hid (by unfold accL acc2; rw [HA1.out, ← HSS.out, if_neg (fun h => hs0 h.1), List.append_nil])
      clear hs0 HS2
      go_wp2_with (at_builtin; fail)
      go_ret
      exact ⟨_, rfl, by rw [HL.out]; exact HO5.out.toS (by simp), HB5.out⟩
  · have HA1 : Hid (acc1 ts 8 x y = [⟨x, true⟩]) := Lib.hid (by unfold acc1; simp)
    go_wp2_with (at_builtin; go_must (refine wpList_push_ax rfl (.tmp 32) (.tmp 36) rfl HON.out (by omega) (by simp) x true rfl rfl ?_); intro v' w' hP' hE'; (have z0 := (hE'.cell (p := ⟨bx, 0, none⟩) (by show bx < bx + 1; omega)).trans y0); (have z1 := (hE'.cell (p := ⟨bx, 1, none⟩) (by show bx < bx + 1; omega)).trans y1); (have z2 := (hE'.cell (p := ⟨bx, 2, none⟩) (by show bx < bx + 1; omega)).trans y2); (have z3 := (hE'.cell (p := ⟨bx, 3, none⟩) (by show bx < bx + 1; omega)).trans y3); (have z4 := (hE'.cell (p := ⟨bx, 4, none⟩) (by show bx < bx + 1; omega)).trans y4); (have HO := Lib.hid hP'); (have HBE := Lib.hid hE'); clear hP' hE' y0 y1 y2 y3 y4)
    have hsz' := HBE.out.size
    refine (l3Set_any _ _ _ _ _ _).mono ?_
    rintro e w5 ⟨rfl, hb5⟩
    obtain ⟨s, hs⟩ : ∃ s, s = setsP 8 x := ⟨_, rfl⟩
    have HSS := Lib.hid hs
    have HS2 := HS.out
    rw [← hs] at HS2 ⊢
    have HO5 := Lib.hid (HO.out.bel hb5)
    have HT5 := Lib.hid ((HTW.out.low HBE.out (by omega)).low hb5 (by omega))
    have HM5 := Lib.hid ((HMW.out.low HBE.out (by omega)).low hb5 (by omega))
    have HB5 := Lib.hid (HBA.out.trans ((HBE.out.mono (by rw [← HBX.out]; omega)).trans (hb5.mono (by rw [← HBX.out]; omega))))
    have hs5 := hb5.size
    clear z0 z1 z2 z3 z4 hs hb5
    by_cases hs0 : 0 ≤ s
    · have hs1 : decide (s ≥ 0) = true := by simpa using hs0
      have hsl := HS2 hs0
      obtain ⟨k, rfl⟩ : ∃ k : Nat, s = k := ⟨s.toNat, by omega⟩
      have hk6 : k < ts.length := by omega
      have ht := HT5.out
      obtain ⟨bt, ot, ct2, e, hbt, -, -, hct2⟩ := ht.get (i := (k : Nat)) (by omega) hsl
      injection e with e1 e9 e2
      subst e1 e2
      rw [Int.toNat_natCast] at hct2
      clear e9 hs0 hsl HS2 ht
      by_cases hty : typeOfP ts (k : Nat) = 2
      · rw [hty] at hct2
        obtain ⟨Am', cm', e, -, -, hrm⟩ := HM5.out
        injection e with e1 e9 e2
        subst e1 e2
        have hkM : k < M.length := by rw [HML.out]; exact hk6
        obtain ⟨b7, o7, rfl, hb7, hcell7⟩ := hrm.bool_at (k := k) hkM
        have d7 := hcell7 k hkM
        clear hcell7 hrm e9 hkM
        cases hbk : M.getD k false
        · rw [hbk] at d7
          have HL : Hid (accL ts 8 x y (fun v => M.getD v false) = [⟨x, true⟩]) := Lib.hid (by unfold accL acc2; rw [HA1.out, ← HSS.out, if_neg (fun h => by have h3 : M.getD k false = true := (by have h4 := h.2.2; rw [Int.toNat_natCast] at h4; exact h4); rw [hbk] at h3; cases h3), List.append_nil])
          clear hbk
          go_wp2_with (at_builtin; fail)
          go_ret
          exact ⟨_, rfl, by rw [HL.out]; exact HO5.out.toS (by simp), HB5.out⟩
        · rw [hbk] at d7
          have HL : Hid (accL ts 8 x y (fun v => M.getD v false) = [⟨x, true⟩] ++ [⟨(k : Nat), true⟩]) := Lib.hid (by unfold accL acc2; rw [HA1.out, ← HSS.out, if_pos ⟨by omega, hty, by rw [Int.toNat_natCast]; exact hbk⟩])
          clear hbk
          go_wp2_with (at_builtin; go_must (refine wpList_push_ax rfl (.tmp 69) (.tmp 72) rfl HO5.out (by omega) (by simp) (k : Nat) true rfl rfl ?_); intro v9 w9 hP9 hE9)
          go_ret
          exact ⟨_, rfl, by rw [HL.out]; exact hP9.toS (by simp), HB5.out.trans (hE9.mono (by rw [← HBX.out]; omega))⟩
      · have hty2 : ((typeOfP ts (k : Nat)) == 2) = false := by simpa using hty
        have HL : Hid (accL ts 8 x y (fun v => M.getD v false) = [⟨x, true⟩]) := Lib.hid (by unfold accL acc2; rw [HA1.out, ← HSS.out, if_neg (fun h => hty h.2.1), List.append_nil])
        clear hty
        go_wp2_with (at_builtin; fail)
        go_ret
        exact ⟨_, rfl, by rw [HL.out]; exact HO5.out.toS (by simp), HB5.out⟩
    · have hs1 : decide (s ≥ 0) = false := by simpa using hs0
      have HL : Hid (accL ts 8 x y (fun v => M.getD v false) = [⟨x, true⟩]) := Lib.hid (by unfold accL acc2; rw [HA1.out, ← HSS.out, if_neg (fun h => hs0 h.1), List.append_nil])
      clear hs0 HS2
      go_wp2_with (at_builtin; fail)
      go_ret
      exact ⟨_, rfl, by rw [HL.out]; exact HO5.out.toS (by simp), HB5.out⟩
  · obtain ⟨hy0, hyl⟩ := HY.out rfl
    go_wp2_with (at_builtin; fail)
    refine (l3Use_any _ ts B 3 x y n y _ _ HTW.out hBW hy0 hyl).mono ?_
    rintro e W1 ⟨rfl, hb3⟩
    rw [use_takes]
    have HON1 := Lib.hid (HON.out.bel hb3)
    have HTW1 := Lib.hid (HTW.out.low hb3 hBW)
    have HMW1 := Lib.hid (HMW.out.low hb3 hBW)
    have HBA1 := Lib.hid (HBA.out.trans (hb3.mono (by rw [← HBX.out]; omega)))
    have hs3 := hb3.size
    have hbW1 : bx + 1 ≤ W1.heap.size := by omega
    have x0 := (hb3.cell (p := ⟨bx, 0, none⟩) (by show bx < _; omega)).trans y0
    have x1 := (hb3.cell (p := ⟨bx, 1, none⟩) (by show bx < _; omega)).trans y1
    have x2 := (hb3.cell (p := ⟨bx, 2, none⟩) (by show bx < _; omega)).trans y2
    have x3 := (hb3.cell (p := ⟨bx, 3, none⟩) (by show bx < _; omega)).trans y3
    have x4 := (hb3.cell (p := ⟨bx, 4, none⟩) (by show bx < _; omega)).trans y4
    clear y0 y1 y2 y3 y4 HON HTW HMW HBA hb3
    have y0 := x0
    have y1 := x1
    have y2 := x2
    have y3 := x3
    have y4 := x4
    have HON := HON1
    have HTW := HTW1
    have HMW := HMW1
    have HBA := HBA1
    clear x0 x1 x2 x3 x4 HON1 HTW1 HMW1 HBA1
    cases htk : takesP ts y
    · have HA1 : Hid (acc1 ts 3 x y = []) := Lib.hid (by unfold acc1; rw [htk]; simp)
      go_wp2_with (at_builtin; fail)
      have z0 := y0
      have z1 := y1
      have z2 := y2
      have z3 := y3
      have z4 := y4
      have HO := HON
      have HBE := Lib.hid (Below.refl (bx + 1) W1)
      clear y0 y1 y2 y3 y4
      obtain ⟨w', rfl⟩ : ∃ w' : World, w' = W1 := ⟨_, rfl⟩
      have hsz' := HBE.out.size
      refine (l3Set_any _ _ _ _ _ _).mono ?_
      rintro e w5 ⟨rfl, hb5⟩
      obtain ⟨s, hs⟩ : ∃ s, s = setsP 3 x := ⟨_, rfl⟩
      have HSS := Lib.hid hs
      have HS2 := HS.out
      rw [← hs] at HS2 ⊢
      have HO5 := Lib.hid (HO.out.bel hb5)
      have HT5 := Lib.hid ((HTW.out.low HBE.out (by omega)).low hb5 (by omega))
      have HM5 := Lib.hid ((HMW.out.low HBE.out (by omega)).low hb5 (by omega))
      have HB5 := Lib.hid (HBA.out.trans ((HBE.out.mono (by rw [← HBX.out]; omega)).trans (hb5.mono (by rw [← HBX.out]; omega))))
      have hs5 := hb5.size
      clear z0 z1 z2 z3 z4 hs hb5
      by_cases hs0 : 0 ≤ s
      · have hs1 : decide (s ≥ 0) = true := by simpa using hs0
        have hsl := HS2 hs0
        obtain ⟨k, rfl⟩ : ∃ k : Nat, s = k := ⟨s.toNat, by omega⟩
        have hk6 : k < ts.length := by omega
        have ht := HT5.out
        obtain ⟨bt, ot, ct2, e, hbt, -, -, hct2⟩ := ht.get (i := (k : Nat)) (by omega) hsl
        injection e with e1 e9 e2
        subst e1 e2
        rw [Int.toNat_natCast] at hct2
        clear e9 hs0 hsl HS2 ht
        by_cases hty : typeOfP ts (k : Nat) = 2
        · rw [hty] at hct2
          obtain ⟨Am', cm', e, -, -, hrm⟩ := HM5.out
          injection e with e1 e9 e2
          subst e1 e2
          have hkM : k < M.length := by rw [HML.out]; exact hk6
          obtain ⟨b7, o7, rfl, hb7, hcell7⟩ := hrm.bool_at (k := k) hkM
          have d7 := hcell7 k hkM
          clear hcell7 hrm e9 hkM
          cases hbk : M.getD k false
          · rw [hbk] at d7
            have HL : Hid (accL ts 3 x y (fun v => M.getD v false) = []) := Lib.hid (by unfold accL acc2; rw [HA1.out, ← HSS.out, if_neg (fun h => by have h3 : M.getD k false = true := (by have h4 := h.2.2; rw [Int.toNat_natCast] at h4; exact h4); rw [hbk] at h3; cases h3), List.append_nil])
            clear hbk
            go_wp2_with (at_builtin; fail)
            go_ret
            exact ⟨_, rfl, by rw [HL.out]; exact HO5.out.toS (by simp), HB5.out⟩
          · rw [hbk] at d7
            have HL : Hid (accL ts 3 x y (fun v => M.getD v false) = [] ++ [⟨(k : Nat), true⟩]) := Lib.hid (by unfold accL acc2; rw [HA1.out, ← HSS.out, if_pos ⟨by omega, hty, by rw [Int.toNat_natCast]; exact hbk⟩])
            clear hbk
            go_wp2_with (at_builtin; go_must (refine wpList_push_ax rfl (.tmp 69) (.tmp 72) rfl HO5.out (by omega) (by simp) (k : Nat) true rfl rfl ?_); intro v9 w9 hP9 hE9)
            go_ret
            exact ⟨_, rfl, by rw [HL.out]; exact hP9.toS (by simp), HB5.out.trans (hE9.mono (by rw [← HBX.out]; omega))⟩
        · have hty2 : ((typeOfP ts (k : Nat)) == 2) = false := by simpa using hty
          have HL : Hid (accL ts 3 x y (fun v => M.getD v false) = []) := Lib.hid (by unfold accL acc2; rw [HA1.out, ← HSS.out, if_neg (fun h => hty h.2.1), List.append_nil])
          clear hty
          go_wp2_with (at_builtin; fail)
          go_ret
          exact ⟨_, rfl, by rw [HL.out]; exact HO5.out.toS (by simp), HB5.out⟩
      · have hs1 : decide (s ≥ 0) = false := by simpa using hs0
        have HL : Hid (accL ts 3 x y (fun v => M.getD v false) = []) := Lib.hid (by unfold accL acc2; rw [HA1.out, ← HSS.out, if_neg (fun h => hs0 h.1), List.append_nil])
        clear hs0 HS2
        go_wp2_with (at_builtin; fail)
        go_ret
        exact ⟨_, rfl, by rw [HL.out]; exact HO5.out.toS (by simp), HB5.out⟩
    · have HA1 : Hid (acc1 ts 3 x y = [⟨y, true⟩]) := Lib.hid (by unfold acc1; rw [htk]; simp)
      go_wp2_with (at_builtin; go_must (refine wpList_push_ax rfl (.tmp 46) (.tmp 50) rfl HON.out (by omega) (by simp) y true rfl rfl ?_); intro v' w' hP' hE'; (have z0 := (hE'.cell (p := ⟨bx, 0, none⟩) (by show bx < bx + 1; omega)).trans y0); (have z1 := (hE'.cell (p := ⟨bx, 1, none⟩) (by show bx < bx + 1; omega)).trans y1); (have z2 := (hE'.cell (p := ⟨bx, 2, none⟩) (by show bx < bx + 1; omega)).trans y2); (have z3 := (hE'.cell (p := ⟨bx, 3, none⟩) (by show bx < bx + 1; omega)).trans y3); (have z4 := (hE'.cell (p := ⟨bx, 4, none⟩) (by show bx < bx + 1; omega)).trans y4); (have HO := Lib.hid hP'); (have HBE := Lib.hid hE'); clear hP' hE' y0 y1 y2 y3 y4)
      have hsz' := HBE.out.size
      refine (l3Set_any _ _ _ _ _ _).mono ?_
      rintro e w5 ⟨rfl, hb5⟩
      obtain ⟨s, hs⟩ : ∃ s, s = setsP 3 x := ⟨_, rfl⟩
      have HSS := Lib.hid hs
      have HS2 := HS.out
      rw [← hs] at HS2 ⊢
      have HO5 := Lib.hid (HO.out.bel hb5)
      have HT5 := Lib.hid ((HTW.out.low HBE.out (by omega)).low hb5 (by omega))
      have HM5 := Lib.hid ((HMW.out.low HBE.out (by omega)).low hb5 (by omega))
      have HB5 := Lib.hid (HBA.out.trans ((HBE.out.mono (by rw [← HBX.out]; omega)).trans (hb5.mono (by rw [← HBX.out]; omega))))
      have hs5 := hb5.size
      clear z0 z1 z2 z3 z4 hs hb5
      by_cases hs0 : 0 ≤ s
      · have hs1 : decide (s ≥ 0) = true := by simpa using hs0
        have hsl := HS2 hs0
        obtain ⟨k, rfl⟩ : ∃ k : Nat, s = k := ⟨s.toNat, by omega⟩
        have hk6 : k < ts.length := by omega
        have ht := HT5.out
        obtain ⟨bt, ot, ct2, e, hbt, -, -, hct2⟩ := ht.get (i := (k : Nat)) (by omega) hsl
        injection e with e1 e9 e2
        subst e1 e2
        rw [Int.toNat_natCast] at hct2
        clear e9 hs0 hsl HS2 ht
        by_cases hty : typeOfP ts (k : Nat) = 2
        · rw [hty] at hct2
          obtain ⟨Am', cm', e, -, -, hrm⟩ := HM5.out
          injection e with e1 e9 e2
          subst e1 e2
          have hkM : k < M.length := by rw [HML.out]; exact hk6
          obtain ⟨b7, o7, rfl, hb7, hcell7⟩ := hrm.bool_at (k := k) hkM
          have d7 := hcell7 k hkM
          clear hcell7 hrm e9 hkM
          cases hbk : M.getD k false
          · rw [hbk] at d7
            have HL : Hid (accL ts 3 x y (fun v => M.getD v false) = [⟨y, true⟩]) := Lib.hid (by unfold accL acc2; rw [HA1.out, ← HSS.out, if_neg (fun h => by have h3 : M.getD k false = true := (by have h4 := h.2.2; rw [Int.toNat_natCast] at h4; exact h4); rw [hbk] at h3; cases h3), List.append_nil])
            clear hbk
            go_wp2_with (at_builtin; fail)
            go_ret
            exact ⟨_, rfl, by rw [HL.out]; exact HO5.out.toS (by simp), HB5.out⟩
          · rw [hbk] at d7
            have HL : Hid (accL ts 3 x y (fun v => M.getD v false) = [⟨y, true⟩] ++ [⟨(k : Nat), true⟩]) := Lib.hid (by unfold accL acc2; rw [HA1.out, ← HSS.out, if_pos ⟨by omega, hty, by rw [Int.toNat_natCast]; exact hbk⟩])
            clear hbk
            go_wp2_with (at_builtin; go_must (refine wpList_push_ax rfl (.tmp 69) (.tmp 72) rfl HO5.out (by omega) (by simp) (k : Nat) true rfl rfl ?_); intro v9 w9 hP9 hE9)
            go_ret
            exact ⟨_, rfl, by rw [HL.out]; exact hP9.toS (by simp), HB5.out.trans (hE9.mono (by rw [← HBX.out]; omega))⟩
        · have hty2 : ((typeOfP ts (k : Nat)) == 2) = false := by simpa using hty
          have HL : Hid (accL ts 3 x y (fun v => M.getD v false) = [⟨y, true⟩]) := Lib.hid (by unfold accL acc2; rw [HA1.out, ← HSS.out, if_neg (fun h => hty h.2.1), List.append_nil])
          clear hty
          go_wp2_with (at_builtin; fail)
          go_ret
          exact ⟨_, rfl, by rw [HL.out]; exact HO5.out.toS (by simp), HB5.out⟩
      · have hs1 : decide (s ≥ 0) = false := by simpa using hs0
        have HL : Hid (accL ts 3 x y (fun v => M.getD v false) = [⟨y, true⟩]) := Lib.hid (by unfold accL acc2; rw [HA1.out, ← HSS.out, if_neg (fun h => hs0 h.1), List.append_nil])
        clear hs0 HS2
        go_wp2_with (at_builtin; fail)
        go_ret
        exact ⟨_, rfl, by rw [HL.out]; exact HO5.out.toS (by simp), HB5.out⟩
  · obtain ⟨h3, h4, h5, h6', h7, h8⟩ := ho
    have k3 : (op == 3) = false := by simpa using h3
    have k4 : (op == 4) = false := by simpa using h4
    have k5 : (op == 5) = false := by simpa using h5
    have k6 : (op == 6) = false := by simpa using h6'
    have k7 : (op == 7) = false := by simpa using h7
    have k8 : (op == 8) = false := by simpa using h8
    have HA1 : Hid (acc1 ts op x y = []) := Lib.hid (by unfold acc1; simp [h3, h4, h5, h6', h7, h8])
    clear h3 h4 h5 h6' h7 h8
    go_wp2_with (at_builtin; fail)
    have z0 := y0
    have z1 := y1
    have z2 := y2
    have z3 := y3
    have z4 := y4
    have HO := HON
    have HBE := Lib.hid (Below.refl (bx + 1) W0)
    clear y0 y1 y2 y3 y4
    obtain ⟨w', rfl⟩ : ∃ w' : World, w' = W0 := ⟨_, rfl⟩
    have hsz' := HBE.out.size
    refine (l3Set_any _ _ _ _ _ _).mono ?_
    rintro e w5 ⟨rfl, hb5⟩
    obtain ⟨s, hs⟩ : ∃ s, s = setsP op x := ⟨_, rfl⟩
    have HSS := Lib.hid hs
    have HS2 := HS.out
    rw [← hs] at HS2 ⊢
    have HO5 := Lib.hid (HO.out.bel hb5)
    have HT5 := Lib.hid ((HTW.out.low HBE.out (by omega)).low hb5 (by omega))
    have HM5 := Lib.hid ((HMW.out.low HBE.out (by omega)).low hb5 (by omega))
    have HB5 := Lib.hid (HBA.out.trans ((HBE.out.mono (by rw [← HBX.out]; omega)).trans (hb5.mono (by rw [← HBX.out]; omega))))
    have hs5 := hb5.size
    clear z0 z1 z2 z3 z4 hs hb5
    by_cases hs0 : 0 ≤ s
    · have hs1 : decide (s ≥ 0) = true := by simpa using hs0
      have hsl := HS2 hs0
      obtain ⟨k, rfl⟩ : ∃ k : Nat, s = k := ⟨s.toNat, by omega⟩
      have hk6 : k < ts.length := by omega
      have ht := HT5.out
      obtain ⟨bt, ot, ct2, e, hbt, -, -, hct2⟩ := ht.get (i := (k : Nat)) (by omega) hsl
      injection e with e1 e9 e2
      subst e1 e2
      rw [Int.toNat_natCast] at hct2
      clear e9 hs0 hsl HS2 ht
      by_cases hty : typeOfP ts (k : Nat) = 2
      · rw [hty] at hct2
        obtain ⟨Am', cm', e, -, -, hrm⟩ := HM5.out
        injection e with e1 e9 e2
        subst e1 e2
        have hkM : k < M.length := by rw [HML.out]; exact hk6
        obtain ⟨b7, o7, rfl, hb7, hcell7⟩ := hrm.bool_at (k := k) hkM
        have d7 := hcell7 k hkM
        clear hcell7 hrm e9 hkM
        cases hbk : M.getD k false
        · rw [hbk] at d7
          have HL : Hid (accL ts op x y (fun v => M.getD v false) = []) := Lib.hid (by unfold accL acc2; rw [HA1.out, ← HSS.out, if_neg (fun h => by have h3 : M.getD k false = true := (by have h4 := h.2.2; rw [Int.toNat_natCast] at h4; exact h4); rw [hbk] at h3; cases h3), List.append_nil])
          clear hbk
          go_wp2_with (at_builtin; fail)
          go_ret
          exact ⟨_, rfl, by rw [HL.out]; exact HO5.out.toS (by simp), HB5.out⟩
        · rw [hbk] at d7
          have HL : Hid (accL ts op x y (fun v => M.getD v false) = [] ++ [⟨(k : Nat), true⟩]) := Lib.hid (by unfold accL acc2; rw [HA1.out, ← HSS.out, if_pos ⟨by omega, hty, by rw [Int.toNat_natCast]; exact hbk⟩])
          clear hbk
          go_wp2_with (at_builtin; go_must (refine wpList_push_ax rfl (.tmp 69) (.tmp 72) rfl HO5.out (by omega) (by simp) (k : Nat) true rfl rfl ?_); intro v9 w9 hP9 hE9)
          go_ret
          exact ⟨_, rfl, by rw [HL.out]; exact hP9.toS (by simp), HB5.out.trans (hE9.mono (by rw [← HBX.out]; omega))⟩
      · have hty2 : ((typeOfP ts (k : Nat)) == 2) = false := by simpa using hty
        have HL : Hid (accL ts op x y (fun v => M.getD v false) = []) := Lib.hid (by unfold accL acc2; rw [HA1.out, ← HSS.out, if_neg (fun h => hty h.2.1), List.append_nil])
        clear hty
        go_wp2_with (at_builtin; fail)
        go_ret
        exact ⟨_, rfl, by rw [HL.out]; exact HO5.out.toS (by simp), HB5.out⟩
    · have hs1 : decide (s ≥ 0) = false := by simpa using hs0
      have HL : Hid (accL ts op x y (fun v => M.getD v false) = []) := Lib.hid (by unfold accL acc2; rw [HA1.out, ← HSS.out, if_neg (fun h => hs0 h.1), List.append_nil])
      clear hs0 HS2
      go_wp2_with (at_builtin; fail)
      go_ret
      exact ⟨_, rfl, by rw [HL.out]; exact HO5.out.toS (by simp), HB5.out⟩

end Go.Proofs.Ytidlifijgooceaa
