import Derived.Test.YteaddodjijlpjaaG48
import Derived.Test.YteaddodjijlpjaaG45
set_option linter.unusedVariables false

/- spec.l4Accesses, spec.AccessesOf. -/
namespace Go.Proofs.Yteaddodjijlpjaa
open Go.RowKit

theorem use_takes (ts : List Int) (x y : Int) : useP ts 3 x y y = if takesP ts y = true then 2 else 1 := by
  unfold useP takesP
  simp
set_option maxHeartbeats 1000000 in
set_option maxRecDepth 100000 in
theorem l4Accesses_any (At : Option Addr) (ct : Nat) (ts : List Int) (B : Nat) (op x y n : Int) (A : Option Addr) (m c : Nat) (Am : Option Addr) (cm : Nat) (M : List Bool) (w : World) (ht : IntS w B (.slice At ts.length ct) ts) (hM : BoolS w B (.slice Am ts.length cm) M) (hml : M.length = ts.length) (hB : B ≤ w.heap.size) (h6 : ts.length ≤ 6) (hs : 0 ≤ setsP op x → setsP op x < ts.length) (hy : op = 3 → 0 ≤ y ∧ y < ts.length) :
    Calls Try.prog 89 #[.slice At ts.length ct, .agg #[.int .i64 op, .int .i64 x, .int .i64 y, .int .i64 n, .slice A m c], .slice Am ts.length cm] w (AxRet w (accL ts op x y (fun v => M.getD v false))) := by
  have HT := Lib.hid ht
  have HM := Lib.hid hM
  have HML := Lib.hid hml
  have HS := Lib.hid hs
  have HY := Lib.hid hy
  clear ht hM hml hs hy
  go_enter Try.func89, Try.ntmps89
  go_upto_region 2 with (at_builtin; fail)
  have hbA := bel_a w (.cells #[.int .i64 op, .int .i64 x, .int .i64 y, .int .i64 n, .slice A m c] 39)
  have hRA := heap_alloc_new w (.cells #[.int .i64 op, .int .i64 x, .int .i64 y, .int .i64 n, .slice A m c] 39)
  have hsA : (w.alloc (.cells #[.int .i64 op, .int .i64 x, .int .i64 y, .int .i64 n, .slice A m c] 39)).heap.size = w.heap.size + 1 := by simp
  have hON := OAx.empty (w.alloc (.cells #[.int .i64 op, .int .i64 x, .int .i64 y, .int .i64 n, .slice A m c] 39)) (w.heap.size + 1) (by simp)
  have hbE := bel_a (w.alloc (.cells #[.int .i64 op, .int .i64 x, .int .i64 y, .int .i64 n, .slice A m c] 39)) (.cells #[] 58)
  have hsE : ((w.alloc (.cells #[.int .i64 op, .int .i64 x, .int .i64 y, .int .i64 n, .slice A m c] 39)).alloc (.cells #[] 58)).heap.size = w.heap.size + 2 := by simp
  have hRE := row_below hRA hbE
  have hbA2 := hbA.trans (hbE.mono (by simp))
  rw [hsA] at hON
  clear hRA hbA hbE hsA
  generalize (w.alloc (.cells #[.int .i64 op, .int .i64 x, .int .i64 y, .int .i64 n, .slice A m c] 39)).alloc (.cells #[] 58) = W0 at *
  obtain ⟨bx, hbx⟩ : ∃ bx, bx = w.heap.size := ⟨_, rfl⟩
  rw [← hbx] at hRE hsE hON ⊢
  have y0 : W0.cell? ⟨bx, 0, none⟩ = some (.int .i64 op) := by rw [cell_of_row _ _ _ _ _ _ hRE]; rfl
  have y1 : W0.cell? ⟨bx, 1, none⟩ = some (.int .i64 x) := by rw [cell_of_row _ _ _ _ _ _ hRE]; rfl
  have y2 : W0.cell? ⟨bx, 2, none⟩ = some (.int .i64 y) := by rw [cell_of_row _ _ _ _ _ _ hRE]; rfl
  have y3 : W0.cell? ⟨bx, 3, none⟩ = some (.int .i64 n) := by rw [cell_of_row _ _ _ _ _ _ hRE]; rfl
  have y4 : W0.cell? ⟨bx, 4, none⟩ = some (.slice A m c) := by rw [cell_of_row _ _ _ _ _ _ hRE]; rfl
  have HBA := Lib.hid hbA2
  have HON := Lib.hid hON
  have HBX := Lib.hid hbx
  have HTW := Lib.hid (HT.out.low hbA2 hB)
  have HMW := Lib.hid (HM.out.low hbA2 hB)
  have hBx : B ≤ bx := by omega
  have HSA := Lib.hid hsE
  have hBW : B ≤ W0.heap.size := by omega
  have hbW : bx + 1 ≤ W0.heap.size := by omega
  clear hRE hbA2 hbx hB hsE hON
  rcases (by omega : op = 4 ∨ op = 6 ∨ op = 5 ∨ op = 7 ∨ op = 8 ∨ op = 3 ∨ (op ≠ 3 ∧ op ≠ 4 ∧ op ≠ 5 ∧ op ≠ 6 ∧ op ≠ 7 ∧ op ≠ 8)) with rfl | rfl | rfl | rfl | rfl | rfl | ho
  · have HA1 : Hid (acc1 ts 4 x y = [⟨y, false⟩]) := Lib.hid (by unfold acc1; simp)
    go_wp2_with (at_builtin; go_must (refine wpList_push_ax rfl (.tmp 15) (.tmp 19) rfl HON.out (by omega) (by simp) y false rfl rfl ?_); intro v' w' hP' hE'; (have z0 := (hE'.cell (p := ⟨bx, 0, none⟩) (by show bx < bx + 1; omega)).trans y0); (have z1 := (hE'.cell (p := ⟨bx, 1, none⟩) (by show bx < bx + 1; omega)).trans y1); (have z2 := (hE'.cell (p := ⟨bx, 2, none⟩) (by show bx < bx + 1; omega)).trans y2); (have z3 := (hE'.cell (p := ⟨bx, 3, none⟩) (by show bx < bx + 1; omega)).trans y3); (have z4 := (hE'.cell (p := ⟨bx, 4, none⟩) (by show bx < bx + 1; omega)).trans y4); (have HO := Lib.hid hP'); (have HBE := Lib.hid hE'); clear hP' hE' y0 y1 y2 y3 y4)
    have hsz' := HBE.out.size
    refine (l3Set_any _ _ _ _ _ _).mono ?_
    rintro e w5 ⟨rfl, hb5⟩
    obtain ⟨s, hs⟩ : ∃ s, s = setsP 4 x := ⟨_, rfl⟩
    have HSS := Lib.hid hs
    have HS2 := HS.out
    rw [← hs] at HS2 ⊢
    have HO5 := Lib.hid (HO.out.bel hb5)
    have HT5 := Lib.hid ((HTW.out.low HBE.out (by omega)).low hb5 (by omega))
    have HM5 := Lib.hid ((HMW.out.low HBE.out (by omega)).low hb5 (by omega))
    have HB5 := Lib.hid (HBA.out.trans ((HBE.out.mono (by rw [← HBX.out]; omega)).trans (hb5.mono (by rw [← HBX.out]; omega))))
    have hs5 := hb5.size
    clear z0 z1 z2 z3 z4 hs hb5
    by_cases hs0 : 0 ≤ s
    · have hs1 : decide (s ≥ 0) = true := by simpa using hs0
      have hsl := HS2 hs0
      obtain ⟨k, rfl⟩ : ∃ k : Nat, s = k := ⟨s.toNat, by omega⟩
      have hk6 : k < ts.length := by omega
      have ht := HT5.out
      obtain ⟨bt, ot, ct2, e, hbt, -, -, hct2⟩ := ht.get (i := (k : Nat)) (by omega) hsl
      injection e with e1 e9 e2
      subst e1 e2
      rw [Int.toNat_natCast] at hct2
      clear e9 hs0 hsl HS2 ht
      by_cases hty : typeOfP ts (k : Nat) = 2
      · rw [hty] at hct2
        obtain ⟨Am', cm', e, -, -, hrm⟩ := HM5.out
        injection e with e1 e9 e2
        subst e1 e2
        have hkM : k < M.length := by rw [HML.out]; exact hk6
        obtain ⟨b7, o7, rfl, hb7, hcell7⟩ := hrm.bool_at (k := k) hkM
        have d7 := hcell7 k hkM
        clear hcell7 hrm e9 hkM
        cases hbk : M.getD k false
        · rw [hbk] at d7
          have HL : Hid (accL ts 4 x y (fun v => M.getD v false) = [⟨y, false⟩]) := Lib.hid (by unfold accL acc2; rw [HA1.out, ← HSS.out, if_neg (fun h => by have h3 : M.getD k false = true := (by have h4 := h.2.2; rw [Int.toNat_natCast] at h4; exact h4); rw [hbk] at h3; cases h3), List.append_nil])
          clear hbk
          go_wp2_with (at_builtin; fail)
          go_ret
          exact ⟨_, rfl, by rw [HL.out]; exact HO5.out.toS (by simp), HB5.out⟩
        · rw [hbk] at d7
          have HL : Hid (accL ts 4 x y (fun v => M.getD v false) = [⟨y, false⟩] ++ [⟨(k : Nat), true⟩]) := Lib.hid (by unfold accL acc2; rw [HA1.out, ← HSS.out, if_pos ⟨by omega, hty, by rw [Int.toNat_natCast]; exact hbk⟩])
          clear hbk
          go_wp2_with (at_builtin; go_must (refine wpList_push_ax rfl (.tmp 69) (.tmp 72) rfl HO5.out (by omega) (by simp) (k : Nat) true rfl rfl ?_); intro v9 w9 hP9 hE9)
          go_ret
          exact ⟨_, rfl, by rw [HL.out]; exact hP9.toS (by simp), HB5.out.trans (hE9.mono (by rw [← HBX.out]; omega))⟩
      · have hty2 : ((typeOfP ts (k : Nat)) == 2) = false := by simpa using hty
        have HL : Hid (accL ts 4 x y (fun v => M.getD v false) = [⟨y, false⟩]) := Lib.hid (by unfold accL acc2; rw [HA1.out, ← HSS.out, if_neg (fun h => hty h.2.1), List.append_nil])
        clear hty
        go_wp2_with (at_builtin; fail)
        go_ret
        exact ⟨_, rfl, by rw [HL.out]; exact HO5.out.toS (by simp), HB5.out⟩
    · have hs1 : decide (s ≥ 0) = false := by simpa using hs0
      have HL : Hid (accL ts 4 x y (fun v => M.getD v false) = [⟨y, false⟩]) := Lib.hid (by unfold accL acc2; rw [HA1.out, ← HSS.out, if_neg (fun h => hs0 h.1), List.append_nil])
      clear hs0 HS2
      go_wp2_with (at_builtin; fail)
      go_ret
      exact ⟨_, rfl, by rw [HL.out]; exact HO5.out.toS (by simp), HB5.out⟩
  · have HA1 : Hid (acc1 ts 6 x y = [⟨y, false⟩]) := Lib.hid (by unfold acc1; simp)
    go_wp2_with (at_builtin; go_must (refine wpList_push_ax rfl (.tmp 15) (.tmp 19) rfl HON.out (by omega) (by simp) y false rfl rfl ?_); intro v' w' hP' hE'; (have z0 := (hE'.cell (p := ⟨bx, 0, none⟩) (by show bx < bx + 1; omega)).trans y0); (have z1 := (hE'.cell (p := ⟨bx, 1, none⟩) (by show bx < bx + 1; omega)).trans y1); (have z2 := (hE'.cell (p := ⟨bx, 2, none⟩) (by show bx < bx + 1; omega)).trans y2); (have z3 := (hE'.cell (p := ⟨bx, 3, none⟩) (by show bx < bx + 1; omega)).trans y3); (have z4 := (hE'.cell (p := ⟨bx, 4, none⟩) (by show bx < bx + 1; omega)).trans y4); (have HO := Lib.hid hP'); (have HBE := Lib.hid hE'); clear hP' hE' y0 y1 y2 y3 y4)
    have hsz' := HBE.out.size
    refine (l3Set_any _ _ _ _ _ _).mono ?_
    rintro e w5 ⟨rfl, hb5⟩
    obtain ⟨s, hs⟩ : ∃ s, s = setsP 6 x := ⟨_, rfl⟩
    have HSS := Lib.hid hs
    have HS2 := HS.out
    rw [← hs] at HS2 ⊢
    have HO5 := Lib.hid (HO.out.bel hb5)
    have HT5 := Lib.hid ((HTW.out.low HBE.out (by omega)).low hb5 (by omega))
    have HM5 := Lib.hid ((HMW.out.low HBE.out (by omega)).low hb5 (by omega))
    have HB5 := Lib.hid (HBA.out.trans ((HBE.out.mono (by rw [← HBX.out]; omega)).trans (hb5.mono (by rw [← HBX.out]; omega))))
    have hs5 := hb5.size
    clear z0 z1 z2 z3 z4 hs hb5
    by_cases hs0 : 0 ≤ s
    · have hs1 : decide (s ≥ 0) = true := by simpa using hs0
      have hsl := HS2 hs0
      obtain ⟨k, rfl⟩ : ∃ k : Nat, s = k := ⟨s.toNat, by omega⟩
      have hk6 : k < ts.length := by omega
      have ht := HT5.out
      obtain ⟨bt, ot, ct2, e, hbt, -, -, hct2⟩ := ht.get (i := (k : Nat)) (by omega) hsl
      injection e with e1 e9 e2
      subst e1 e2
      rw [Int.toNat_natCast] at hct2
      clear e9 hs0 hsl HS2 ht
      by_cases hty : typeOfP ts (k : Nat) = 2
      · rw [hty] at hct2
        obtain ⟨Am', cm', e, -, -, hrm⟩ := HM5.out
        injection e with e1 e9 e2
        subst e1 e2
        have hkM : k < M.length := by rw [HML.out]; exact hk6
        obtain ⟨b7, o7, rfl, hb7, hcell7⟩ := hrm.bool_at (k := k) hkM
        have d7 := hcell7 k hkM
        clear hcell7 hrm e9 hkM
        cases hbk : M.getD k false
        · rw [hbk] at d7
          have HL : Hid (accL ts 6 x y (fun v => M.getD v false) = [⟨y, false⟩]) := Lib.hid (by unfold accL acc2; rw [HA1.out, ← HSS.out, if_neg (fun h => by have h3 : M.getD k false = true := (by have h4 := h.2.2; rw [Int.toNat_natCast] at h4; exact h4); rw [hbk] at h3; cases h3), List.append_nil])
          clear hbk
          go_wp2_with (at_builtin; fail)
          go_ret
          exact ⟨_, rfl, by rw [HL.out]; exact HO5.out.toS (by simp), HB5.out⟩
        · rw [hbk] at d7
          have HL : Hid (accL ts 6 x y (fun v => M.getD v false) = [⟨y, false⟩] ++ [⟨(k : Nat), true⟩]) := Lib.hid (by unfold accL acc2; rw [HA1.out, ← HSS.out, if_pos ⟨by omega, hty, by rw [Int.toNat_natCast]; exact hbk⟩])
          clear hbk
          go_wp2_with (at_builtin; go_must (refine wpList_push_ax rfl (.tmp 69) (.tmp 72) rfl HO5.out (by omega) (by simp) (k : Nat) true rfl rfl ?_); intro v9 w9 hP9 hE9)
          go_ret
          exact ⟨_, rfl, by rw [HL.out]; exact hP9.toS (by simp), HB5.out.trans (hE9.mono (by rw [← HBX.out]; omega))⟩
      · have hty2 : ((typeOfP ts (k : Nat)) == 2) = false := by simpa using hty
        have HL : Hid (accL ts 6 x y (fun v => M.getD v false) = [⟨y, false⟩]) := Lib.hid (by unfold accL acc2; rw [HA1.out, ← HSS.out, if_neg (fun h => hty h.2.1), List.append_nil])
        clear hty
        go_wp2_with (at_builtin; fail)
        go_ret
        exact ⟨_, rfl, by rw [HL.out]; exact HO5.out.toS (by simp), HB5.out⟩
    · have hs1 : decide (s ≥ 0) = false := by simpa using hs0
      have HL : Hid (accL ts 6 x y (fun v => M.getD v false) = [⟨y, false⟩]) := Lib.hid (by unfold accL acc2; rw [HA1.out, ← HSS.out, if_neg (fun h => hs0 h.1), List.append_nil])
      clear hs0 HS2
      go_wp2_with (at_builtin; fail)
      go_ret
      exact ⟨_, rfl, by rw [HL.out]; exact HO5.out.toS (by simp), HB5.out⟩
  · have HA1 : Hid (acc1 ts 5 x y = [⟨y, true⟩]) := Lib.hid (by unfold acc1; simp)
    go_wp2_with (at_builtin; go_must (refine wpList_push_ax rfl (.tmp 23) (.tmp 27) rfl HON.out (by omega) (by simp) y true rfl rfl ?_); intro v' w' hP' hE'; (have z0 := (hE'.cell (p := ⟨bx, 0, none⟩) (by show bx < bx + 1; omega)).trans y0); (have z1 := (hE'.cell (p := ⟨bx, 1, none⟩) (by show bx < bx + 1; omega)).trans y1); (have z2 := (hE'.cell (p := ⟨bx, 2, none⟩) (by show bx < bx + 1; omega)).trans y2); (have z3 := (hE'.cell (p := ⟨bx, 3, none⟩) (by show bx < bx + 1; omega)).trans y3); (have z4 := (hE'.cell (p := ⟨bx, 4, none⟩) (by show bx < bx + 1; omega)).trans y4); (have HO := Lib.hid hP'); (have HBE := Lib.hid hE'); clear hP' hE' y0 y1 y2 y3 y4)
    have hsz' := HBE.out.size
    refine (l3Set_any _ _ _ _ _ _).mono ?_
    rintro e w5 ⟨rfl, hb5⟩
    obtain ⟨s, hs⟩ : ∃ s, s = setsP 5 x := ⟨_, rfl⟩
    have HSS := Lib.hid hs
    have HS2 := HS.out
    rw [← hs] at HS2 ⊢
    have HO5 := Lib.hid (HO.out.bel hb5)
    have HT5 := Lib.hid ((HTW.out.low HBE.out (by omega)).low hb5 (by omega))
    have HM5 := Lib.hid ((HMW.out.low HBE.out (by omega)).low hb5 (by omega))
    have HB5 := Lib.hid (HBA.out.trans ((HBE.out.mono (by rw [← HBX.out]; omega)).trans (hb5.mono (by rw [← HBX.out]; omega))))
    have hs5 := hb5.size
    clear z0 z1 z2 z3 z4 hs hb5
    by_cases hs0 : 0 ≤ s
    · have hs1 : decide (s ≥ 0) = true := by simpa using hs0
      have hsl := HS2 hs0
      obtain ⟨k, rfl⟩ : ∃ k : Nat, s = k := ⟨s.toNat, by omega⟩
      have hk6 : k < ts.length := by omega
      have ht := HT5.out
      obtain ⟨bt, ot, ct2, e, hbt, -, -, hct2⟩ := ht.get (i := (k : Nat)) (by omega) hsl
      injection e with e1 e9 e2
      subst e1 e2
      rw [Int.toNat_natCast] at hct2
      clear e9 hs0 hsl HS2 ht
      by_cases hty : typeOfP ts (k : Nat) = 2
      · rw [hty] at hct2
        obtain ⟨Am', cm', e, -, -, hrm⟩ := HM5.out
        injection e with e1 e9 e2
        subst e1 e2
        have hkM : k < M.length := by rw [HML.out]; exact hk6
        obtain ⟨b7, o7, rfl, hb7, hcell7⟩ := hrm.bool_at (k := k) hkM
        have d7 := hcell7 k hkM
        clear hcell7 hrm e9 hkM
        cases hbk : M.getD k false
        · rw [hbk] at d7
          have HL : Hid (accL ts 5 x y (fun v => M.getD v false) = [⟨y, true⟩]) := Lib.hid (by unfold accL acc2; rw [HA1.out, ← HSS.out, if_neg (fun h => by have h3 : M.getD k false = true := (by have h4 := h.2.2; rw [Int.toNat_natCast] at h4; exact h4); rw [hbk] at h3; cases h3), List.append_nil])
          clear hbk
          go_wp2_with (at_builtin; fail)
          go_ret
          exact ⟨_, rfl, by rw [HL.out]; exact HO5.out.toS (by simp), HB5.out⟩
        · rw [hbk] at d7
          have HL : Hid (accL ts 5 x y (fun v => M.getD v false) = [⟨y, true⟩] ++ [⟨(k : Nat), true⟩]) := Lib.hid (by unfold accL acc2; rw [HA1.out, ← HSS.out, if_pos ⟨by omega, hty, by rw [Int.toNat_natCast]; exact hbk⟩])
          clear hbk
          go_wp2_with (at_builtin; go_must (refine wpList_push_ax rfl (.tmp 69) (.tmp 72) rfl HO5.out (by omega) (by simp) (k : Nat) true rfl rfl ?_); intro v9 w9 hP9 hE9)
          go_ret
          exact ⟨_, rfl, by rw [HL.out]; exact hP9.toS (by simp), HB5.out.trans (hE9.mono (by rw [← HBX.out]; omega))⟩
      · have hty2 : ((typeOfP ts (k : Nat)) == 2) = false := by simpa using hty
        have HL : Hid (accL ts 5 x y (fun v => M.getD v false) = [⟨y, true⟩]) := Lib.hid (by unfold accL acc2; rw [HA1.out, ← HSS.out, if_neg (fun h => hty h.2.1), List.append_nil])
        clear hty
        go_wp2_with (at_builtin; fail)
        go_ret
        exact ⟨_, rfl, by rw [HL.out]; exact HO5.out.toS (by simp), HB5.out⟩
    · have hs1 : decide (s ≥ 0) = false := by simpa using hs0
      have HL : Hid (accL ts 5 x y (fun v => M.getD v false) = [⟨y, true⟩]) := Lib.hid (by unfold accL acc2; rw [HA1.out, ← HSS.out, if_neg (fun h => hs0 h.1), List.append_nil])
      clear hs0 HS2
      go_wp2_with (at_builtin; fail)
      go_ret
      exact ⟨_, rfl, by rw [HL.out]; exact HO5.out.toS (by simp), HB5.out⟩
  · have HA1 : Hid (acc1 ts 7 x y = [⟨x, true⟩]) := Lib.hid (by unfold acc1; simp)
    go_wp2_with (at_builtin; go_must (refine wpList_push_ax rfl (.tmp 32) (.tmp 36) rfl HON.out (by omega) (by simp) x true rfl rfl ?_); intro v' w' hP' hE'; (have z0 := (hE'.cell (p := ⟨bx, 0, none⟩) (by show bx < bx + 1; omega)).trans y0); (have z1 := (hE'.cell (p := ⟨bx, 1, none⟩) (by show bx < bx + 1; omega)).trans y1); (have z2 := (hE'.cell (p := ⟨bx, 2, none⟩) (by show bx < bx + 1; omega)).trans y2); (have z3 := (hE'.cell (p := ⟨bx, 3, none⟩) (by show bx < bx + 1; omega)).trans y3); (have z4 := (hE'.cell (p := ⟨bx, 4, none⟩) (by show bx < bx + 1; omega)).trans y4); (have HO := Lib.hid hP'); (have HBE := Lib.hid hE'); clear hP' hE' y0 y1 y2 y3 y4)
    have hsz' := HBE.out.size
    refine (l3Set_any _ _ _ _ _ _).mono ?_
    rintro e w5 ⟨rfl, hb5⟩
    obtain ⟨s, hs⟩ : ∃ s, s = setsP 7 x := ⟨_, rfl⟩
    have HSS := Lib.hid hs
    have HS2 := HS.out
    rw [← hs] at HS2 ⊢
    have HO5 := Lib.hid (HO.out.bel hb5)
    have HT5 := Lib.hid ((HTW.out.low HBE.out (by omega)).low hb5 (by omega))
    have HM5 := Lib.hid ((HMW.out.low HBE.out (by omega)).low hb5 (by omega))
    have HB5 := Lib.hid (HBA.out.trans ((HBE.out.mono (by rw [← HBX.out]; omega)).trans (hb5.mono (by rw [← HBX.out]; omega))))
    have hs5 := hb5.size
    clear z0 z1 z2 z3 z4 hs hb5
    by_cases hs0 : 0 ≤ s
    · have hs1 : decide (s ≥ 0) = true := by simpa using hs0
      have hsl := HS2 hs0
      obtain ⟨k, rfl⟩ : ∃ k : Nat, s = k := ⟨s.toNat, by omega⟩
      have hk6 : k < ts.length := by omega
      have ht := HT5.out
      obtain ⟨bt, ot, ct2, e, hbt, -, -, hct2⟩ := ht.get (i := (k : Nat)) (by omega) hsl
      injection e with e1 e9 e2
      subst e1 e2
      rw [Int.toNat_natCast] at hct2
      clear e9 hs0 hsl HS2 ht
      by_cases hty : typeOfP ts (k : Nat) = 2
      · rw [hty] at hct2
        obtain ⟨Am', cm', e, -, -, hrm⟩ := HM5.out
        injection e with e1 e9 e2
        subst e1 e2
        have hkM : k < M.length := by rw [HML.out]; exact hk6
        obtain ⟨b7, o7, rfl, hb7, hcell7⟩ := hrm.bool_at (k := k) hkM
        have d7 := hcell7 k hkM
        clear hcell7 hrm e9 hkM
        cases hbk : M.getD k false
        · rw [hbk] at d7
          have HL : Hid (accL ts 7 x y (fun v => M.getD v false) = [⟨x, true⟩]) := Lib.hid (by unfold accL acc2; rw [HA1.out, ← HSS.out, if_neg (fun h => by have h3 : M.getD k false = true := (by have h4 := h.2.2; rw [Int.toNat_natCast] at h4; exact h4); rw [hbk] at h3; cases h3), List.append_nil])
          clear hbk
          go_wp2_with (at_builtin; fail)
          go_ret
          exact ⟨_, rfl, by rw [HL.out]; exact HO5.out.toS (by simp), HB5.out⟩
        · rw [hbk] at d7
          have HL : Hid (accL ts 7 x y (fun v => M.getD v false) = [⟨x, true⟩] ++ [⟨(k : Nat), true⟩]) := Lib.hid (by unfold accL acc2; rw [HA1.out, ← HSS.out, if_pos ⟨by omega, hty, by rw [Int.toNat_natCast]; exact hbk⟩])
          clear hbk
          go_wp2_with (at_builtin; go_must (refine wpList_push_ax rfl (.tmp 69) (.tmp 72) rfl HO5.out (by omega) (by simp) (k : Nat) true rfl rfl ?_); intro v9 w9 hP9 hE9)
          go_ret
          exact ⟨_, rfl, by rw [HL.out]; exact hP9.toS (by simp), HB5.out.trans (hE9.mono (by rw [← HBX.out]; omega))⟩
      · have hty2 : ((typeOfP ts (k : Nat)) == 2) = false := by simpa using hty
        have HL : Hid (accL ts 7 x y (fun v => M.getD v false) = [⟨x, true⟩]) := Lib.hid (by unfold accL acc2; rw [HA1.out, ← HSS.out, if_neg (fun h => hty h.2.1), List.append_nil])
        clear hty
        go_wp2_with (at_builtin; fail)
        go_ret
        exact ⟨_, rfl, by rw [HL.out]; exact HO5.out.toS (by simp), HB5.out⟩
    · have hs1 : decide (s ≥ 0) = false := by simpa using hs0
      have HL : Hid (accL ts 7 x y (fun v => M.getD v false) = [⟨x, true⟩]) := Lib.hid (by unfold accL acc2; rw [HA1.out, ← HSS.out, if_neg (fun h => hs0 h.1), List.append_nil])
      clear hs0 HS2
      go_wp2_with (at_builtin; fail)
      go_ret
      exact ⟨_, rfl, by rw [HL.out]; exact HO5.out.toS (by simp), HB5.out⟩
  · have HA1 : Hid (acc1 ts 8 x y = [⟨x, true⟩]) := Lib.hid (by unfold acc1; simp)
    go_wp2_with (at_builtin; go_must (refine wpList_push_ax rfl (.tmp 32) (.tmp 36) rfl HON.out (by omega) (by simp) x true rfl rfl ?_); intro v' w' hP' hE'; (have z0 := (hE'.cell (p := ⟨bx, 0, none⟩) (by show bx < bx + 1; omega)).trans y0); (have z1 := (hE'.cell (p := ⟨bx, 1, none⟩) (by show bx < bx + 1; omega)).trans y1); (have z2 := (hE'.cell (p := ⟨bx, 2, none⟩) (by show bx < bx + 1; omega)).trans y2); (have z3 := (hE'.cell (p := ⟨bx, 3, none⟩) (by show bx < bx + 1; omega)).trans y3); (have z4 := (hE'.cell (p := ⟨bx, 4, none⟩) (by show bx < bx + 1; omega)).trans y4); (have HO := Lib.hid hP'); (have HBE := Lib.hid hE'); clear hP' hE' y0 y1 y2 y3 y4)
    have hsz' := HBE.out.size
    refine (l3Set_any _ _ _ _ _ _).mono ?_
    rintro e w5 ⟨rfl, hb5⟩
    obtain ⟨s, hs⟩ : ∃ s, s = setsP 8 x := ⟨_, rfl⟩
    have HSS := Lib.hid hs
    have HS2 := HS.out
    rw [← hs] at HS2 ⊢
    have HO5 := Lib.hid (HO.out.bel hb5)
    have HT5 := Lib.hid ((HTW.out.low HBE.out (by omega)).low hb5 (by omega))
    have HM5 := Lib.hid ((HMW.out.low HBE.out (by omega)).low hb5 (by omega))
    have HB5 := Lib.hid (HBA.out.trans ((HBE.out.mono (by rw [← HBX.out]; omega)).trans (hb5.mono (by rw [← HBX.out]; omega))))
    have hs5 := hb5.size
    clear z0 z1 z2 z3 z4 hs hb5
    by_cases hs0 : 0 ≤ s
    · have hs1 : decide (s ≥ 0) = true := by simpa using hs0
      have hsl := HS2 hs0
      obtain ⟨k, rfl⟩ : ∃ k : Nat, s = k := ⟨s.toNat, by omega⟩
      have hk6 : k < ts.length := by omega
      have ht := HT5.out
      obtain ⟨bt, ot, ct2, e, hbt, -, -, hct2⟩ := ht.get (i := (k : Nat)) (by omega) hsl
      injection e with e1 e9 e2
      subst e1 e2
      rw [Int.toNat_natCast] at hct2
      clear e9 hs0 hsl HS2 ht
      by_cases hty : typeOfP ts (k : Nat) = 2
      · rw [hty] at hct2
        obtain ⟨Am', cm', e, -, -, hrm⟩ := HM5.out
        injection e with e1 e9 e2
        subst e1 e2
        have hkM : k < M.length := by rw [HML.out]; exact hk6
        obtain ⟨b7, o7, rfl, hb7, hcell7⟩ := hrm.bool_at (k := k) hkM
        have d7 := hcell7 k hkM
        clear hcell7 hrm e9 hkM
        cases hbk : M.getD k false
        · rw [hbk] at d7
          have HL : Hid (accL ts 8 x y (fun v => M.getD v false) = [⟨x, true⟩]) := Lib.hid (by unfold accL acc2; rw [HA1.out, ← HSS.out, if_neg (fun h => by have h3 : M.getD k false = true := (by have h4 := h.2.2; rw [Int.toNat_natCast] at h4; exact h4); rw [hbk] at h3; cases h3), List.append_nil])
          clear hbk
          go_wp2_with (at_builtin; fail)
          go_ret
          exact ⟨_, rfl, by rw [HL.out]; exact HO5.out.toS (by simp), HB5.out⟩
        · rw [hbk] at d7
          have HL : Hid (accL ts 8 x y (fun v => M.getD v false) = [⟨x, true⟩] ++ [⟨(k : Nat), true⟩]) := Lib.hid (by unfold accL acc2; rw [HA1.out, ← HSS.out, if_pos ⟨by omega, hty, by rw [Int.toNat_natCast]; exact hbk⟩])
          clear hbk
          go_wp2_with (at_builtin; go_must (refine wpList_push_ax rfl (.tmp 69) (.tmp 72) rfl HO5.out (by omega) (by simp) (k : Nat) true rfl rfl ?_); intro v9 w9 hP9 hE9)
          go_ret
          exact ⟨_, rfl, by rw [HL.out]; exact hP9.toS (by simp), HB5.out.trans (hE9.mono (by rw [← HBX.out]; omega))⟩
      · have hty2 : ((typeOfP ts (k : Nat)) == 2) = false := by simpa using hty
        have HL : Hid (accL ts 8 x y (fun v => M.getD v false) = [⟨x, true⟩]) := Lib.hid (by unfold accL acc2; rw [HA1.out, ← HSS.out, if_neg (fun h => hty h.2.1), List.append_nil])
        clear hty
        go_wp2_with (at_builtin; fail)
        go_ret
        exact ⟨_, rfl, by rw [HL.out]; exact HO5.out.toS (by simp), HB5.out⟩
    · have hs1 : decide (s ≥ 0) = false := by simpa using hs0
      have HL : Hid (accL ts 8 x y (fun v => M.getD v false) = [⟨x, true⟩]) := Lib.hid (by unfold accL acc2; rw [HA1.out, ← HSS.out, if_neg (fun h => hs0 h.1), List.append_nil])
      clear hs0 HS2
      go_wp2_with (at_builtin; fail)
      go_ret
      exact ⟨_, rfl, by rw [HL.out]; exact HO5.out.toS (by simp), HB5.out⟩
  · obtain ⟨hy0, hyl⟩ := HY.out rfl
    go_wp2_with (at_builtin; fail)
    refine (l3Use_any _ ts B 3 x y n y _ _ HTW.out hBW hy0 hyl).mono ?_
    rintro e W1 ⟨rfl, hb3⟩
    rw [use_takes]
    have HON1 := Lib.hid (HON.out.bel hb3)
    have HTW1 := Lib.hid (HTW.out.low hb3 hBW)
    have HMW1 := Lib.hid (HMW.out.low hb3 hBW)
    have HBA1 := Lib.hid (HBA.out.trans (hb3.mono (by rw [← HBX.out]; omega)))
    have hs3 := hb3.size
    have hbW1 : bx + 1 ≤ W1.heap.size := by omega
    have x0 := (hb3.cell (p := ⟨bx, 0, none⟩) (by show bx < _; omega)).trans y0
    have x1 := (hb3.cell (p := ⟨bx, 1, none⟩) (by show bx < _; omega)).trans y1
    have x2 := (hb3.cell (p := ⟨bx, 2, none⟩) (by show bx < _; omega)).trans y2
    have x3 := (hb3.cell (p := ⟨bx, 3, none⟩) (by show bx < _; omega)).trans y3
    have x4 := (hb3.cell (p := ⟨bx, 4, none⟩) (by show bx < _; omega)).trans y4
    clear y0 y1 y2 y3 y4 HON HTW HMW HBA hb3
    have y0 := x0
    have y1 := x1
    have y2 := x2
    have y3 := x3
    have y4 := x4
    have HON := HON1
    have HTW := HTW1
    have HMW := HMW1
    have HBA := HBA1
    clear x0 x1 x2 x3 x4 HON1 HTW1 HMW1 HBA1
    cases htk : takesP ts y
    · have HA1 : Hid (acc1 ts 3 x y = []) := Lib.hid (by unfold acc1; rw [htk]; simp)
      go_wp2_with (at_builtin; fail)
      have z0 := y0
      have z1 := y1
      have z2 := y2
      have z3 := y3
      have z4 := y4
      have HO := HON
      have HBE := Lib.hid (Below.refl (bx + 1) W1)
      clear y0 y1 y2 y3 y4
      obtain ⟨w', rfl⟩ : ∃ w' : World, w' = W1 := ⟨_, rfl⟩
      have hsz' := HBE.out.size
      refine (l3Set_any _ _ _ _ _ _).mono ?_
      rintro e w5 ⟨rfl, hb5⟩
      obtain ⟨s, hs⟩ : ∃ s, s = setsP 3 x := ⟨_, rfl⟩
      have HSS := Lib.hid hs
      have HS2 := HS.out
      rw [← hs] at HS2 ⊢
      have HO5 := Lib.hid (HO.out.bel hb5)
      have HT5 := Lib.hid ((HTW.out.low HBE.out (by omega)).low hb5 (by omega))
      have HM5 := Lib.hid ((HMW.out.low HBE.out (by omega)).low hb5 (by omega))
      have HB5 := Lib.hid (HBA.out.trans ((HBE.out.mono (by rw [← HBX.out]; omega)).trans (hb5.mono (by rw [← HBX.out]; omega))))
      have hs5 := hb5.size
      clear z0 z1 z2 z3 z4 hs hb5
      by_cases hs0 : 0 ≤ s
      · have hs1 : decide (s ≥ 0) = true := by simpa using hs0
        have hsl := HS2 hs0
        obtain ⟨k, rfl⟩ : ∃ k : Nat, s = k := ⟨s.toNat, by omega⟩
        have hk6 : k < ts.length := by omega
        have ht := HT5.out
        obtain ⟨bt, ot, ct2, e, hbt, -, -, hct2⟩ := ht.get (i := (k : Nat)) (by omega) hsl
        injection e with e1 e9 e2
        subst e1 e2
        rw [Int.toNat_natCast] at hct2
        clear e9 hs0 hsl HS2 ht
        by_cases hty : typeOfP ts (k : Nat) = 2
        · rw [hty] at hct2
          obtain ⟨Am', cm', e, -, -, hrm⟩ := HM5.out
          injection e with e1 e9 e2
          subst e1 e2
          have hkM : k < M.length := by rw [HML.out]; exact hk6
          obtain ⟨b7, o7, rfl, hb7, hcell7⟩ := hrm.bool_at (k := k) hkM
          have d7 := hcell7 k hkM
          clear hcell7 hrm e9 hkM
          cases hbk : M.getD k false
          · rw [hbk] at d7
            have HL : Hid (accL ts 3 x y (fun v => M.getD v false) = []) := Lib.hid (by unfold accL acc2; rw [HA1.out, ← HSS.out, if_neg (fun h => by have h3 : M.getD k false = true := (by have h4 := h.2.2; rw [Int.toNat_natCast] at h4; exact h4); rw [hbk] at h3; cases h3), List.append_nil])
            clear hbk
            go_wp2_with (at_builtin; fail)
            go_ret
            exact ⟨_, rfl, by rw [HL.out]; exact HO5.out.toS (by simp), HB5.out⟩
          · rw [hbk] at d7
            have HL : Hid (accL ts 3 x y (fun v => M.getD v false) = [] ++ [⟨(k : Nat), true⟩]) := Lib.hid (by unfold accL acc2; rw [HA1.out, ← HSS.out, if_pos ⟨by omega, hty, by rw [Int.toNat_natCast]; exact hbk⟩])
            clear hbk
            go_wp2_with (at_builtin; go_must (refine wpList_push_ax rfl (.tmp 69) (.tmp 72) rfl HO5.out (by omega) (by simp) (k : Nat) true rfl rfl ?_); intro v9 w9 hP9 hE9)
            go_ret
            exact ⟨_, rfl, by rw [HL.out]; exact hP9.toS (by simp), HB5.out.trans (hE9.mono (by rw [← HBX.out]; omega))⟩
        · have hty2 : ((typeOfP ts (k : Nat)) == 2) = false := by simpa using hty
          have HL : Hid (accL ts 3 x y (fun v => M.getD v false) = []) := Lib.hid (by unfold accL acc2; rw [HA1.out, ← HSS.out, if_neg (fun h => hty h.2.1), List.append_nil])
          clear hty
          go_wp2_with (at_builtin; fail)
          go_ret
          exact ⟨_, rfl, by rw [HL.out]; exact HO5.out.toS (by simp), HB5.out⟩
      · have hs1 : decide (s ≥ 0) = false := by simpa using hs0
        have HL : Hid (accL ts 3 x y (fun v => M.getD v false) = []) := Lib.hid (by unfold accL acc2; rw [HA1.out, ← HSS.out, if_neg (fun h => hs0 h.1), List.append_nil])
        clear hs0 HS2
        go_wp2_with (at_builtin; fail)
        go_ret
        exact ⟨_, rfl, by rw [HL.out]; exact HO5.out.toS (by simp), HB5.out⟩
    · have HA1 : Hid (acc1 ts 3 x y = [⟨y, true⟩]) := Lib.hid (by unfold acc1; rw [htk]; simp)
      go_wp2_with (at_builtin; go_must (refine wpList_push_ax rfl (.tmp 46) (.tmp 50) rfl HON.out (by omega) (by simp) y true rfl rfl ?_); intro v' w' hP' hE'; (have z0 := (hE'.cell (p := ⟨bx, 0, none⟩) (by show bx < bx + 1; omega)).trans y0); (have z1 := (hE'.cell (p := ⟨bx, 1, none⟩) (by show bx < bx + 1; omega)).trans y1); (have z2 := (hE'.cell (p := ⟨bx, 2, none⟩) (by show bx < bx + 1; omega)).trans y2); (have z3 := (hE'.cell (p := ⟨bx, 3, none⟩) (by show bx < bx + 1; omega)).trans y3); (have z4 := (hE'.cell (p := ⟨bx, 4, none⟩) (by show bx < bx + 1; omega)).trans y4); (have HO := Lib.hid hP'); (have HBE := Lib.hid hE'); clear hP' hE' y0 y1 y2 y3 y4)
      have hsz' := HBE.out.size
      refine (l3Set_any _ _ _ _ _ _).mono ?_
      rintro e w5 ⟨rfl, hb5⟩
      obtain ⟨s, hs⟩ : ∃ s, s = setsP 3 x := ⟨_, rfl⟩
      have HSS := Lib.hid hs
      have HS2 := HS.out
      rw [← hs] at HS2 ⊢
      have HO5 := Lib.hid (HO.out.bel hb5)
      have HT5 := Lib.hid ((HTW.out.low HBE.out (by omega)).low hb5 (by omega))
      have HM5 := Lib.hid ((HMW.out.low HBE.out (by omega)).low hb5 (by omega))
      have HB5 := Lib.hid (HBA.out.trans ((HBE.out.mono (by rw [← HBX.out]; omega)).trans (hb5.mono (by rw [← HBX.out]; omega))))
      have hs5 := hb5.size
      clear z0 z1 z2 z3 z4 hs hb5
      by_cases hs0 : 0 ≤ s
      · have hs1 : decide (s ≥ 0) = true := by simpa using hs0
        have hsl := HS2 hs0
        obtain ⟨k, rfl⟩ : ∃ k : Nat, s = k := ⟨s.toNat, by omega⟩
        have hk6 : k < ts.length := by omega
        have ht := HT5.out
        obtain ⟨bt, ot, ct2, e, hbt, -, -, hct2⟩ := ht.get (i := (k : Nat)) (by omega) hsl
        injection e with e1 e9 e2
        subst e1 e2
        rw [Int.toNat_natCast] at hct2
        clear e9 hs0 hsl HS2 ht
        by_cases hty : typeOfP ts (k : Nat) = 2
        · rw [hty] at hct2
          obtain ⟨Am', cm', e, -, -, hrm⟩ := HM5.out
          injection e with e1 e9 e2
          subst e1 e2
          have hkM : k < M.length := by rw [HML.out]; exact hk6
          obtain ⟨b7, o7, rfl, hb7, hcell7⟩ := hrm.bool_at (k := k) hkM
          have d7 := hcell7 k hkM
          clear hcell7 hrm e9 hkM
          cases hbk : M.getD k false
          · rw [hbk] at d7
            have HL : Hid (accL ts 3 x y (fun v => M.getD v false) = [⟨y, true⟩]) := Lib.hid (by unfold accL acc2; rw [HA1.out, ← HSS.out, if_neg (fun h => by have h3 : M.getD k false = true := (by have h4 := h.2.2; rw [Int.toNat_natCast] at h4; exact h4); rw [hbk] at h3; cases h3), List.append_nil])
            clear hbk
            go_wp2_with (at_builtin; fail)
            go_ret
            exact ⟨_, rfl, by rw [HL.out]; exact HO5.out.toS (by simp), HB5.out⟩
          · rw [hbk] at d7
            have HL : Hid (accL ts 3 x y (fun v => M.getD v false) = [⟨y, true⟩] ++ [⟨(k : Nat), true⟩]) := Lib.hid (by unfold accL acc2; rw [HA1.out, ← HSS.out, if_pos ⟨by omega, hty, by rw [Int.toNat_natCast]; exact hbk⟩])
            clear hbk
            go_wp2_with (at_builtin; go_must (refine wpList_push_ax rfl (.tmp 69) (.tmp 72) rfl HO5.out (by omega) (by simp) (k : Nat) true rfl rfl ?_); intro v9 w9 hP9 hE9)
            go_ret
            exact ⟨_, rfl, by rw [HL.out]; exact hP9.toS (by simp), HB5.out.trans (hE9.mono (by rw [← HBX.out]; omega))⟩
        · have hty2 : ((typeOfP ts (k : Nat)) == 2) = false := by simpa using hty
          have HL : Hid (accL ts 3 x y (fun v => M.getD v false) = [⟨y, true⟩]) := Lib.hid (by unfold accL acc2; rw [HA1.out, ← HSS.out, if_neg (fun h => hty h.2.1), List.append_nil])
          clear hty
          go_wp2_with (at_builtin; fail)
          go_ret
          exact ⟨_, rfl, by rw [HL.out]; exact HO5.out.toS (by simp), HB5.out⟩
      · have hs1 : decide (s ≥ 0) = false := by simpa using hs0
        have HL : Hid (accL ts 3 x y (fun v => M.getD v false) = [⟨y, true⟩]) := Lib.hid (by unfold accL acc2; rw [HA1.out, ← HSS.out, if_neg (fun h => hs0 h.1), List.append_nil])
        clear hs0 HS2
        go_wp2_with (at_builtin; fail)
        go_ret
        exact ⟨_, rfl, by rw [HL.out]; exact HO5.out.toS (by simp), HB5.out⟩
  · obtain ⟨h3, h4, h5, h6', h7, h8⟩ := ho
    have k3 : (op == 3) = false := by simpa using h3
    have k4 : (op == 4) = false := by simpa using h4
    have k5 : (op == 5) = false := by simpa using h5
    have k6 : (op == 6) = false := by simpa using h6'
    have k7 : (op == 7) = false := by simpa using h7
    have k8 : (op == 8) = false := by simpa using h8
    have HA1 : Hid (acc1 ts op x y = []) := Lib.hid (by unfold acc1; simp [h3, h4, h5, h6', h7, h8])
    clear h3 h4 h5 h6' h7 h8
    go_wp2_with (at_builtin; fail)
    have z0 := y0
    have z1 := y1
    have z2 := y2
    have z3 := y3
    have z4 := y4
    have HO := HON
    have HBE := Lib.hid (Below.refl (bx + 1) W0)
    clear y0 y1 y2 y3 y4
    obtain ⟨w', rfl⟩ : ∃ w' : World, w' = W0 := ⟨_, rfl⟩
    have hsz' := HBE.out.size
    refine (l3Set_any _ _ _ _ _ _).mono ?_
    rintro e w5 ⟨rfl, hb5⟩
    obtain ⟨s, hs⟩ : ∃ s, s = setsP op x := ⟨_, rfl⟩
    have HSS := Lib.hid hs
    have HS2 := HS.out
    rw [← hs] at HS2 ⊢
    have HO5 := Lib.hid (HO.out.bel hb5)
    have HT5 := Lib.hid ((HTW.out.low HBE.out (by omega)).low hb5 (by omega))
    have HM5 := Lib.hid ((HMW.out.low HBE.out (by omega)).low hb5 (by omega))
    have HB5 := Lib.hid (HBA.out.trans ((HBE.out.mono (by rw [← HBX.out]; omega)).trans (hb5.mono (by rw [← HBX.out]; omega))))
    have hs5 := hb5.size
    clear z0 z1 z2 z3 z4 hs hb5
    by_cases hs0 : 0 ≤ s
    · have hs1 : decide (s ≥ 0) = true := by simpa using hs0
      have hsl := HS2 hs0
      obtain ⟨k, rfl⟩ : ∃ k : Nat, s = k := ⟨s.toNat, by omega⟩
      have hk6 : k < ts.length := by omega
      have ht := HT5.out
      obtain ⟨bt, ot, ct2, e, hbt, -, -, hct2⟩ := ht.get (i := (k : Nat)) (by omega) hsl
      injection e with e1 e9 e2
      subst e1 e2
      rw [Int.toNat_natCast] at hct2
      clear e9 hs0 hsl HS2 ht
      by_cases hty : typeOfP ts (k : Nat) = 2
      · rw [hty] at hct2
        obtain ⟨Am', cm', e, -, -, hrm⟩ := HM5.out
        injection e with e1 e9 e2
        subst e1 e2
        have hkM : k < M.length := by rw [HML.out]; exact hk6
        obtain ⟨b7, o7, rfl, hb7, hcell7⟩ := hrm.bool_at (k := k) hkM
        have d7 := hcell7 k hkM
        clear hcell7 hrm e9 hkM
        cases hbk : M.getD k false
        · rw [hbk] at d7
          have HL : Hid (accL ts op x y (fun v => M.getD v false) = []) := Lib.hid (by unfold accL acc2; rw [HA1.out, ← HSS.out, if_neg (fun h => by have h3 : M.getD k false = true := (by have h4 := h.2.2; rw [Int.toNat_natCast] at h4; exact h4); rw [hbk] at h3; cases h3), List.append_nil])
          clear hbk
          go_wp2_with (at_builtin; fail)
          go_ret
          exact ⟨_, rfl, by rw [HL.out]; exact HO5.out.toS (by simp), HB5.out⟩
        · rw [hbk] at d7
          have HL : Hid (accL ts op x y (fun v => M.getD v false) = [] ++ [⟨(k : Nat), true⟩]) := Lib.hid (by unfold accL acc2; rw [HA1.out, ← HSS.out, if_pos ⟨by omega, hty, by rw [Int.toNat_natCast]; exact hbk⟩])
          clear hbk
          go_wp2_with (at_builtin; go_must (refine wpList_push_ax rfl (.tmp 69) (.tmp 72) rfl HO5.out (by omega) (by simp) (k : Nat) true rfl rfl ?_); intro v9 w9 hP9 hE9)
          go_ret
          exact ⟨_, rfl, by rw [HL.out]; exact hP9.toS (by simp), HB5.out.trans (hE9.mono (by rw [← HBX.out]; omega))⟩
      · have hty2 : ((typeOfP ts (k : Nat)) == 2) = false := by simpa using hty
        have HL : Hid (accL ts op x y (fun v => M.getD v false) = []) := Lib.hid (by unfold accL acc2; rw [HA1.out, ← HSS.out, if_neg (fun h => hty h.2.1), List.append_nil])
        clear hty
        go_wp2_with (at_builtin; fail)
        go_ret
        exact ⟨_, rfl, by rw [HL.out]; exact HO5.out.toS (by simp), HB5.out⟩
    · have hs1 : decide (s ≥ 0) = false := by simpa using hs0
      have HL : Hid (accL ts op x y (fun v => M.getD v false) = []) := Lib.hid (by unfold accL acc2; rw [HA1.out, ← HSS.out, if_neg (fun h => hs0 h.1), List.append_nil])
      clear hs0 HS2
      go_wp2_with (at_builtin; fail)
      go_ret
      exact ⟨_, rfl, by rw [HL.out]; exact HO5.out.toS (by simp), HB5.out⟩

set_option maxHeartbeats 2000000 in
set_option maxRecDepth 100000 in
theorem sAccessesOf_any (vt vb : Value) (ts : List Int) (l : List St) (a : Int) (B : Nat) (w : World) (ht : IntS w B vt ts) (hl : StS w B vb l) (hB : B ≤ w.heap.size) (hsz : szL l ≤ 4194300) :
    Calls Try.prog 49 #[.agg #[vt, vb], .int .i64 a] w (AxRet w (accRes ts l a)) := by
  have HBX := Lib.hid (Boxed.new ht hl hB 26)
  obtain ⟨At, ct, rfl, hct, -, -⟩ := ht
  obtain ⟨Ab, cb, rfl, hcb⟩ := hl.slice
  clear hl
  go_enter Try.func49, Try.ntmps49
  go_wp2_with fail
  refine (sPointsOf_any _ _ ts l B _ HBX.out.ht HBX.out.hl (by have := HBX.out.lt; omega) hsz).mono ?_
  rintro e w1 ⟨vp, rfl, hps, hb1⟩
  have HB1 := Lib.hid (HBX.out.bels hb1 hB)
  have HPS := Lib.hid hps
  have c0 := HB1.out.c0
  have c1 := HB1.out.c1
  have hlt1 := HB1.out.lt
  obtain ⟨Ap, cp, rfl, hcp, hpl⟩ := hps.slice
  clear hps hb1
  by_cases ha : a < 0
  · have HRES : Hid (accRes ts l a = []) := Lib.hid (by unfold accRes; rw [graphOk_no (.inl ha)]; rfl)
    have ha1 : decide (a < 0) = true := by simpa using ha
    clear ha
    go_wp2_with fail
    go_ret
    exact ⟨_, rfl, by rw [HRES.out]; exact (OAx.empty w1 0 (by omega)).toS (by simp), HB1.out.bel.trans ((bel_a _ _).mono HB1.out.bel.size)⟩
  · have ha1 : decide (a < 0) = false := by simpa using ha
    by_cases hal : a < (pointsP ts l).length
    · obtain ⟨hv, hpe, hok⟩ := graphOk_yes (by omega) hal
      rw [hpe] at HPS hcp hpl hal ⊢
      obtain ⟨k, rfl⟩ : ∃ k : Nat, a = k := ⟨a.toNat, by omega⟩
      have hk : k < (ptsP l).length := by omega
      have G := Good.of_valid hv
      have HV := Lib.hid hv
      have HKP := Lib.hid hk
      have HH6 := Lib.hid G.h6
      have HSL := Lib.hid (fun (_ : 0 ≤ setsP (ptsP l)[k].op (ptsP l)[k].x) => (G.ok _ (List.getElem_mem hk)).sets)
      have HYL := Lib.hid (fun (ho : (ptsP l)[k].op = 3) => G.y (List.getElem?_eq_getElem hk) (by omega))
      have HRES : Hid (accRes ts l (k : Nat) = accL ts (ptsP l)[k].op (ptsP l)[k].x (ptsP l)[k].y (fun v => dec (Ac false ts (ptsP l) 0 k v))) := Lib.hid (by
        unfold accRes
        rw [if_pos hok, ptAt_nat hk]
        rfl)
      have hal1 : decide ((k : Int) ≥ ((ptsP l).length : Nat)) = false := by simp; omega
      obtain ⟨bp, op, cp', nv, e, hbp, hcp', hlp, hnx, z0, z1, z2, z3, z4⟩ := HPS.out.get hk
      injection e with e1 e9 e2
      subst e1 e2
      obtain ⟨An, cn, rfl, hcn, hln, -⟩ := hnx
      simp only [List.length_map] at z4 hcn hln
      generalize (ptsP l)[k] = P at *
      clear e9 hv hpe hok hal G hcp' hlp ha
      have BEL : Hid (∀ w', w'.cell? ⟨w.heap.size, 0, none⟩ = some (.slice At ts.length ct) ∧ w'.cell? ⟨w.heap.size, 1, none⟩ = some (.slice Ab l.length cb) ∧ w'.cell? ⟨bp, op + k * 5, none⟩ = some (.int .i64 P.op) ∧ w'.cell? ⟨bp, op + k * 5 + 1, none⟩ = some (.int .i64 P.x) ∧ w'.cell? ⟨bp, op + k * 5 + 2, none⟩ = some (.int .i64 P.y) ∧ w'.cell? ⟨bp, op + k * 5 + 3, none⟩ = some (.int .i64 P.n) ∧ w'.cell? ⟨bp, op + k * 5 + 4, none⟩ = some (.slice An P.next.length cn) ∧ Below w1.heap.size w1 w' → Below w1.heap.size w1 w') := Lib.hid fun _ h => h.2.2.2.2.2.2.2
      go_wp2_with fail
      refine wp_region_held_drew (S := (fun w' => w'.cell? ⟨w.heap.size, 0, none⟩ = some (.slice At ts.length ct) ∧ w'.cell? ⟨w.heap.size, 1, none⟩ = some (.slice Ab l.length cb) ∧ w'.cell? ⟨bp, op + k * 5, none⟩ = some (.int .i64 P.op) ∧ w'.cell? ⟨bp, op + k * 5 + 1, none⟩ = some (.int .i64 P.x) ∧ w'.cell? ⟨bp, op + k * 5 + 2, none⟩ = some (.int .i64 P.y) ∧ w'.cell? ⟨bp, op + k * 5 + 3, none⟩ = some (.int .i64 P.n) ∧ w'.cell? ⟨bp, op + k * 5 + 4, none⟩ = some (.slice An P.next.length cn) ∧ Below w1.heap.size w1 w')) (by kernel_rfl) ?_ (fun hHeld => ?_)
      · exact ⟨c0, c1, z0, z1, z2, z3, z4, (Below.refl _ _).drew⟩
      refine wpAnyH_take (i := 0) (oi := ⟨some 17, _, _, _, _, _⟩) (v := ?_) rfl (by kernel_rfl) (by kernel_rfl) (by kernel_rfl) (fun _ _ _ h => h) (Or.inl ⟨by rfl, fun w' hSw => ?_⟩) (by assumption) ?_
      rotate_left
      · (try dsimp only at hSw); go_simp; (try with_reducible rfl)
      (try simp only [Act.put, List.setIfInBounds_toArray, List.set_cons_zero, List.set_cons_succ])
      refine wpAnyH_take (i := 1) (oi := ⟨some 18, _, _, _, _, _⟩) (v := ?_) rfl (by kernel_rfl) (by kernel_rfl) (by kernel_rfl) (fun _ _ _ h => h) (Or.inl ⟨by rfl, fun w' hSw => ?_⟩) (by assumption) ?_
      rotate_left
      · (try dsimp only at hSw); go_simp; (try with_reducible rfl)
      (try simp only [Act.put, List.setIfInBounds_toArray, List.set_cons_zero, List.set_cons_succ])
      refine wpAnyH_take (i := 2) (oi := ⟨some 19, _, _, _, _, _⟩) (v := ?_) rfl (by kernel_rfl) (by kernel_rfl) (by kernel_rfl) (fun _ _ _ h => h) (Or.inl ⟨by rfl, fun w' hSw => ?_⟩) (by assumption) ?_
      rotate_left
      · (try dsimp only at hSw); go_simp; (try with_reducible rfl)
      (try simp only [Act.put, List.setIfInBounds_toArray, List.set_cons_zero, List.set_cons_succ])
      refine wpAnyH_take (i := 3) (oi := ⟨some 20, _, _, _, _, _⟩) (v := ?_) rfl (by kernel_rfl) (by kernel_rfl) (by kernel_rfl) (fun _ _ _ h => h) (Or.inl ⟨by rfl, fun w' hSw => ?_⟩) (by assumption) ?_
      rotate_left
      · (try dsimp only at hSw); go_simp; (try with_reducible rfl)
      (try simp only [Act.put, List.setIfInBounds_toArray, List.set_cons_zero, List.set_cons_succ])
      refine wpAnyH_take (i := 4) (oi := ⟨some 21, _, _, _, _, _⟩) (v := ?_) rfl (by kernel_rfl) (by kernel_rfl) (by kernel_rfl) (fun _ _ _ h => h) (Or.inl ⟨by rfl, fun w' hSw => ?_⟩) (by assumption) ?_
      rotate_left
      · (try dsimp only at hSw); go_simp; (try with_reducible rfl)
      (try simp only [Act.put, List.setIfInBounds_toArray, List.set_cons_zero, List.set_cons_succ])
      refine wpAnyH_take (i := 5) (oi := ⟨some 22, _, _, _, _, _⟩) (v := ?_) rfl (by kernel_rfl) (by kernel_rfl) (by kernel_rfl) (fun _ _ _ h => h) (Or.inl ⟨by rfl, fun w' hSw => ?_⟩) (by assumption) ?_
      rotate_left
      · (try dsimp only at hSw); go_simp; (try with_reducible rfl)
      (try simp only [Act.put, List.setIfInBounds_toArray, List.set_cons_zero, List.set_cons_succ])
      refine wpAnyH_take (i := 6) (oi := ⟨some 23, _, _, _, _, _⟩) (v := ?_) rfl (by kernel_rfl) (by kernel_rfl) (by kernel_rfl) (fun _ _ _ h => h) (Or.inl ⟨by rfl, fun w' hSw => ?_⟩) (by assumption) ?_
      rotate_left
      · (try dsimp only at hSw); go_simp; (try with_reducible rfl)
      (try simp only [Act.put, List.setIfInBounds_toArray, List.set_cons_zero, List.set_cons_succ])
      refine wpAnyH_take (i := 8) (oi := ⟨some 25, _, _, _, _, _⟩) (v := ?_) rfl (by kernel_rfl) (by kernel_rfl) (by kernel_rfl) (fun _ _ _ h => h) (Or.inl ⟨by rfl, fun w' hSw => ?_⟩) (by assumption) ?_
      rotate_left
      · (try dsimp only at hSw); go_simp; (try with_reducible rfl)
      (try simp only [Act.put, List.setIfInBounds_toArray, List.set_cons_zero, List.set_cons_succ])
      refine wpAnyH_ready (rs := [7]) (by kernel_rfl) (by simp) ?_
      refine AllReadyH.cons (o := ⟨some 24, _, _, _, _, _⟩) rfl (fun K hK => ?_) AllReadyH.nil
      go_simp
      (refine (l3Forward_any _ _ false ts l B _ (HB1.out.ht.low (BEL.out _ (by assumption)) (by omega)) (HB1.out.hl.low (BEL.out _ (by assumption)) (by omega)) (by have := (BEL.out _ (by assumption)).size; omega) HV.out).mono ?_)
      (rintro e w7 ⟨G, S, vs, rows, seen, vq, rfl, hG, hfq, hrl, hac, hb7⟩)
      (have BX7 := Lib.hid ((BEL.out _ (by assumption)).trans (hb7.mono (BEL.out _ (by assumption)).size)))
      (have hkl : k < rows.length := by rw [hrl]; exact HKP.out)
      (obtain ⟨hlk, hval⟩ := hac k HKP.out)
      (obtain ⟨Ak, ck, evk, -⟩ := (hfq.row k hkl).slice)
      (have hold := hfq.old hkl (by have := HH6.out; omega) evk)
      (rw [hlk] at evk hold)
      (have d7 := hfq.cellG hkl evk)
      (have HBO := Lib.hid hold)
      (have HLK := Lib.hid hlk)
      (have HAC := Lib.hid (accL_congr (op := P.op) (x := P.x) (y := P.y) (ts := ts) (f := fun v => (rows.getD k []).getD v false) (h := fun v => dec (Ac false ts (ptsP l) 0 k v)) HSL.out (fun v hv => by have := hval v hv; unfold rget at this; rw [this]; cases dec (Ac false ts (ptsP l) 0 k v) <;> rfl)))
      clear evk hval hac hfq hrl hlk hold hkl hb7
      go_simp
      refine hK.out _ _ ?_ (fun hHeld => ?_)
      · exact ⟨belC BX7.out c0 hlt1, belC BX7.out c1 hlt1, belC BX7.out z0 hbp, belC BX7.out z1 hbp, belC BX7.out z2 hbp, belC BX7.out z3 hbp, belC BX7.out z4 hbp, BX7.out⟩
      clear hK K
      (try simp only [Act.put, List.setIfInBounds_toArray, List.set_cons_zero, List.set_cons_succ])
      refine wpAnyH_take (i := 9) (oi := ⟨some 26, _, _, _, _, _⟩) (v := ?_) rfl (by kernel_rfl) (by kernel_rfl) (by kernel_rfl) (fun _ _ _ h => h) (Or.inl ⟨by rfl, fun w' hSw => ?_⟩) (by assumption) ?_
      rotate_left
      · (try dsimp only at hSw); go_simp; (try with_reducible rfl)
      (try simp only [Act.put, List.setIfInBounds_toArray, List.set_cons_zero, List.set_cons_succ])
      refine wpAnyH_ready (rs := [10]) (by kernel_rfl) (by simp) ?_
      refine AllReadyH.cons (o := ⟨some 27, _, _, _, _, _⟩) rfl (fun K hK => ?_) AllReadyH.nil
      go_simp
      refine hK.out _ _ ?_ (fun hHeld => ?_)
      · exact ⟨belC BX7.out c0 hlt1, belC BX7.out c1 hlt1, belC BX7.out z0 hbp, belC BX7.out z1 hbp, belC BX7.out z2 hbp, belC BX7.out z3 hbp, belC BX7.out z4 hbp, BX7.out⟩
      clear hK K
      (try simp only [Act.put, List.setIfInBounds_toArray, List.set_cons_zero, List.set_cons_succ])
      refine wpAnyH_ready (rs := [11]) (by kernel_rfl) (by simp) ?_
      refine AllReadyH.cons (o := ⟨some 28, _, _, _, _, _⟩) rfl (fun K hK => ?_) AllReadyH.nil
      go_simp
      (refine (l4Accesses_any At ct ts _ P.op P.x P.y P.n An P.next.length cn Ak ck (rows.getD k []) _ ((HB1.out.ht.low BX7.out (by omega)).more (B' := w7.heap.size) (by have := BX7.out.size; omega)) HBO.out HLK.out (Nat.le_refl _) HH6.out HSL.out HYL.out).mono ?_)
      (rintro e w8 ⟨v8, rfl, hv8, hb8⟩)
      (rw [HAC.out] at hv8)
      (have HV8 := Lib.hid hv8)
      (have BX8 := Lib.hid (BX7.out.trans (hb8.mono BX7.out.size)))
      clear hv8 hb8
      go_simp
      refine hK.out _ _ ?_ (fun hHeld => ?_)
      · exact ⟨belC BX8.out c0 hlt1, belC BX8.out c1 hlt1, belC BX8.out z0 hbp, belC BX8.out z1 hbp, belC BX8.out z2 hbp, belC BX8.out z3 hbp, belC BX8.out z4 hbp, BX8.out⟩
      clear hK K
      (try simp only [Act.put, List.setIfInBounds_toArray, List.set_cons_zero, List.set_cons_succ])
      refine wpAnyH_take (i := 12) (oi := ⟨some 4, _, _, _, _, _⟩) (v := ?_) rfl (by kernel_rfl) (by kernel_rfl) (by kernel_rfl) (fun _ _ _ h => h) (Or.inl ⟨by rfl, fun w' hSw => ?_⟩) (by assumption) ?_
      rotate_left
      · (try dsimp only at hSw); go_simp; (try with_reducible rfl)
      (try simp only [Act.put, List.setIfInBounds_toArray, List.set_cons_zero, List.set_cons_succ])
      refine wpAnyH_done (by kernel_rfl) ?_ _
      go_wp2_with fail
      go_ret
      exact ⟨_, rfl, by rw [HRES.out]; exact HV8.out, HB1.out.bel.trans (BX8.out.mono HB1.out.bel.size)⟩
    · have HRES : Hid (accRes ts l a = []) := Lib.hid (by unfold accRes; rw [graphOk_no (.inr (by omega))]; rfl)
      generalize (pointsP ts l).length = np at *
      have hal1 : decide (a ≥ (np : Nat)) = true := by simpa using hal
      go_wp2_with fail
      go_ret
      exact ⟨_, rfl, by rw [HRES.out]; exact (OAx.empty w1 0 (by omega)).toS (by simp), HB1.out.bel.trans ((bel_a _ _).mono HB1.out.bel.size)⟩

end Go.Proofs.Yteaddodjijlpjaa
