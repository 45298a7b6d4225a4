import Derived.Test.YtfioaohadanjmaaB28
import Derived.Test.YtfioaohadanjmaaB12
import Derived.Test.YtfioaohadanjmaaB07
import Derived.ChangeArms
import Derived.ChangeSlices
import Derived.Deep.Slices
set_option linter.unusedVariables false

/- spec.l7Right, spec.RunProgram, spec.CellsMade. -/
namespace Go.Proofs.Ytfioaohadanjmaa
open Go.RowKit Go.Lib

theorem runOk_parts {ts : List Int} {l : List St} {most : Int} (h : runOk ts l most = true) : validP ts l = true ∧ ∃ m : Nat, most = m ∧ m ≤ 150 := by
  unfold runOk at h
  rw [Bool.and_eq_true] at h
  refine ⟨h.1, most.toNat, ?_⟩
  have h2 := h.2
  simp only [withinP, Bool.and_eq_true, decide_eq_true_eq] at h2
  omega
set_option maxHeartbeats 4000000 in
set_option maxRecDepth 100000 in
theorem l7Right_any (vt vb : Value) (ts : List Int) (l : List St) (most : Int) (B : Nat) (w : World) (ht : IntS w B vt ts) (hl : StS w B vb l) (hB : B ≤ w.heap.size) (hsz : szL l ≤ 4194300) :
    Calls Try.prog 52 #[.agg #[vt, vb], .int .i64 most] w fun e w' => e = .returned (.bool (runOk ts l most)) ∧ Below w.heap.size w w' := by
  have HPV := Lib.hid (sProgramValid_any vt vb ts l B (w.alloc (.cells #[vt, vb] 30)) (ht.low (bel_a w _) hB) (hl.low (bel_a w _) hB) (by simp; omega) (by omega))
  have HB0 := Lib.hid (bel_a w (.cells #[vt, vb] 30))
  go_enter Try.func52, Try.ntmps52
  go_wp2_with (at_builtin; fail)
  refine HPV.out.mono ?_
  rintro e w1 ⟨rfl, hb1⟩
  have HB1 := Lib.hid (HB0.out.trans (hb1.mono (by simp)))
  clear hb1
  cases hv : validP ts l
  · have HR : Hid (runOk ts l most = false) := Lib.hid (by unfold runOk; rw [hv]; rfl)
    clear hv
    go_wp2_with (at_builtin; fail)
    go_ret
    exact ⟨by rw [HR.out]; rfl, HB1.out⟩
  · by_cases h0 : 0 ≤ most
    · have q0 : decide (most ≥ 0) = true := decide_eq_true h0
      by_cases h1 : most ≤ 150
      · have q1 : decide (most ≤ 150) = true := decide_eq_true h1
        have HR : Hid (runOk ts l most = true) := Lib.hid (by unfold runOk withinP; rw [hv, decide_eq_true h0, decide_eq_true h1]; rfl)
        clear hv
        go_wp2_with (at_builtin; fail)
        go_ret
        exact ⟨by rw [HR.out]; rfl, HB1.out⟩
      · have q1 : decide (most ≤ 150) = false := decide_eq_false h1
        have HR : Hid (runOk ts l most = false) := Lib.hid (by unfold runOk withinP; rw [hv, decide_eq_true h0, decide_eq_false h1]; rfl)
        clear hv
        go_wp2_with (at_builtin; fail)
        go_ret
        exact ⟨by rw [HR.out]; rfl, HB1.out⟩
    · have q0 : decide (most ≥ 0) = false := decide_eq_false h0
      have HR : Hid (runOk ts l most = false) := Lib.hid (by unfold runOk withinP; rw [hv, decide_eq_false h0]; rfl)
      clear hv
      go_wp2_with (at_builtin; fail)
      go_ret
      exact ⟨by rw [HR.out]; rfl, HB1.out⟩
set_option maxHeartbeats 4000000 in
set_option maxRecDepth 100000 in
theorem sRunProgram_any (vt vb vc : Value) (ts : List Int) (l : List St) (cs : List Int) (most : Int) (B : Nat) (w : World) (ht : IntS w B vt ts) (hl : StS w B vb l) (hc : IntS w B vc cs) (hB : B ≤ w.heap.size) (hsz : szL l ≤ 4194300) :
    Calls Try.prog 24 #[.agg #[vt, vb], vc, .int .i64 most] w (EndRet w (progX ts l cs most)) := by
  have HRI := Lib.hid (l7Right_any vt vb ts l most B (w.alloc (.cells #[vt, vb] 30)) (ht.low (bel_a w _) hB) (hl.low (bel_a w _) hB) (by simp; omega) hsz)
  have HX := Lib.hid (RowB.new w [vt, vb] 30)
  have HB0 := Lib.hid (bel_a w (.cells #[vt, vb] 30))
  have HT := Lib.hid ht
  have HL := Lib.hid hl
  have HCS := Lib.hid hc
  clear ht hl hc
  go_enter Try.func24, Try.ntmps24
  go_upto_region 1 with (at_builtin; fail)
  generalize w.alloc (.cells #[vt, vb] 30) = W at *
  obtain ⟨bx, hbx⟩ : ∃ bx, bx = w.heap.size := ⟨_, rfl⟩
  rw [← hbx] at HX ⊢
  have HBX := Lib.hid hbx
  clear hbx
  have g0 := HX.out.cell 0
  have g1 := HX.out.cell 1
  simp only [List.getElem?_cons_zero, List.getElem?_cons_succ] at g0 g1
  cases hok : runOk ts l most
  · rw [hok] at HRI
    have HNO := Lib.hid hok
    clear hok
    go_wp2_with (at_builtin; fail)
    refine HRI.out.mono ?_
    rintro e w1 ⟨rfl, hb1⟩
    have HB1 := Lib.hid (HB0.out.trans (hb1.mono HB0.out.size))
    clear hb1 g0 g1
    go_wp2_with (at_builtin; fail)
    have HP : Hid (progX ts l cs most = (5, 0)) := Lib.hid (by unfold progX; rw [HNO.out]; rfl)
    go_ret2
    exact ⟨by rw [HP.out]; rfl, HB1.out⟩
  · rw [hok] at HRI
    obtain ⟨hv, m, rfl, hm⟩ := runOk_parts hok
    have HOK := Lib.hid hok
    clear hok
    go_wp2_with (at_builtin; fail)
    refine HRI.out.mono ?_
    rintro e w1 ⟨rfl, hb1⟩
    have HB1 := Lib.hid (HB0.out.trans (hb1.mono HB0.out.size))
    have HX1 := Lib.hid (HX.out.low hb1 HX.out.lt)
    clear hb1 g0 g1
    have g0 := HX1.out.cell 0
    have g1 := HX1.out.cell 1
    simp only [List.getElem?_cons_zero, List.getElem?_cons_succ] at g0 g1
    have HCR := Lib.hid (l7Run_any vt vb vc ts l cs m B w1 (HT.out.low HB1.out hB) (HL.out.low HB1.out hB) (HCS.out.low HB1.out hB) (Nat.le_trans hB HB1.out.size) hv hm)
    obtain ⟨R, hR⟩ : ∃ R, R = runX ts l cs m := ⟨_, rfl⟩
    rw [← hR] at HCR
    have HRE := Lib.hid hR
    clear hR hv
    go_wp2_with (at_builtin; fail)
    refine HCR.out.mono ?_
    rintro e w2 ⟨vs, vc', vl, rfl, hs2, ok2, hb2⟩
    have HB2 := Lib.hid (HB1.out.trans (hb2.mono HB1.out.size))
    have HS2 := Lib.hid hs2
    have OK2 := Lib.hid ok2
    obtain ⟨A2a, c2a, rfl, -⟩ := hs2.sl.slice
    obtain ⟨A2b, c2b, rfl, -⟩ := hs2.ce.slice
    obtain ⟨A2c, c2c, rfl, -⟩ := hs2.rd.slice
    clear hs2 ok2 hb2 g0 g1
    have HP : Hid (progX ts l cs (m : Nat) = R.2) := Lib.hid (by unfold progX; rw [HOK.out]; rw [HRE.out]; rfl)
    go_wp2_with (at_builtin; fail)
    go_ret2
    exact ⟨by rw [HP.out]; rfl, HB2.out.alloc HB2.out.size _⟩
set_option maxHeartbeats 4000000 in
set_option maxRecDepth 100000 in
theorem sCellsMade_any (vt vb vc : Value) (ts : List Int) (l : List St) (cs : List Int) (most : Int) (B : Nat) (w : World) (ht : IntS w B vt ts) (hl : StS w B vb l) (hc : IntS w B vc cs) (hB : B ≤ w.heap.size) (hsz : szL l ≤ 4194300) :
    Calls Try.prog 28 #[.agg #[vt, vb], vc, .int .i64 most] w (MadeRet w (madeX ts l cs most)) := by
  have HRI := Lib.hid (l7Right_any vt vb ts l most B (w.alloc (.cells #[vt, vb] 30)) (ht.low (bel_a w _) hB) (hl.low (bel_a w _) hB) (by simp; omega) hsz)
  have HX := Lib.hid (RowB.new w [vt, vb] 30)
  have HB0 := Lib.hid (bel_a w (.cells #[vt, vb] 30))
  have HT := Lib.hid ht
  have HL := Lib.hid hl
  have HCS := Lib.hid hc
  clear ht hl hc
  go_enter Try.func28, Try.ntmps28
  go_upto_region 1 with (at_builtin; fail)
  generalize w.alloc (.cells #[vt, vb] 30) = W at *
  obtain ⟨bx, hbx⟩ : ∃ bx, bx = w.heap.size := ⟨_, rfl⟩
  rw [← hbx] at HX ⊢
  have HBX := Lib.hid hbx
  clear hbx
  have g0 := HX.out.cell 0
  have g1 := HX.out.cell 1
  simp only [List.getElem?_cons_zero, List.getElem?_cons_succ] at g0 g1
  cases hok : runOk ts l most
  · rw [hok] at HRI
    have HNO := Lib.hid hok
    clear hok
    go_wp2_with (at_builtin; fail)
    refine HRI.out.mono ?_
    rintro e w1 ⟨rfl, hb1⟩
    have HB1 := Lib.hid (HB0.out.trans (hb1.mono HB0.out.size))
    clear hb1 g0 g1
    go_wp2_with (at_builtin; fail)
    have HP : Hid (madeX ts l cs most = (0, 0, 5)) := Lib.hid (by unfold madeX; rw [HNO.out]; rfl)
    go_ret3
    exact ⟨by rw [HP.out]; rfl, HB1.out⟩
  · rw [hok] at HRI
    obtain ⟨hv, m, rfl, hm⟩ := runOk_parts hok
    have HOK := Lib.hid hok
    clear hok
    go_wp2_with (at_builtin; fail)
    refine HRI.out.mono ?_
    rintro e w1 ⟨rfl, hb1⟩
    have HB1 := Lib.hid (HB0.out.trans (hb1.mono HB0.out.size))
    have HX1 := Lib.hid (HX.out.low hb1 HX.out.lt)
    clear hb1 g0 g1
    have g0 := HX1.out.cell 0
    have g1 := HX1.out.cell 1
    simp only [List.getElem?_cons_zero, List.getElem?_cons_succ] at g0 g1
    have HCR := Lib.hid (l7Run_any vt vb vc ts l cs m B w1 (HT.out.low HB1.out hB) (HL.out.low HB1.out hB) (HCS.out.low HB1.out hB) (Nat.le_trans hB HB1.out.size) hv hm)
    obtain ⟨R, hR⟩ : ∃ R, R = runX ts l cs m := ⟨_, rfl⟩
    rw [← hR] at HCR
    have HRE := Lib.hid hR
    clear hR hv
    go_wp2_with (at_builtin; fail)
    refine HCR.out.mono ?_
    rintro e w2 ⟨vs, vc', vl, rfl, hs2, ok2, hb2⟩
    have HB2 := Lib.hid (HB1.out.trans (hb2.mono HB1.out.size))
    have HS2 := Lib.hid hs2
    have OK2 := Lib.hid ok2
    obtain ⟨A2a, c2a, rfl, -⟩ := hs2.sl.slice
    obtain ⟨A2b, c2b, rfl, -⟩ := hs2.ce.slice
    obtain ⟨A2c, c2c, rfl, -⟩ := hs2.rd.slice
    clear hs2 ok2 hb2 g0 g1
    have HP : Hid (madeX ts l cs (m : Nat) = (R.1.ce.length, deadN R.1.ce, R.2.1)) := Lib.hid (by unfold madeX; rw [HOK.out]; rw [HRE.out]; rfl)
    have HMS := Lib.hid (HS2.out.ce.bel (bel_a w2 (.cells #[.slice A2a R.1.sl.length c2a, .slice A2b R.1.ce.length c2b, .slice A2c R.1.rd.length c2c] 81)))
    have HXN := Lib.hid (RowB.new w2 [.slice A2a R.1.sl.length c2a, .slice A2b R.1.ce.length c2b, .slice A2c R.1.rd.length c2c] 81)
    have HB3 := Lib.hid (HB2.out.alloc HB2.out.size (.cells #[.slice A2a R.1.sl.length c2a, .slice A2b R.1.ce.length c2b, .slice A2c R.1.rd.length c2c] 81))
    go_upto_region 4 with (at_builtin; fail)
    have HM3 := HMS
    generalize w2.alloc (.cells #[.slice A2a R.1.sl.length c2a, .slice A2b R.1.ce.length c2b, .slice A2c R.1.rd.length c2c] 81) = w3 at *
    generalize w2.heap.size = bt at *
    have y1 := HXN.out.cell 1
    have hbt := HXN.out.lt
    simp only [List.getElem?_cons_zero, List.getElem?_cons_succ] at y1
    have BEL : Hid (∀ w', w'.cell? ⟨bt, 1, none⟩ = some (.slice A2b R.1.ce.length c2b) ∧ Below w3.heap.size w3 w' → Below w3.heap.size w3 w') := Lib.hid fun _ h => h.2
    refine wp_region_held_drew (S := (fun w' => w'.cell? ⟨bt, 1, none⟩ = some (.slice A2b R.1.ce.length c2b) ∧ Below w3.heap.size w3 w')) (by kernel_rfl) ?_ (fun hHeld => ?_)
    · exact ⟨y1, BelD w3⟩
    refine wpAnyH_take (i := 0) (oi := ⟨some 24, _, _, _, _, _⟩) (v := ?_) rfl (by kernel_rfl) (by kernel_rfl) (by kernel_rfl) (fun _ _ _ h => h) (Or.inl ⟨by rfl, fun w' hSw => ?_⟩) (by assumption) ?_
    rotate_left
    · (try dsimp only at hSw); go_simp; (try with_reducible rfl)
    (try simp only [Act.put, List.setIfInBounds_toArray, List.set_cons_zero, List.set_cons_succ])
    refine wpAnyH_take (i := 1) (oi := ⟨some 25, _, _, _, _, _⟩) (v := ?_) rfl (by kernel_rfl) (by kernel_rfl) (by kernel_rfl) (fun _ _ _ h => h) (Or.inl ⟨by rfl, fun w' hSw => ?_⟩) (by assumption) ?_
    rotate_left
    · (try dsimp only at hSw); go_simp; (try with_reducible rfl)
    (try simp only [Act.put, List.setIfInBounds_toArray, List.set_cons_zero, List.set_cons_succ])
    refine wpAnyH_take (i := 2) (oi := ⟨some 26, _, _, _, _, _⟩) (v := ?_) rfl (by kernel_rfl) (by kernel_rfl) (by kernel_rfl) (fun _ _ _ h => h) (Or.inl ⟨by rfl, fun w' hSw => ?_⟩) (by assumption) ?_
    rotate_left
    · (try dsimp only at hSw); go_simp; (try with_reducible rfl)
    (try simp only [Act.put, List.setIfInBounds_toArray, List.set_cons_zero, List.set_cons_succ])
    refine wpAnyH_take (i := 3) (oi := ⟨some 27, _, _, _, _, _⟩) (v := ?_) rfl (by kernel_rfl) (by kernel_rfl) (by kernel_rfl) (fun _ _ _ h => h) (Or.inl ⟨by rfl, fun w' hSw => ?_⟩) (by assumption) ?_
    rotate_left
    · (try dsimp only at hSw); go_simp; (try with_reducible rfl)
    (try simp only [Act.put, List.setIfInBounds_toArray, List.set_cons_zero, List.set_cons_succ])
    refine wpAnyH_take (i := 4) (oi := ⟨some 28, _, _, _, _, _⟩) (v := ?_) rfl (by kernel_rfl) (by kernel_rfl) (by kernel_rfl) (fun _ _ _ h => h) (Or.inl ⟨by rfl, fun w' hSw => ?_⟩) (by assumption) ?_
    rotate_left
    · (try dsimp only at hSw); go_simp; (try with_reducible rfl)
    (try simp only [Act.put, List.setIfInBounds_toArray, List.set_cons_zero, List.set_cons_succ])
    refine wpAnyH_take (i := 5) (oi := ⟨some 29, _, _, _, _, _⟩) (v := ?_) rfl (by kernel_rfl) (by kernel_rfl) (by kernel_rfl) (fun _ _ _ h => h) (Or.inl ⟨by rfl, fun w' hSw => ?_⟩) (by assumption) ?_
    rotate_left
    · (try dsimp only at hSw); go_simp; (try with_reducible rfl)
    (try simp only [Act.put, List.setIfInBounds_toArray, List.set_cons_zero, List.set_cons_succ])
    refine wpAnyH_take (i := 6) (oi := ⟨some 30, _, _, _, _, _⟩) (v := ?_) rfl (by kernel_rfl) (by kernel_rfl) (by kernel_rfl) (fun _ _ _ h => h) (Or.inl ⟨by rfl, fun w' hSw => ?_⟩) (by assumption) ?_
    rotate_left
    · (try dsimp only at hSw); go_simp; (try with_reducible rfl)
    (try simp only [Act.put, List.setIfInBounds_toArray, List.set_cons_zero, List.set_cons_succ])
    refine wpAnyH_take (i := 7) (oi := ⟨some 31, _, _, _, _, _⟩) (v := ?_) rfl (by kernel_rfl) (by kernel_rfl) (by kernel_rfl) (fun _ _ _ h => h) (Or.inl ⟨by rfl, fun w' hSw => ?_⟩) (by assumption) ?_
    rotate_left
    · (try dsimp only at hSw); go_simp; (try with_reducible rfl)
    (try simp only [Act.put, List.setIfInBounds_toArray, List.set_cons_zero, List.set_cons_succ])
    refine wpAnyH_take (i := 11) (oi := ⟨some 35, _, _, _, _, _⟩) (v := ?_) rfl (by kernel_rfl) (by kernel_rfl) (by kernel_rfl) (fun _ _ _ h => h) (Or.inl ⟨by rfl, fun w' hSw => ?_⟩) (by assumption) ?_
    rotate_left
    · (try dsimp only at hSw); go_simp; (try with_reducible rfl)
    (try simp only [Act.put, List.setIfInBounds_toArray, List.set_cons_zero, List.set_cons_succ])
    refine wpAnyH_ready (rs := [8]) (by kernel_rfl) (by simp) ?_
    refine (AllReadyH.cons (o := ⟨some 32, _, _, _, _, _⟩) rfl (fun K hK => ?_) AllReadyH.nil)
    go_simp
    (have BY := (BEL.out _ (by assumption)))
    (refine (sAliveCells_any _ R.1.ce _ _ (HM3.out.bel BY) OK2.out.ce).mono ?_)
    (rintro e w4 ⟨v4, o, rfl, ho, hn, hb4⟩)
    (have HB4 := Lib.hid (BY.trans (hb4.mono BY.size)))
    (have HN4 := Lib.hid hn)
    (obtain ⟨A4, c4, rfl, -⟩ := ho.slice)
    clear ho hb4 hn
    go_simp
    refine hK.out _ _ ?_ (fun hHeld => ?_)
    · exact ⟨(HB4.out.cell (p := ⟨bt, 1, none⟩) hbt).trans y1, HB4.out⟩
    clear hK K
    (try simp only [Act.put, List.setIfInBounds_toArray, List.set_cons_zero, List.set_cons_succ])
    refine wpAnyH_take (i := 9) (oi := ⟨some 33, _, _, _, _, _⟩) (v := ?_) rfl (by kernel_rfl) (by kernel_rfl) (by kernel_rfl) (fun _ _ _ h => h) (Or.inl ⟨by rfl, fun w' hSw => ?_⟩) (by assumption) ?_
    rotate_left
    · (try dsimp only at hSw); go_simp; (try with_reducible rfl)
    (try simp only [Act.put, List.setIfInBounds_toArray, List.set_cons_zero, List.set_cons_succ])
    refine wpAnyH_take (i := 10) (oi := ⟨some 34, _, _, _, _, _⟩) (v := ?_) rfl (by kernel_rfl) (by kernel_rfl) (by kernel_rfl) (fun _ _ _ h => h) (Or.inl ⟨by rfl, fun w' hSw => ?_⟩) (by assumption) ?_
    rotate_left
    · (try dsimp only at hSw); go_simp; (try with_reducible rfl)
    (try simp only [Act.put, List.setIfInBounds_toArray, List.set_cons_zero, List.set_cons_succ])
    refine wpAnyH_take (i := 12) (oi := ⟨some 6, _, _, _, _, _⟩) (v := ?_) rfl (by kernel_rfl) (by kernel_rfl) (by kernel_rfl) (fun _ _ _ h => h) (Or.inl ⟨by rfl, fun w' hSw => ?_⟩) (by assumption) ?_
    rotate_left
    · (try dsimp only at hSw); go_simp; (try with_reducible rfl)
    (try simp only [Act.put, List.setIfInBounds_toArray, List.set_cons_zero, List.set_cons_succ])
    refine wpAnyH_take (i := 13) (oi := ⟨some 7, _, _, _, _, _⟩) (v := ?_) rfl (by kernel_rfl) (by kernel_rfl) (by kernel_rfl) (fun _ _ _ h => h) (Or.inl ⟨by rfl, fun w' hSw => ?_⟩) (by assumption) ?_
    rotate_left
    · (try dsimp only at hSw); go_simp; (try with_reducible rfl)
    (try simp only [Act.put, List.setIfInBounds_toArray, List.set_cons_zero, List.set_cons_succ])
    refine wpAnyH_take (i := 14) (oi := ⟨some 8, _, _, _, _, _⟩) (v := ?_) rfl (by kernel_rfl) (by kernel_rfl) (by kernel_rfl) (fun _ _ _ h => h) (Or.inl ⟨by rfl, fun w' hSw => ?_⟩) (by assumption) ?_
    rotate_left
    · (try dsimp only at hSw); go_simp; (try with_reducible rfl)
    (try simp only [Act.put, List.setIfInBounds_toArray, List.set_cons_zero, List.set_cons_succ])
    refine wpAnyH_done (by kernel_rfl) ?_ _
    have HB5 := Lib.hid (HB3.out.trans (HB4.out.mono HB3.out.size))
    have hdd : deadN R.1.ce ≤ R.1.ce.length := by have := HN4.out; omega
    have hll : R.1.ce.length ≤ 200 := OK2.out.ce.1
    have HSB : Hid (((R.1.ce.length : Nat) : Int) - ((o.length : Nat) : Int) = ((deadN R.1.ce : Nat) : Int)) := Lib.hid (by have := HN4.out; omega)
    have hwr : IntKind.i64.wrap (((R.1.ce.length : Nat) : Int) - ((o.length : Nat) : Int)) = ((deadN R.1.ce : Nat) : Int) := by rw [HSB.out]; exact IntWalk.i64_in _ (by omega)
    rw [hwr]
    go_wp2_with (at_builtin; fail)
    go_ret3
    exact ⟨by rw [HP.out]; rfl, HB5.out⟩

end Go.Proofs.Ytfioaohadanjmaa

/- FnExactRunProgram: the walk. -/
namespace Go.Proofs.Ytfioaohadanjmaa
open Go.RowKit

set_option maxHeartbeats 8000000
set_option maxRecDepth 100000
theorem fnExactRunProgram_any (vt vb : Value) (ts : List Int) (l : List St) (vc : Value) (cs : List Int) (most : Int) (w : World) (ht : AnI w w.heap.size vt ts) (hl : StS w w.heap.size vb l) (hL : Lens l) (hc : AnI w w.heap.size vc cs) :
    Calls Try.prog 6 #[.agg #[vt, vb], vc, .int .i64 most] w (LwRet w) := by
  have HA0 := Lib.hid (ArA.new ht hl)
  have HLE := Lib.hid hL
  have ht0 := ht
  obtain ⟨At, ct, rfl, -⟩ := ht0
  obtain ⟨Ab, cb, rfl, hcb⟩ := hl.slice
  have HC0 := Lib.hid hc
  obtain ⟨Ac, cc, rfl, hcc, hcm, -⟩ := hc
  clear ht hl hL
  go_enter Try.func6, Try.ntmps6
  go_upto_region 1 with (at_builtin; fail)
  generalize w.alloc (.cells #[.slice At ts.length ct, .slice Ab l.length cb] 25) = W0 at *
  obtain ⟨g, hg⟩ : ∃ g, g = w.heap.size := ⟨_, rfl⟩
  rw [← hg] at HA0 ⊢
  have HG := Lib.hid hg
  clear hg
  have c0 := HA0.out.row.cell 0
  have c1 := HA0.out.row.cell 1
  simp only [List.getElem?_cons_zero, List.getElem?_cons_succ] at c0 c1
  by_cases hbig : 1048576 < cs.length
  · have qb : decide (((cs.length : Nat) : Int) > 1048576) = true := decide_eq_true (by omega)
    go_wp2_with (at_builtin; fail)
    go_ret
    exact ⟨rfl, HA0.out.bel⟩
  have qb : decide (((cs.length : Nat) : Int) > 1048576) = false := decide_eq_false (by omega)
  have HC := Lib.hid (HC0.out.toS (by omega))
  have hcl : cs.length ≤ 1048576 := by omega
  clear hbig HC0
  go_wp2_with (at_builtin; fail)
  refine (szProgram_any _ _ ts l 1048576 w.heap.size W0 HA0.out.ht HA0.out.hl HLE.out HA0.out.bel.size (by omega) (by omega)).mono ?_
  rintro e W1 ⟨rfl, hb1⟩
  have HA1 := Lib.hid (HA0.out.bels hb1)
  clear hb1 c0 c1 HA0
  by_cases hn : leftP 1048576 (ts.length + szL l) < 0
  · rw [(leftP_neg hn).1]
    clear hn
    go_wp2_with (at_builtin; fail)
    go_ret
    exact ⟨rfl, HA1.out.bel⟩
  · have hsz := (leftP_nn (by omega : 0 ≤ leftP 1048576 (ts.length + szL l))).1
    have htl : ts.length ≤ 1048576 := by omega
    have hll : szL l ≤ 1048576 := by omega
    have HB1 := Lib.hid (HA1.out.toB (by omega))
    generalize leftP 1048576 (ts.length + szL l) = L1 at *
    clear HA1 hsz HLE
    have c0 := HB1.out.c0
    have c1 := HB1.out.c1
    go_wp2_with (at_builtin; fail)
    refine (toProgram_any _ _ ts l w.heap.size W1 HB1.out.ht HB1.out.hl HB1.out.bel.size hll).mono ?_
    rintro e W2 ⟨vt2, vb2, rfl, ht2, hl2, hb2⟩
    have HB2 := Lib.hid (HB1.out.bels hb2)
    have HT2 := Lib.hid (ht2.toS (by omega))
    have HL2 := Lib.hid hl2.toS
    clear ht2 hl2 hb2 c0 c1 HB1
    go_wp2_with (at_builtin; fail)
    refine (toIntS_any _ cs w.heap.size W2 (HC.out.low HB2.out.bel (Nat.le_refl _)) HB2.out.bel.size).mono ?_
    rintro e Wi ⟨vi, rfl, hvi, hbi⟩
    have HBi := Lib.hid (HB2.out.bels hbi)
    have HCi := Lib.hid (hvi.toS (by omega))
    have HTi := Lib.hid ((HT2.out.low hbi (Nat.le_refl _)).more hbi.size)
    have HLi := Lib.hid ((HL2.out.low hbi (Nat.le_refl _)).more hbi.size)
    clear hvi hbi HB2 HT2 HL2
    go_wp2_with (at_builtin; fail)
    refine (sRunProgram_any _ _ _ ts l cs most Wi.heap.size Wi HTi.out HLi.out HCi.out (Nat.le_refl _) (by omega)).mono ?_
    rintro e W3 ⟨rfl, hb3⟩
    have HB3 := Lib.hid (HBi.out.bels hb3)
    clear hb3 HTi HLi HCi HBi
    obtain ⟨R, hR⟩ : ∃ R, R = progX ts l cs most := ⟨_, rfl⟩
    rw [← hR]
    have HRE := Lib.hid hR
    clear hR
    obtain ⟨z1, z2⟩ := R
    have c0 := HB3.out.c0
    have c1 := HB3.out.c1
    go_wp2_with (at_builtin; fail)
    refine (toProgram_any _ _ ts l w.heap.size W3 HB3.out.ht HB3.out.hl HB3.out.bel.size hll).mono ?_
    rintro e W4 ⟨vt4, vb4, rfl, ht4, hl4, hb4⟩
    have HX5 := Lib.hid (XB.new ht4 hl4 hb4)
    have HB5 := Lib.hid ((HB3.out.bels hb4).bels (bel_a W4 (.cells #[vt4, vb4] 30)))
    obtain ⟨A4, n4, rfl, -⟩ := ht4.slice
    obtain ⟨b4, m4, rfl, -, -, -⟩ := hl4.slice
    clear ht4 hl4 hb4 c0 c1
    go_upto_region 9 with (at_builtin; fail)
    generalize hW5 : W4.alloc (.cells #[.slice A4 ts.length n4, .slice (some ⟨b4, 0, none⟩) l.length m4] 30) = W5 at *
    clear hW5
    obtain ⟨hi, hhi⟩ : ∃ hi, hi = W4.heap.size := ⟨_, rfl⟩
    obtain ⟨lo, hlo⟩ : ∃ lo, lo = W3.heap.size := ⟨_, rfl⟩
    rw [← hhi] at HX5 ⊢
    rw [← hlo] at HX5
    clear hhi hlo HB3
    go_wp2_with (at_builtin; fail)
    refine (toIntS_any _ cs w.heap.size W5 (HC.out.low HB5.out.bel (Nat.le_refl _)) HB5.out.bel.size).mono ?_
    rintro e W6 ⟨v6, rfl, hv6, hb6⟩
    have HB6 := Lib.hid (HB5.out.bels hb6)
    have HX6 := Lib.hid (HX5.out.bels hb6)
    have HC6 := Lib.hid (hv6.toS (by omega))
    obtain ⟨A6, c6, rfl, -⟩ := hv6.slice
    have x0 := HX6.out.c0
    have x1 := HX6.out.c1
    clear hv6 hb6 HB5 HX5
    go_wp2_with (at_builtin; fail)
    refine (iRunProgram_any _ _ _ ts l cs most W6.heap.size W6 (HX6.out.rt (by omega)) HX6.out.rl HC6.out (Nat.le_refl _) (by omega)).mono ?_
    rw [← HRE.out]
    rintro e W9 ⟨rfl, hb7⟩
    have HB9 := Lib.hid (HB6.out.bels hb7)
    have HX9 := Lib.hid (HX6.out.bels hb7)
    have HC9 := Lib.hid ((HC6.out.low hb7 (Nat.le_refl _)).more hb7.size)
    clear hb7 x0 x1 HB6 HX6 HC6
    have c0 := HB9.out.c0
    have c1 := HB9.out.c1
    have x0 := HX9.out.c0
    have x1 := HX9.out.c1
    have e1 : (z1 != z1) = false := by simp
    have e2 : (((z2 : Nat) : Int) != ((z2 : Nat) : Int)) = false := by simp
    have hlt7 := HB9.out.lt
    have hlx7 := HX9.out.lt
    go_wp2_with (at_builtin; fail)
    have BEL : Hid (∀ w', w'.cell? ⟨g, 0, none⟩ = some (.slice At ts.length ct) ∧ w'.cell? ⟨g, 1, none⟩ = some (.slice Ab l.length cb) ∧ w'.cell? ⟨hi, 0, none⟩ = some (.slice A4 ts.length n4) ∧ w'.cell? ⟨hi, 1, none⟩ = some (.slice (some ⟨b4, 0, none⟩) l.length m4) ∧ Below W9.heap.size W9 w' → Below W9.heap.size W9 w') := Lib.hid fun _ h => h.2.2.2.2
    refine wp_region_held_drew (S := (fun w' => w'.cell? ⟨g, 0, none⟩ = some (.slice At ts.length ct) ∧ w'.cell? ⟨g, 1, none⟩ = some (.slice Ab l.length cb) ∧ w'.cell? ⟨hi, 0, none⟩ = some (.slice A4 ts.length n4) ∧ w'.cell? ⟨hi, 1, none⟩ = some (.slice (some ⟨b4, 0, none⟩) l.length m4) ∧ Below W9.heap.size W9 w')) (by kernel_rfl) ?_ (fun hHeld => ?_)
    · exact ⟨c0, c1, x0, x1, (Below.refl _ _).drew⟩
    refine wpAnyH_take (i := 0) (oi := ⟨some 50, _, _, _, _, _⟩) (v := ?_) rfl (by kernel_rfl) (by kernel_rfl) (by kernel_rfl) (fun _ _ _ h => h) (Or.inl ⟨by rfl, fun w' hSw => ?_⟩) (by assumption) ?_
    rotate_left
    · (try dsimp only at hSw); go_simp; (try with_reducible rfl)
    (try simp only [Act.put, List.setIfInBounds_toArray, List.set_cons_zero, List.set_cons_succ])
    refine wpAnyH_take (i := 1) (oi := ⟨some 51, _, _, _, _, _⟩) (v := ?_) rfl (by kernel_rfl) (by kernel_rfl) (by kernel_rfl) (fun _ _ _ h => h) (Or.inl ⟨by rfl, fun w' hSw => ?_⟩) (by assumption) ?_
    rotate_left
    · (try dsimp only at hSw); go_simp; (try with_reducible rfl)
    (try simp only [Act.put, List.setIfInBounds_toArray, List.set_cons_zero, List.set_cons_succ])
    refine wpAnyH_ready (rs := [2]) (by kernel_rfl) (by simp) ?_
    refine AllReadyH.cons (o := ⟨some 52, _, _, _, _, _⟩) rfl (fun K hK => ?_) AllReadyH.nil
    go_simp
    (refine (toProgram_any _ _ ts l w.heap.size _ ((HB9.out.bels (show Below W9.heap.size W9 _ from (BEL.out _ (by assumption)))).ht) ((HB9.out.bels (show Below W9.heap.size W9 _ from (BEL.out _ (by assumption)))).hl) ((HB9.out.bels (show Below W9.heap.size W9 _ from (BEL.out _ (by assumption)))).bel.size) hll).mono ?_)
    (rintro e w8 ⟨vt8, vb8, rfl, ht8, hl8, hb8⟩)
    (have BX8 := Lib.hid ((BEL.out _ (by assumption)).trans (hb8.mono (BEL.out _ (by assumption)).size)))
    (have HT8 := Lib.hid (ht8.toS (by omega)))
    (have HL8 := Lib.hid hl8.toS)
    clear ht8 hl8 hb8
    go_simp
    refine hK.out _ _ ?_ (fun hHeld => ?_)
    · exact ⟨(BX8.out.cell (p := ⟨g, 0, none⟩) hlt7).trans c0, (BX8.out.cell (p := ⟨g, 1, none⟩) hlt7).trans c1, (BX8.out.cell (p := ⟨hi, 0, none⟩) hlx7).trans x0, (BX8.out.cell (p := ⟨hi, 1, none⟩) hlx7).trans x1, BX8.out⟩
    clear hK K
    (try simp only [Act.put, List.setIfInBounds_toArray, List.set_cons_zero, List.set_cons_succ])
    refine wpAnyH_ready (rs := [3]) (by kernel_rfl) (by simp) ?_
    refine AllReadyH.cons (o := ⟨some 53, _, _, _, _, _⟩) rfl (fun K hK => ?_) AllReadyH.nil
    go_simp
    (have BY := (BEL.out _ (by assumption)))
    (refine (eqProgram_any _ _ _ _ ts l _ _ (((HX9.out.bels BX8.out).rt (by omega))) ((HX9.out.bels BX8.out).rl) HT8.out HL8.out (Nat.le_refl _) (by omega)).mono ?_)
    (rintro e w9 ⟨rfl, hb9⟩)
    (have BX9 := Lib.hid (BX8.out.trans (hb9.mono BX8.out.size)))
    clear hb9
    go_simp
    refine hK.out _ _ ?_ (fun hHeld => ?_)
    · exact ⟨(BX9.out.cell (p := ⟨g, 0, none⟩) hlt7).trans c0, (BX9.out.cell (p := ⟨g, 1, none⟩) hlt7).trans c1, (BX9.out.cell (p := ⟨hi, 0, none⟩) hlx7).trans x0, (BX9.out.cell (p := ⟨hi, 1, none⟩) hlx7).trans x1, BX9.out⟩
    clear hK K
    (try simp only [Act.put, List.setIfInBounds_toArray, List.set_cons_zero, List.set_cons_succ])
    refine wpAnyH_take (i := 4) (oi := ⟨some 54, _, _, _, _, _⟩) (v := ?_) rfl (by kernel_rfl) (by kernel_rfl) (by kernel_rfl) (fun _ _ _ h => h) (Or.inl ⟨by rfl, fun w' hSw => ?_⟩) (by assumption) ?_
    rotate_left
    · (try dsimp only at hSw); go_simp; (try with_reducible rfl)
    (try simp only [Act.put, List.setIfInBounds_toArray, List.set_cons_zero, List.set_cons_succ])
    refine wpAnyH_done (by kernel_rfl) ?_ _
    have HBa := Lib.hid (HB9.out.bels BX9.out)
    have HCa := Lib.hid ((HC9.out.low BX9.out (Nat.le_refl _)).more BX9.out.size)
    clear c0 c1 x0 x1 BEL BX8 BX9 BY HT8 HL8 HB9 HX9 HC9 hHeld
    go_wp2_with (at_builtin; fail)
    refine (toIntS_any _ cs w.heap.size w9 (HC.out.low HBa.out.bel (Nat.le_refl _)) HBa.out.bel.size).mono ?_
    rintro e wa ⟨va, rfl, hva, hba⟩
    have HBb := Lib.hid (HBa.out.bels hba)
    have HCb := Lib.hid (HCa.out.low hba (Nat.le_refl _))
    have HDb := Lib.hid (hva.toS (by omega))
    clear hva hba HBa HCa
    go_wp2_with (at_builtin; fail)
    refine (eqIntS_any _ _ cs _ _ wa HCb.out HDb.out).mono ?_
    rintro e wb ⟨rfl, hbb⟩
    have HBc := Lib.hid (HBb.out.bels hbb)
    clear hbb HBb
    go_wp2_with (at_builtin; fail)
    go_ret
    exact ⟨rfl, HBc.out.bel⟩

end Go.Proofs.Ytfioaohadanjmaa

/- A law's argument of type Program, read as data, is what the walks of the exact laws ask. -/
namespace Go.Proofs.Ytfioaohadanjmaa
open Go.RowKit Go.ChangeShapes

theorem Try.cellsLS : Try.prog.cellsOf 107 = 6 := by kernel_rfl
theorem Try.cellsLI : Try.prog.cellsOf 3 = 1 := by kernel_rfl
theorem Try.cellsLL : Try.prog.cellsOf 23 = 1 := by kernel_rfl
theorem Try.cellsLIS : Try.prog.cellsOf 22 = 1 := by kernel_rfl
theorem Try.cellsLP : Try.prog.cellsOf 25 = 2 := by kernel_rfl
theorem cells_at {w : World} {a : Addr} {n : Nat} {cs : List Value} (h : w.cells? 0 a n = some cs) {j : Nat} (hj : j < n) : w.cell? (a.add j) = cs[j]? := by
  unfold World.cells? at h
  rw [if_pos (Nat.zero_le _)] at h
  exact mapM_some_get h j j (by simp [hj])
theorem add_at {b off i j : Nat} : ((⟨b, off, none⟩ : Addr).add i).add j = ⟨b, off + i + j, none⟩ := by
  unfold Addr.add
  by_cases hi : i = 0 <;> by_cases hj : j = 0 <;> simp [hi, hj, Nat.add_assoc]
section
variable {H : Type} {enc : TypeId × Value → H} {w : World} {sp : Nat → Bool} {held : Bool}
set_option maxRecDepth 100000 in
theorem trod_stmt {fuel : Nat} {cs : List Value} {x : DataW H × List MemPlace} (h : DataW.trod enc Try.prog w 0 sp held fuel 107 cs = some x) :
    ∃ n c4 c5 x4 x5, ∃ z0 z1 z2 z3 : Int, fuel = n + 1 ∧ cs = [.int .i64 z0, .int .i64 z1, .int .i64 z2, .int .i64 z3, c4, c5] ∧ DataW.trod enc Try.prog w 0 sp held n 23 [c4] = some x4 ∧ DataW.trod enc Try.prog w 0 sp held n 23 [c5] = some x5 := by
  obtain ⟨xs, n, rfl, -, hlen, hxl, hf⟩ := DataW.trod_struct Try.underlying107 h
  rw [Try.cellsLS] at hlen
  have hx6 : xs.length = 6 := hxl
  match cs, hlen with
  | [c0, c1, c2, c3, c4, c5], _ =>
    have f0 : DataW.trod enc Try.prog w 0 sp held n 3 (List.take (Try.prog.cellsOf 3) [c0, c1, c2, c3, c4, c5]) = xs[0]? := hf 0 _ rfl
    rw [Try.cellsLI, List.getElem?_eq_getElem (by omega)] at f0
    have f1 : DataW.trod enc Try.prog w 0 sp held n 3 (List.take (Try.prog.cellsOf 3) [c1, c2, c3, c4, c5]) = xs[1]? := hf 1 _ rfl
    rw [Try.cellsLI, List.getElem?_eq_getElem (by omega)] at f1
    have f2 : DataW.trod enc Try.prog w 0 sp held n 3 (List.take (Try.prog.cellsOf 3) [c2, c3, c4, c5]) = xs[2]? := hf 2 _ rfl
    rw [Try.cellsLI, List.getElem?_eq_getElem (by omega)] at f2
    have f3 : DataW.trod enc Try.prog w 0 sp held n 3 (List.take (Try.prog.cellsOf 3) [c3, c4, c5]) = xs[3]? := hf 3 _ rfl
    rw [Try.cellsLI, List.getElem?_eq_getElem (by omega)] at f3
    have f4 : DataW.trod enc Try.prog w 0 sp held n 23 (List.take (Try.prog.cellsOf 23) [c4, c5]) = xs[4]? := hf 4 _ rfl
    rw [Try.cellsLL, List.getElem?_eq_getElem (by omega)] at f4
    have f5 : DataW.trod enc Try.prog w 0 sp held n 23 (List.take (Try.prog.cellsOf 23) [c5]) = xs[5]? := hf 5 _ rfl
    rw [Try.cellsLL, List.getElem?_eq_getElem (by omega)] at f5
    obtain ⟨z0, e0, -⟩ := DataW.trod_int Try.underlying3 f0
    have e0 : c0 = _ := (List.cons.inj e0).1
    subst e0
    obtain ⟨z1, e1, -⟩ := DataW.trod_int Try.underlying3 f1
    have e1 : c1 = _ := (List.cons.inj e1).1
    subst e1
    obtain ⟨z2, e2, -⟩ := DataW.trod_int Try.underlying3 f2
    have e2 : c2 = _ := (List.cons.inj e2).1
    subst e2
    obtain ⟨z3, e3, -⟩ := DataW.trod_int Try.underlying3 f3
    have e3 : c3 = _ := (List.cons.inj e3).1
    subst e3
    exact ⟨n, c4, c5, _, _, z0, z1, z2, z3, rfl, rfl, f4, f5⟩
theorem StS.none (w : World) (B : Nat) : StS w B (.slice none 0 0) [] :=
  .mk _ 0 [] (fun _ => undef) (fun _ => undef) (Nat.le_refl _) (fun h => by simp at h) (fun i h => by simp at h) fun i h => by simp at h
theorem Lens.nil : Lens [] := .mk _ (Nat.zero_le _) (fun i h => by simp at h) fun i h => by simp at h
theorem read_stmts (fuel : Nat) : ∀ (cs : List Value) (x : DataW H × List MemPlace), DataW.trod enc Try.prog w 0 sp held fuel 23 cs = some x → ∃ v l, cs = [v] ∧ StS w w.heap.size v l ∧ Lens l := by
  induction fuel using Nat.strongRecOn with
  | _ fuel ih =>
    intro cs x h
    rcases DataW.trod_slice Try.underlying23 h with ⟨rfl, -⟩ | ⟨a, len, cap, elems, rest, n, rfl, rfl, -, -, hlc, hcm, hel, hi, -⟩
    · exact ⟨_, [], rfl, StS.none _ _, Lens.nil⟩
    · rw [Try.cellsLS] at hi
      by_cases h0 : len = 0
      · subst h0
        exact ⟨_, [], rfl, .mk _ cap [] (fun _ => undef) (fun _ => undef) (Nat.zero_le _) (fun h => by simp at h) (fun i h => by simp at h) fun i h => by simp at h, Lens.nil⟩
      · have key : ∀ i, i < len → ∃ q : St × Value × Value, (w.cell? ((a.add (i * 6)).add 0) = some (.int .i64 q.1.op) ∧ w.cell? ((a.add (i * 6)).add 1) = some (.int .i64 q.1.x) ∧ w.cell? ((a.add (i * 6)).add 2) = some (.int .i64 q.1.y) ∧ w.cell? ((a.add (i * 6)).add 3) = some (.int .i64 q.1.n) ∧ w.cell? ((a.add (i * 6)).add 4) = some q.2.1 ∧ w.cell? ((a.add (i * 6)).add 5) = some q.2.2) ∧ StS w w.heap.size q.2.1 q.1.th ∧ StS w w.heap.size q.2.2 q.1.el ∧ Lens q.1.th ∧ Lens q.1.el := by
          intro i hil
          have hb := hi i hil
          rw [List.getElem?_eq_getElem (by omega)] at hb
          obtain ⟨cs', h1, h2⟩ := Option.bind_eq_some_iff.1 hb
          obtain ⟨n', c4, c5, x4, x5, z0, z1, z2, z3, rfl, rfl, t4, t5⟩ := trod_stmt h2
          obtain ⟨v4, l4, e4, s4, n4⟩ := ih n' (by omega) _ _ t4
          obtain ⟨v5, l5, e5, s5, n5⟩ := ih n' (by omega) _ _ t5
          simp only [List.cons.injEq, and_true] at e4 e5
          subst e4 e5
          refine ⟨(.mk z0 z1 z2 z3 l4 l5, c4, c5), ⟨?_, ?_, ?_, ?_, ?_, ?_⟩, s4, s5, n4, n5⟩ <;> rw [cells_at h1 (by omega)] <;> rfl
        haveI : Inhabited (St × Value × Value) := ⟨(.mk 0 0 0 0 [] [], undef, undef)⟩
        obtain ⟨f, hf⟩ := Go.Deep.choose_lt key
        obtain ⟨b, off, spot⟩ := a
        have hspot : spot = none := by
          have := (hf 0 (by omega)).1.1
          have := World.cell?_spot this
          simpa [Addr.add] using this
        subst hspot
        have hlt : b < w.heap.size := by
          have hc := (hf 0 (by omega)).1.1
          rcases Nat.lt_or_ge b w.heap.size with h | h
          · exact h
          · simp [Addr.add, World.cell?, Array.getElem?_eq_none h] at hc
        simp only [add_at] at hf
        have hl : ((List.range len).map fun i => (f i).1).length = len := by simp
        refine ⟨_, (List.range len).map fun i => (f i).1, by simp, .mk _ cap _ (fun i => (f i).2.1) (fun i => (f i).2.2) (by rw [hl]; exact hlc) (fun _ => ⟨b, off, rfl, hlt, fun i hi' => ?_⟩) (fun i hi' => ?_) (fun i hi' => ?_), .mk _ (by rw [hl]; omega) (fun i hi' => ?_) fun i hi' => ?_⟩
        all_goals
          have hi2 : i < len := by simpa using hi'
          have e : ((List.range len).map fun i => (f i).1)[i]'hi' = (f i).1 := by simp
          rw [e]
        · exact (hf i hi2).1
        · exact (hf i hi2).2.1
        · exact (hf i hi2).2.2.1
        · exact (hf i hi2).2.2.2.1
        · exact (hf i hi2).2.2.2.2
theorem read_ints {fuel : Nat} {cs : List Value} {x : DataW H × List MemPlace} (h : DataW.trod enc Try.prog w 0 sp held fuel 22 cs = some x) : ∃ v l, cs = [v] ∧ AnI w w.heap.size v l := by
  rcases DataW.trod_slice Try.underlying22 h with ⟨rfl, -⟩ | ⟨a, len, cap, elems, rest, n, rfl, rfl, -, -, hlc, hcm, hel, hi, -⟩
  · exact ⟨_, [], rfl, _, 0, rfl, Nat.le_refl _, Nat.zero_le _, Rd.nil⟩
  · rw [Try.cellsLI] at hi
    by_cases h0 : len = 0
    · subst h0
      exact ⟨_, [], rfl, _, cap, rfl, Nat.zero_le _, Nat.zero_le _, Rd.nil⟩
    · have key : ∀ i, i < len → ∃ z : Int, w.cell? ((a.add (i * 1)).add 0) = some (.int .i64 z) := by
        intro i hil
        have hb := hi i hil
        rw [List.getElem?_eq_getElem (by omega)] at hb
        obtain ⟨cs', h1, h2⟩ := Option.bind_eq_some_iff.1 hb
        obtain ⟨z, rfl, -⟩ := DataW.trod_int Try.underlying3 h2
        exact ⟨z, by rw [cells_at h1 (by omega)]; rfl⟩
      obtain ⟨f, hf⟩ := Go.Deep.choose_lt key
      obtain ⟨b, off, spot⟩ := a
      have hspot : spot = none := by
        have := World.cell?_spot (hf 0 (by omega))
        simpa [Addr.add] using this
      subst hspot
      have hlt : b < w.heap.size := by
        have hc := hf 0 (by omega)
        rcases Nat.lt_or_ge b w.heap.size with h | h
        · exact h
        · simp [Addr.add, World.cell?, Array.getElem?_eq_none h] at hc
      simp only [add_at, Nat.mul_one, Nat.add_zero] at hf
      have hl : ((List.range len).map f).length = len := by simp
      refine ⟨_, (List.range len).map f, by simp, _, cap, rfl, by rw [hl]; exact hlc, by rw [hl]; omega, by simp, fun _ => ⟨b, off, rfl, hlt, fun j u hu => ?_⟩⟩
      have hj : j < len := by
        rcases Nat.lt_or_ge j len with h | h
        · exact h
        · rw [List.getElem?_eq_none (by simpa using h)] at hu; cases hu
      rw [hf j hj]
      simpa [hj] using hu
set_option maxRecDepth 100000 in
/-- a Program -/
theorem read_program {fuel : Nat} {v : Value} {x : DataW H × List MemPlace} (hv : ∃ cs, v = .agg cs) (h : DataW.trod enc Try.prog w 0 sp held fuel 25 v.cells.toList = some x) : ∃ vt vb ts l, v = .agg #[vt, vb] ∧ AnI w w.heap.size vt ts ∧ StS w w.heap.size vb l ∧ Lens l := by
  obtain ⟨cs, rfl⟩ := hv
  obtain ⟨cl⟩ := cs
  obtain ⟨xs, n, rfl, -, hlen, hxl, hf⟩ := DataW.trod_struct Try.underlying25 h
  rw [Try.cellsLP] at hlen
  have hx2 : xs.length = 2 := hxl
  simp only [Value.cells] at hlen hf
  match cl, hlen with
  | [c0, c1], _ =>
    have f0 : DataW.trod enc Try.prog w 0 sp held n 22 (List.take (Try.prog.cellsOf 22) [c0, c1]) = xs[0]? := hf 0 _ rfl
    have f1 : DataW.trod enc Try.prog w 0 sp held n 23 (List.take (Try.prog.cellsOf 23) [c1]) = xs[1]? := hf 1 _ rfl
    rw [Try.cellsLIS, List.getElem?_eq_getElem (by omega)] at f0
    rw [Try.cellsLL, List.getElem?_eq_getElem (by omega)] at f1
    obtain ⟨v0, ts, e0, hi⟩ := read_ints f0
    obtain ⟨v1, l, e1, hs, hn⟩ := read_stmts n _ _ f1
    have e0 : c0 = v0 := (List.cons.inj e0).1
    have e1 : c1 = v1 := (List.cons.inj e1).1
    subst e0 e1
    exact ⟨_, _, ts, l, rfl, hi, hs, hn⟩
theorem int_wf {z : Int} {d : DataW H} {p : List MemPlace} (h : DataW.Trod enc Try.prog w 0 sp held 3 (.int .i64 z) d p) : -9223372036854775808 ≤ z ∧ z ≤ 9223372036854775807 := by
  obtain ⟨m, hm⟩ := h
  obtain ⟨n, e, -, hw⟩ := DataW.trod_int Try.underlying3 hm
  have e2 : z = n := by simpa [Value.cells] using e
  subst e2
  simp only [Lit.wf, Bool.and_eq_true, decide_eq_true_eq] at hw
  exact hw
end

end Go.Proofs.Ytfioaohadanjmaa

/- FnExactCellsMade: the walk. -/
namespace Go.Proofs.Ytfioaohadanjmaa
open Go.RowKit

set_option maxHeartbeats 8000000
set_option maxRecDepth 100000
theorem fnExactCellsMade_any (vt vb : Value) (ts : List Int) (l : List St) (vc : Value) (cs : List Int) (most : Int) (w : World) (ht : AnI w w.heap.size vt ts) (hl : StS w w.heap.size vb l) (hL : Lens l) (hc : AnI w w.heap.size vc cs) :
    Calls Try.prog 7 #[.agg #[vt, vb], vc, .int .i64 most] w (LwRet w) := by
  have HA0 := Lib.hid (ArA.new ht hl)
  have HLE := Lib.hid hL
  have ht0 := ht
  obtain ⟨At, ct, rfl, -⟩ := ht0
  obtain ⟨Ab, cb, rfl, hcb⟩ := hl.slice
  have HC0 := Lib.hid hc
  obtain ⟨Ac, cc, rfl, hcc, hcm, -⟩ := hc
  clear ht hl hL
  go_enter Try.func7, Try.ntmps7
  go_upto_region 1 with (at_builtin; fail)
  generalize w.alloc (.cells #[.slice At ts.length ct, .slice Ab l.length cb] 25) = W0 at *
  obtain ⟨g, hg⟩ : ∃ g, g = w.heap.size := ⟨_, rfl⟩
  rw [← hg] at HA0 ⊢
  have HG := Lib.hid hg
  clear hg
  have c0 := HA0.out.row.cell 0
  have c1 := HA0.out.row.cell 1
  simp only [List.getElem?_cons_zero, List.getElem?_cons_succ] at c0 c1
  by_cases hbig : 1048576 < cs.length
  · have qb : decide (((cs.length : Nat) : Int) > 1048576) = true := decide_eq_true (by omega)
    go_wp2_with (at_builtin; fail)
    go_ret
    exact ⟨rfl, HA0.out.bel⟩
  have qb : decide (((cs.length : Nat) : Int) > 1048576) = false := decide_eq_false (by omega)
  have HC := Lib.hid (HC0.out.toS (by omega))
  have hcl : cs.length ≤ 1048576 := by omega
  clear hbig HC0
  go_wp2_with (at_builtin; fail)
  refine (szProgram_any _ _ ts l 1048576 w.heap.size W0 HA0.out.ht HA0.out.hl HLE.out HA0.out.bel.size (by omega) (by omega)).mono ?_
  rintro e W1 ⟨rfl, hb1⟩
  have HA1 := Lib.hid (HA0.out.bels hb1)
  clear hb1 c0 c1 HA0
  by_cases hn : leftP 1048576 (ts.length + szL l) < 0
  · rw [(leftP_neg hn).1]
    clear hn
    go_wp2_with (at_builtin; fail)
    go_ret
    exact ⟨rfl, HA1.out.bel⟩
  · have hsz := (leftP_nn (by omega : 0 ≤ leftP 1048576 (ts.length + szL l))).1
    have htl : ts.length ≤ 1048576 := by omega
    have hll : szL l ≤ 1048576 := by omega
    have HB1 := Lib.hid (HA1.out.toB (by omega))
    generalize leftP 1048576 (ts.length + szL l) = L1 at *
    clear HA1 hsz HLE
    have c0 := HB1.out.c0
    have c1 := HB1.out.c1
    go_wp2_with (at_builtin; fail)
    refine (toProgram_any _ _ ts l w.heap.size W1 HB1.out.ht HB1.out.hl HB1.out.bel.size hll).mono ?_
    rintro e W2 ⟨vt2, vb2, rfl, ht2, hl2, hb2⟩
    have HB2 := Lib.hid (HB1.out.bels hb2)
    have HT2 := Lib.hid (ht2.toS (by omega))
    have HL2 := Lib.hid hl2.toS
    clear ht2 hl2 hb2 c0 c1 HB1
    go_wp2_with (at_builtin; fail)
    refine (toIntS_any _ cs w.heap.size W2 (HC.out.low HB2.out.bel (Nat.le_refl _)) HB2.out.bel.size).mono ?_
    rintro e Wi ⟨vi, rfl, hvi, hbi⟩
    have HBi := Lib.hid (HB2.out.bels hbi)
    have HCi := Lib.hid (hvi.toS (by omega))
    have HTi := Lib.hid ((HT2.out.low hbi (Nat.le_refl _)).more hbi.size)
    have HLi := Lib.hid ((HL2.out.low hbi (Nat.le_refl _)).more hbi.size)
    clear hvi hbi HB2 HT2 HL2
    go_wp2_with (at_builtin; fail)
    refine (sCellsMade_any _ _ _ ts l cs most Wi.heap.size Wi HTi.out HLi.out HCi.out (Nat.le_refl _) (by omega)).mono ?_
    rintro e W3 ⟨rfl, hb3⟩
    have HB3 := Lib.hid (HBi.out.bels hb3)
    clear hb3 HTi HLi HCi HBi
    obtain ⟨R, hR⟩ : ∃ R, R = madeX ts l cs most := ⟨_, rfl⟩
    rw [← hR]
    have HRE := Lib.hid hR
    clear hR
    obtain ⟨z1, z2, z3⟩ := R
    have c0 := HB3.out.c0
    have c1 := HB3.out.c1
    go_wp2_with (at_builtin; fail)
    refine (toProgram_any _ _ ts l w.heap.size W3 HB3.out.ht HB3.out.hl HB3.out.bel.size hll).mono ?_
    rintro e W4 ⟨vt4, vb4, rfl, ht4, hl4, hb4⟩
    have HX5 := Lib.hid (XB.new ht4 hl4 hb4)
    have HB5 := Lib.hid ((HB3.out.bels hb4).bels (bel_a W4 (.cells #[vt4, vb4] 30)))
    obtain ⟨A4, n4, rfl, -⟩ := ht4.slice
    obtain ⟨b4, m4, rfl, -, -, -⟩ := hl4.slice
    clear ht4 hl4 hb4 c0 c1
    go_upto_region 9 with (at_builtin; fail)
    generalize hW5 : W4.alloc (.cells #[.slice A4 ts.length n4, .slice (some ⟨b4, 0, none⟩) l.length m4] 30) = W5 at *
    clear hW5
    obtain ⟨hi, hhi⟩ : ∃ hi, hi = W4.heap.size := ⟨_, rfl⟩
    obtain ⟨lo, hlo⟩ : ∃ lo, lo = W3.heap.size := ⟨_, rfl⟩
    rw [← hhi] at HX5 ⊢
    rw [← hlo] at HX5
    clear hhi hlo HB3
    go_wp2_with (at_builtin; fail)
    refine (toIntS_any _ cs w.heap.size W5 (HC.out.low HB5.out.bel (Nat.le_refl _)) HB5.out.bel.size).mono ?_
    rintro e W6 ⟨v6, rfl, hv6, hb6⟩
    have HB6 := Lib.hid (HB5.out.bels hb6)
    have HX6 := Lib.hid (HX5.out.bels hb6)
    have HC6 := Lib.hid (hv6.toS (by omega))
    obtain ⟨A6, c6, rfl, -⟩ := hv6.slice
    have x0 := HX6.out.c0
    have x1 := HX6.out.c1
    clear hv6 hb6 HB5 HX5
    go_wp2_with (at_builtin; fail)
    refine (iCellsMade_any _ _ _ ts l cs most W6.heap.size W6 (HX6.out.rt (by omega)) HX6.out.rl HC6.out (Nat.le_refl _) (by omega)).mono ?_
    rw [← HRE.out]
    rintro e W9 ⟨rfl, hb7⟩
    have HB9 := Lib.hid (HB6.out.bels hb7)
    have HX9 := Lib.hid (HX6.out.bels hb7)
    have HC9 := Lib.hid ((HC6.out.low hb7 (Nat.le_refl _)).more hb7.size)
    clear hb7 x0 x1 HB6 HX6 HC6
    have c0 := HB9.out.c0
    have c1 := HB9.out.c1
    have x0 := HX9.out.c0
    have x1 := HX9.out.c1
    have e1 : (((z1 : Nat) : Int) != ((z1 : Nat) : Int)) = false := by simp
    have e2 : (((z2 : Nat) : Int) != ((z2 : Nat) : Int)) = false := by simp
    have e3 : (z3 != z3) = false := by simp
    have hlt7 := HB9.out.lt
    have hlx7 := HX9.out.lt
    go_wp2_with (at_builtin; fail)
    have BEL : Hid (∀ w', w'.cell? ⟨g, 0, none⟩ = some (.slice At ts.length ct) ∧ w'.cell? ⟨g, 1, none⟩ = some (.slice Ab l.length cb) ∧ w'.cell? ⟨hi, 0, none⟩ = some (.slice A4 ts.length n4) ∧ w'.cell? ⟨hi, 1, none⟩ = some (.slice (some ⟨b4, 0, none⟩) l.length m4) ∧ Below W9.heap.size W9 w' → Below W9.heap.size W9 w') := Lib.hid fun _ h => h.2.2.2.2
    refine wp_region_held_drew (S := (fun w' => w'.cell? ⟨g, 0, none⟩ = some (.slice At ts.length ct) ∧ w'.cell? ⟨g, 1, none⟩ = some (.slice Ab l.length cb) ∧ w'.cell? ⟨hi, 0, none⟩ = some (.slice A4 ts.length n4) ∧ w'.cell? ⟨hi, 1, none⟩ = some (.slice (some ⟨b4, 0, none⟩) l.length m4) ∧ Below W9.heap.size W9 w')) (by kernel_rfl) ?_ (fun hHeld => ?_)
    · exact ⟨c0, c1, x0, x1, (Below.refl _ _).drew⟩
    refine wpAnyH_take (i := 0) (oi := ⟨some 59, _, _, _, _, _⟩) (v := ?_) rfl (by kernel_rfl) (by kernel_rfl) (by kernel_rfl) (fun _ _ _ h => h) (Or.inl ⟨by rfl, fun w' hSw => ?_⟩) (by assumption) ?_
    rotate_left
    · (try dsimp only at hSw); go_simp; (try with_reducible rfl)
    (try simp only [Act.put, List.setIfInBounds_toArray, List.set_cons_zero, List.set_cons_succ])
    refine wpAnyH_take (i := 1) (oi := ⟨some 60, _, _, _, _, _⟩) (v := ?_) rfl (by kernel_rfl) (by kernel_rfl) (by kernel_rfl) (fun _ _ _ h => h) (Or.inl ⟨by rfl, fun w' hSw => ?_⟩) (by assumption) ?_
    rotate_left
    · (try dsimp only at hSw); go_simp; (try with_reducible rfl)
    (try simp only [Act.put, List.setIfInBounds_toArray, List.set_cons_zero, List.set_cons_succ])
    refine wpAnyH_ready (rs := [2]) (by kernel_rfl) (by simp) ?_
    refine AllReadyH.cons (o := ⟨some 61, _, _, _, _, _⟩) rfl (fun K hK => ?_) AllReadyH.nil
    go_simp
    (refine (toProgram_any _ _ ts l w.heap.size _ ((HB9.out.bels (show Below W9.heap.size W9 _ from (BEL.out _ (by assumption)))).ht) ((HB9.out.bels (show Below W9.heap.size W9 _ from (BEL.out _ (by assumption)))).hl) ((HB9.out.bels (show Below W9.heap.size W9 _ from (BEL.out _ (by assumption)))).bel.size) hll).mono ?_)
    (rintro e w8 ⟨vt8, vb8, rfl, ht8, hl8, hb8⟩)
    (have BX8 := Lib.hid ((BEL.out _ (by assumption)).trans (hb8.mono (BEL.out _ (by assumption)).size)))
    (have HT8 := Lib.hid (ht8.toS (by omega)))
    (have HL8 := Lib.hid hl8.toS)
    clear ht8 hl8 hb8
    go_simp
    refine hK.out _ _ ?_ (fun hHeld => ?_)
    · exact ⟨(BX8.out.cell (p := ⟨g, 0, none⟩) hlt7).trans c0, (BX8.out.cell (p := ⟨g, 1, none⟩) hlt7).trans c1, (BX8.out.cell (p := ⟨hi, 0, none⟩) hlx7).trans x0, (BX8.out.cell (p := ⟨hi, 1, none⟩) hlx7).trans x1, BX8.out⟩
    clear hK K
    (try simp only [Act.put, List.setIfInBounds_toArray, List.set_cons_zero, List.set_cons_succ])
    refine wpAnyH_ready (rs := [3]) (by kernel_rfl) (by simp) ?_
    refine AllReadyH.cons (o := ⟨some 62, _, _, _, _, _⟩) rfl (fun K hK => ?_) AllReadyH.nil
    go_simp
    (have BY := (BEL.out _ (by assumption)))
    (refine (eqProgram_any _ _ _ _ ts l _ _ (((HX9.out.bels BX8.out).rt (by omega))) ((HX9.out.bels BX8.out).rl) HT8.out HL8.out (Nat.le_refl _) (by omega)).mono ?_)
    (rintro e w9 ⟨rfl, hb9⟩)
    (have BX9 := Lib.hid (BX8.out.trans (hb9.mono BX8.out.size)))
    clear hb9
    go_simp
    refine hK.out _ _ ?_ (fun hHeld => ?_)
    · exact ⟨(BX9.out.cell (p := ⟨g, 0, none⟩) hlt7).trans c0, (BX9.out.cell (p := ⟨g, 1, none⟩) hlt7).trans c1, (BX9.out.cell (p := ⟨hi, 0, none⟩) hlx7).trans x0, (BX9.out.cell (p := ⟨hi, 1, none⟩) hlx7).trans x1, BX9.out⟩
    clear hK K
    (try simp only [Act.put, List.setIfInBounds_toArray, List.set_cons_zero, List.set_cons_succ])
    refine wpAnyH_take (i := 4) (oi := ⟨some 63, _, _, _, _, _⟩) (v := ?_) rfl (by kernel_rfl) (by kernel_rfl) (by kernel_rfl) (fun _ _ _ h => h) (Or.inl ⟨by rfl, fun w' hSw => ?_⟩) (by assumption) ?_
    rotate_left
    · (try dsimp only at hSw); go_simp; (try with_reducible rfl)
    (try simp only [Act.put, List.setIfInBounds_toArray, List.set_cons_zero, List.set_cons_succ])
    refine wpAnyH_done (by kernel_rfl) ?_ _
    have HBa := Lib.hid (HB9.out.bels BX9.out)
    have HCa := Lib.hid ((HC9.out.low BX9.out (Nat.le_refl _)).more BX9.out.size)
    clear c0 c1 x0 x1 BEL BX8 BX9 BY HT8 HL8 HB9 HX9 HC9 hHeld
    go_wp2_with (at_builtin; fail)
    refine (toIntS_any _ cs w.heap.size w9 (HC.out.low HBa.out.bel (Nat.le_refl _)) HBa.out.bel.size).mono ?_
    rintro e wa ⟨va, rfl, hva, hba⟩
    have HBb := Lib.hid (HBa.out.bels hba)
    have HCb := Lib.hid (HCa.out.low hba (Nat.le_refl _))
    have HDb := Lib.hid (hva.toS (by omega))
    clear hva hba HBa HCa
    go_wp2_with (at_builtin; fail)
    refine (eqIntS_any _ _ cs _ _ wa HCb.out HDb.out).mono ?_
    rintro e wb ⟨rfl, hbb⟩
    have HBc := Lib.hid (HBb.out.bels hbb)
    clear hbb HBb
    go_wp2_with (at_builtin; fail)
    go_ret
    exact ⟨rfl, HBc.out.bel⟩

end Go.Proofs.Ytfioaohadanjmaa
