import Derived.Test.YtfioaohadanjmaaC18
import Derived.Test.YtfioaohadanjmaaC23
import Derived.Test.YtfioaohadanjmaaC39
set_option linter.unusedVariables false

/- FnExactCheckRegions: the walk. -/
namespace Go.Proofs.Ytfioaohadanjmaa
open Go.RowKit

set_option maxHeartbeats 8000000
set_option maxRecDepth 100000
theorem fnExactCheckRegions_any (vt vb : Value) (ts : List Int) (l : List St) (w : World) (ht : AnI w w.heap.size vt ts) (hl : StS w w.heap.size vb l) (hL : Lens l) :
    Calls Try.prog 9 #[.agg #[vt, vb]] w (LwRet w) := by
  have HA0 := Lib.hid (ArA.new ht hl)
  have HLE := Lib.hid hL
  have ht0 := ht
  obtain ⟨At, ct, rfl, -⟩ := ht0
  obtain ⟨Ab, cb, rfl, hcb⟩ := hl.slice
  clear ht hl hL
  go_enter Try.func9, Try.ntmps9
  go_upto_region 1 with (at_builtin; fail)
  generalize w.alloc (.cells #[.slice At ts.length ct, .slice Ab l.length cb] 25) = W0 at *
  obtain ⟨g, hg⟩ : ∃ g, g = w.heap.size := ⟨_, rfl⟩
  rw [← hg] at HA0 ⊢
  have HG := Lib.hid hg
  clear hg
  have c0 := HA0.out.row.cell 0
  have c1 := HA0.out.row.cell 1
  simp only [List.getElem?_cons_zero, List.getElem?_cons_succ] at c0 c1
  go_wp2_with (at_builtin; fail)
  refine (szProgram_any _ _ ts l 1048576 w.heap.size W0 HA0.out.ht HA0.out.hl HLE.out HA0.out.bel.size (by omega) (by omega)).mono ?_
  rintro e W1 ⟨rfl, hb1⟩
  have HA1 := Lib.hid (HA0.out.bels hb1)
  clear hb1 c0 c1 HA0
  by_cases hn : leftP 1048576 (ts.length + szL l) < 0
  · rw [(leftP_neg hn).1]
    clear hn
    go_wp2_with (at_builtin; fail)
    go_ret
    exact ⟨rfl, HA1.out.bel⟩
  · have hsz := (leftP_nn (by omega : 0 ≤ leftP 1048576 (ts.length + szL l))).1
    have htl : ts.length ≤ 1048576 := by omega
    have hll : szL l ≤ 1048576 := by omega
    have HB1 := Lib.hid (HA1.out.toB (by omega))
    generalize leftP 1048576 (ts.length + szL l) = L1 at *
    clear HA1 hsz HLE
    have c0 := HB1.out.c0
    have c1 := HB1.out.c1
    go_wp2_with (at_builtin; fail)
    refine (toProgram_any _ _ ts l w.heap.size W1 HB1.out.ht HB1.out.hl HB1.out.bel.size hll).mono ?_
    rintro e W2 ⟨vt2, vb2, rfl, ht2, hl2, hb2⟩
    have HB2 := Lib.hid (HB1.out.bels hb2)
    have HT2 := Lib.hid (ht2.toS (by omega))
    have HL2 := Lib.hid hl2.toS
    clear ht2 hl2 hb2 c0 c1 HB1
    go_wp2_with (at_builtin; fail)
    refine (sCheckRegions_any _ _ ts l W2.heap.size W2 HT2.out HL2.out (Nat.le_refl _) (by omega)).mono ?_
    rintro e W3 ⟨v0, rfl, hv0, hb3⟩
    have HB3 := Lib.hid (HB2.out.bels hb3)
    have hrl := regIss_len ts l
    have HV3 := Lib.hid (hv0.toS (by omega))
    obtain ⟨A0, n0, rfl, -⟩ := hv0.slice
    have c0 := HB3.out.c0
    have c1 := HB3.out.c1
    clear hb3 hv0 HT2 HL2 HB2
    go_wp2_with (at_builtin; fail)
    refine (toProgram_any _ _ ts l w.heap.size W3 HB3.out.ht HB3.out.hl HB3.out.bel.size hll).mono ?_
    rintro e W4 ⟨vt4, vb4, rfl, ht4, hl4, hb4⟩
    have HX5 := Lib.hid (XB.new ht4 hl4 hb4)
    have HV4 := Lib.hid ((HV3.out.low hb4 (Nat.le_refl _)).low (bel_a W4 (.cells #[vt4, vb4] 30)) hb4.size)
    have HB4 := Lib.hid ((HB3.out.bels hb4).bels (bel_a W4 (.cells #[vt4, vb4] 30)))
    obtain ⟨A4, n4, rfl, -⟩ := ht4.slice
    obtain ⟨b4, m4, rfl, -, -, -⟩ := hl4.slice
    clear ht4 hl4 hb4 c0 c1
    go_upto_region 7 with (at_builtin; fail)
    generalize hW5 : W4.alloc (.cells #[.slice A4 ts.length n4, .slice (some ⟨b4, 0, none⟩) l.length m4] 30) = W5 at *
    clear hW5
    obtain ⟨hi, hhi⟩ : ∃ hi, hi = W4.heap.size := ⟨_, rfl⟩
    obtain ⟨lo, hlo⟩ : ∃ lo, lo = W3.heap.size := ⟨_, rfl⟩
    rw [← hhi] at HX5 ⊢
    rw [← hlo] at HX5 HV4
    have HLO : Hid (g < lo) := Lib.hid (by rw [hlo]; exact HB3.out.lt)
    clear hhi hlo HB3 HV3
    have x0 := HX5.out.c0
    have x1 := HX5.out.c1
    go_wp2_with (at_builtin; fail)
    refine (iCheckRegions_any _ _ ts l W5.heap.size W5 (HX5.out.rt (by omega)) HX5.out.rl (Nat.le_refl _) (by omega)).mono ?_
    rintro e W6 ⟨vg, rfl, hvg, hb6⟩
    have HB6 := Lib.hid (HB4.out.bels hb6)
    have HX6 := Lib.hid (HX5.out.bels hb6)
    have HV6 := Lib.hid (HV4.out.low hb6 (by have := HX5.out.lt; have := HX5.out.le; omega))
    have HO6 := Lib.hid hvg
    obtain ⟨bs, hbs⟩ : ∃ bs, bs = W5.heap.size := ⟨_, rfl⟩
    rw [← hbs] at HO6
    have HBS : Hid (hi < bs) := Lib.hid (by rw [hbs]; exact HX5.out.lt)
    obtain ⟨Ag, ng, rfl, hng⟩ := hvg.slice
    clear hvg hb6 x0 x1 hbs HB4 HX5 HV4
    obtain ⟨RL, hRL⟩ : ∃ RL, RL = regIss ts l := ⟨_, rfl⟩
    rw [← hRL] at HV6 HO6 hrl ⊢
    have HRL := Lib.hid hRL
    clear hRL
    go_wp2_with (at_builtin; fail)
    refine (eqIssueS_any _ _ RL _ _ W6 (HO6.out.toS (by omega)) HV6.out (Nat.le_refl _) (by have := HX6.out.lt; have := HX6.out.le; omega)).mono ?_
    rintro e W7 ⟨rfl, hb7⟩
    have HB7 := Lib.hid (HB6.out.bels hb7)
    have HX7 := Lib.hid (HX6.out.bels hb7)
    have HV7 := Lib.hid (HV6.out.low hb7 (by have := HX6.out.lt; have := HX6.out.le; omega))
    have HO7 := Lib.hid (HO6.out.bel hb7)
    have c0 := HB7.out.c0
    have c1 := HB7.out.c1
    have x0 := HX7.out.c0
    have x1 := HX7.out.c1
    clear hb7 HB6 HX6 HV6 HO6
    have hlt7 := HB7.out.lt
    have hlx7 := HX7.out.lt
    go_wp2_with (at_builtin; fail)
    have BEL : Hid (∀ w', w'.cell? ⟨g, 0, none⟩ = some (.slice At ts.length ct) ∧ w'.cell? ⟨g, 1, none⟩ = some (.slice Ab l.length cb) ∧ w'.cell? ⟨hi, 0, none⟩ = some (.slice A4 ts.length n4) ∧ w'.cell? ⟨hi, 1, none⟩ = some (.slice (some ⟨b4, 0, none⟩) l.length m4) ∧ Below W7.heap.size W7 w' → Below W7.heap.size W7 w') := Lib.hid fun _ h => h.2.2.2.2
    refine wp_region_held_drew (S := (fun w' => w'.cell? ⟨g, 0, none⟩ = some (.slice At ts.length ct) ∧ w'.cell? ⟨g, 1, none⟩ = some (.slice Ab l.length cb) ∧ w'.cell? ⟨hi, 0, none⟩ = some (.slice A4 ts.length n4) ∧ w'.cell? ⟨hi, 1, none⟩ = some (.slice (some ⟨b4, 0, none⟩) l.length m4) ∧ Below W7.heap.size W7 w')) (by kernel_rfl) ?_ (fun hHeld => ?_)
    · exact ⟨c0, c1, x0, x1, (Below.refl _ _).drew⟩
    refine wpAnyH_take (i := 0) (oi := ⟨some 27, _, _, _, _, _⟩) (v := ?_) rfl (by kernel_rfl) (by kernel_rfl) (by kernel_rfl) (fun _ _ _ h => h) (Or.inl ⟨by rfl, fun w' hSw => ?_⟩) (by assumption) ?_
    rotate_left
    · (try dsimp only at hSw); go_simp; (try with_reducible rfl)
    (try simp only [Act.put, List.setIfInBounds_toArray, List.set_cons_zero, List.set_cons_succ])
    refine wpAnyH_take (i := 1) (oi := ⟨some 28, _, _, _, _, _⟩) (v := ?_) rfl (by kernel_rfl) (by kernel_rfl) (by kernel_rfl) (fun _ _ _ h => h) (Or.inl ⟨by rfl, fun w' hSw => ?_⟩) (by assumption) ?_
    rotate_left
    · (try dsimp only at hSw); go_simp; (try with_reducible rfl)
    (try simp only [Act.put, List.setIfInBounds_toArray, List.set_cons_zero, List.set_cons_succ])
    refine wpAnyH_ready (rs := [2]) (by kernel_rfl) (by simp) ?_
    refine AllReadyH.cons (o := ⟨some 29, _, _, _, _, _⟩) rfl (fun K hK => ?_) AllReadyH.nil
    go_simp
    (refine (toProgram_any _ _ ts l w.heap.size _ ((HB7.out.bels (show Below W7.heap.size W7 _ from (BEL.out _ (by assumption)))).ht) ((HB7.out.bels (show Below W7.heap.size W7 _ from (BEL.out _ (by assumption)))).hl) ((HB7.out.bels (show Below W7.heap.size W7 _ from (BEL.out _ (by assumption)))).bel.size) hll).mono ?_)
    (rintro e w8 ⟨vt8, vb8, rfl, ht8, hl8, hb8⟩)
    (have BX8 := Lib.hid ((BEL.out _ (by assumption)).trans (hb8.mono (BEL.out _ (by assumption)).size)))
    (have HT8 := Lib.hid (ht8.toS (by omega)))
    (have HL8 := Lib.hid hl8.toS)
    clear ht8 hl8 hb8
    go_simp
    refine hK.out _ _ ?_ (fun hHeld => ?_)
    · exact ⟨(BX8.out.cell (p := ⟨g, 0, none⟩) hlt7).trans c0, (BX8.out.cell (p := ⟨g, 1, none⟩) hlt7).trans c1, (BX8.out.cell (p := ⟨hi, 0, none⟩) hlx7).trans x0, (BX8.out.cell (p := ⟨hi, 1, none⟩) hlx7).trans x1, BX8.out⟩
    clear hK K
    (try simp only [Act.put, List.setIfInBounds_toArray, List.set_cons_zero, List.set_cons_succ])
    refine wpAnyH_ready (rs := [3]) (by kernel_rfl) (by simp) ?_
    refine AllReadyH.cons (o := ⟨some 30, _, _, _, _, _⟩) rfl (fun K hK => ?_) AllReadyH.nil
    go_simp
    (have BY := (BEL.out _ (by assumption)))
    (refine (eqProgram_any _ _ _ _ ts l _ _ (((HX7.out.bels BX8.out).rt (by omega))) ((HX7.out.bels BX8.out).rl) HT8.out HL8.out (Nat.le_refl _) (by omega)).mono ?_)
    (rintro e w9 ⟨rfl, hb9⟩)
    (have BX9 := Lib.hid (BX8.out.trans (hb9.mono BX8.out.size)))
    clear hb9
    go_simp
    refine hK.out _ _ ?_ (fun hHeld => ?_)
    · exact ⟨(BX9.out.cell (p := ⟨g, 0, none⟩) hlt7).trans c0, (BX9.out.cell (p := ⟨g, 1, none⟩) hlt7).trans c1, (BX9.out.cell (p := ⟨hi, 0, none⟩) hlx7).trans x0, (BX9.out.cell (p := ⟨hi, 1, none⟩) hlx7).trans x1, BX9.out⟩
    clear hK K
    (try simp only [Act.put, List.setIfInBounds_toArray, List.set_cons_zero, List.set_cons_succ])
    refine wpAnyH_take (i := 4) (oi := ⟨some 31, _, _, _, _, _⟩) (v := ?_) rfl (by kernel_rfl) (by kernel_rfl) (by kernel_rfl) (fun _ _ _ h => h) (Or.inl ⟨by rfl, fun w' hSw => ?_⟩) (by assumption) ?_
    rotate_left
    · (try dsimp only at hSw); go_simp; (try with_reducible rfl)
    (try simp only [Act.put, List.setIfInBounds_toArray, List.set_cons_zero, List.set_cons_succ])
    refine wpAnyH_done (by kernel_rfl) ?_ _
    have HB9 := Lib.hid (HB7.out.bels BX9.out)
    have HX9 := Lib.hid (HX7.out.bels BX9.out)
    have HV9 := Lib.hid (HV7.out.low BX9.out (by have := HX7.out.lt; have := HX7.out.le; omega))
    have HO9 := Lib.hid (HO7.out.bel BX9.out)
    have HLX : Hid (lo ≤ w9.heap.size) := Lib.hid (by have := HX9.out.lt; have := HX9.out.le; omega)
    clear c0 c1 x0 x1 hlt7 hlx7 BEL BX8 BX9 BY HT8 HL8 HB7 HX7 HV7 HO7 hHeld
    have x0 := HX9.out.c0
    have x1 := HX9.out.c1
    go_wp2_with (at_builtin; fail)
    refine (markProgram_any _ _ ts l lo _ true 1 w9 HX9.out.ht HX9.out.hl (by omega) (by omega)).mono ?_
    rintro e wa ⟨rfl, hca⟩
    have HCA := Lib.hid (hca.bel HLX.out fun b hb => (HX9.out.q b hb).1)
    have HBA := Lib.hid (HB9.out.low HCA.out HLO.out)
    have HVA := Lib.hid (HV9.out.low HCA.out (Nat.le_refl _))
    have HOA := Lib.hid (HO9.out.ch hca HX9.out.q (Nat.le_of_lt HBS.out))
    have HLA : Hid (lo ≤ wa.heap.size) := Lib.hid (Nat.le_trans HLX.out HCA.out.size)
    have HLBS : Hid (lo ≤ bs) := Lib.hid (by have := HX9.out.le; have := HBS.out; omega)
    clear hca x0 x1 HB9 HX9 HV9 HO9 HCA
    have hk0 : ¬ (1 + (ts.length : Int) + 4 * (szL l : Int) < 0) := by omega
    generalize 1 + (ts.length : Int) + 4 * (szL l : Int) = K at *
    go_wp2_with (at_builtin; fail)
    refine (eqIssueS_any _ _ RL _ _ wa (HOA.out.toS (by omega)) HVA.out (Nat.le_refl _) HLA.out).mono ?_
    rintro e wb ⟨rfl, hbb⟩
    have HBB := Lib.hid (HBA.out.bels hbb)
    have HVB := Lib.hid (HVA.out.low hbb HLA.out)
    have HOB := Lib.hid (HOA.out.bel hbb)
    have HLB : Hid (lo ≤ wb.heap.size) := Lib.hid (Nat.le_trans HLA.out hbb.size)
    clear hbb HBA HVA HOA
    go_wp2_with (at_builtin; fail)
    refine (markIssueS_any _ RL 1 bs wb HOB.out (by omega) (by omega)).mono ?_
    rintro e wc ⟨rfl, hoc, hmc⟩
    have HBC := Lib.hid (HBB.out.low (HOB.out.ownMk hmc HLBS.out) HLO.out)
    have HVC := Lib.hid (HVB.out.low (HOB.out.ownMk hmc HLBS.out) (Nat.le_refl _))
    have HOC := Lib.hid hoc
    have c0 := HBC.out.c0
    have c1 := HBC.out.c1
    have HLC : Hid (lo ≤ wc.heap.size) := Lib.hid (by rw [hmc.size]; exact HLB.out)
    clear hoc hmc HBB HVB HOB
    obtain ⟨M, hM⟩ : ∃ M : Int, M = 1 + 3 * (RL.length : Int) := ⟨_, rfl⟩
    have HM := Lib.hid hM
    rw [← hM]
    have hne : (M != M) = false := by simp
    have hnn : ¬ (M < 0) := by omega
    clear hM
    go_wp2_with (at_builtin; fail)
    refine (heldIssueS_any _ RL.length 1 _ wc (HOC.out.toS (by rw [uptoI_len]; omega)) (by omega) (by omega)).mono ?_
    rw [← HM.out]
    rintro e wd ⟨rfl, rfl⟩
    go_wp2_with (at_builtin; fail)
    refine (toProgram_any _ _ ts l w.heap.size wc HBC.out.ht HBC.out.hl HBC.out.bel.size hll).mono ?_
    rintro e we ⟨vte, vbe, rfl, hte, hle, hbe⟩
    have HBE := Lib.hid (HBC.out.bels hbe)
    have HVE := Lib.hid (HVC.out.low hbe HLC.out)
    have HOE := Lib.hid (HOC.out.bel hbe)
    have HTE := Lib.hid (hte.toS (by omega))
    have HLE := Lib.hid hle.toS
    have HLF : Hid (lo ≤ we.heap.size) := Lib.hid (Nat.le_trans HLC.out hbe.size)
    clear hte hle hbe c0 c1 HBC HVC HOC
    go_wp2_with (at_builtin; fail)
    refine (iCheckRegions_any _ _ ts l we.heap.size we HTE.out HLE.out (Nat.le_refl _) (by omega)).mono ?_
    rw [← HRL.out]
    rintro e wf ⟨vh, rfl, hvh, hbf⟩
    have HBF := Lib.hid (HBE.out.bels hbf)
    have HVF := Lib.hid (HVE.out.low hbf HLF.out)
    have HOF := Lib.hid (HOE.out.bel hbf)
    have HHF := Lib.hid (hvh.toS (by omega))
    have HLG : Hid (lo ≤ wf.heap.size) := Lib.hid (Nat.le_trans HLF.out hbf.size)
    obtain ⟨Ah, nh, rfl, hnh⟩ := hvh.slice
    clear hvh hbf HBE HVE HOE HTE HLE
    go_wp2_with (at_builtin; fail)
    refine (eqIssueS_any _ _ RL _ _ wf HHF.out HVF.out (Nat.le_refl _) HLG.out).mono ?_
    rintro e wg ⟨rfl, hbg⟩
    have HBG := Lib.hid (HBF.out.bels hbg)
    have HOG := Lib.hid (HOF.out.bel hbg)
    clear hbg HBF HVF HOF HHF
    go_wp2_with (at_builtin; fail)
    refine (heldIssueS_any _ RL.length 1 _ wg (HOG.out.toS (by rw [uptoI_len]; omega)) (by omega) (by omega)).mono ?_
    rw [← HM.out]
    rintro e wh ⟨rfl, rfl⟩
    go_wp2_with (at_builtin; fail)
    go_ret
    exact ⟨rfl, HBG.out.bel⟩

end Go.Proofs.Ytfioaohadanjmaa
