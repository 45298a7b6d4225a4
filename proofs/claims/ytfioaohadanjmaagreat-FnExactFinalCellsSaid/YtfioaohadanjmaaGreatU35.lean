import Derived.Test.YtfioaohadanjmaaGreatU13
import Derived.Test.YtfioaohadanjmaaGreatU30
import Derived.Test.YtfioaohadanjmaaGreatU34
set_option linter.unusedVariables false

/- FnExactFinalCells: the walk. -/
namespace Go.Proofs.YtfioaohadanjmaaGreat
open Go.RowKit

set_option maxHeartbeats 8000000
set_option maxRecDepth 100000
theorem fnExactFinalCells_any (vt vb : Value) (ts : List Int) (l : List St) (vc : Value) (cs : List Int) (most : Int) (w : World) (ht : AnI w w.heap.size vt ts) (hl : StS w w.heap.size vb l) (hL : Lens l) (hc : AnI w w.heap.size vc cs) :
    Calls Tryz.prog 8 #[.agg #[vt, vb], vc, .int .i64 most] w (LwRet w) := by
  have HA0 := Lib.hid (ArA.new ht hl)
  have HLE := Lib.hid hL
  have ht0 := ht
  obtain ⟨At, ct, rfl, -⟩ := ht0
  obtain ⟨Ab, cb, rfl, hcb⟩ := hl.slice
  have HC0 := Lib.hid hc
  obtain ⟨Ac, cc, rfl, hcc, hcm, -⟩ := hc
  clear ht hl hL
  go_enter Tryz.func8, Tryz.ntmps8
  go_upto_region 1 with (at_builtin; fail)
  generalize w.alloc (.cells #[.slice At ts.length ct, .slice Ab l.length cb] 25) = W0 at *
  obtain ⟨g, hg⟩ : ∃ g, g = w.heap.size := ⟨_, rfl⟩
  rw [← hg] at HA0 ⊢
  have HG := Lib.hid hg
  clear hg
  have c0 := HA0.out.row.cell 0
  have c1 := HA0.out.row.cell 1
  simp only [List.getElem?_cons_zero, List.getElem?_cons_succ] at c0 c1
  by_cases hbig : 1048576 < cs.length
  · have qb : decide (((cs.length : Nat) : Int) > 1048576) = true := decide_eq_true (by omega)
    go_wp2_with (at_builtin; fail)
    go_ret
    exact ⟨rfl, HA0.out.bel⟩
  have qb : decide (((cs.length : Nat) : Int) > 1048576) = false := decide_eq_false (by omega)
  have HC := Lib.hid (HC0.out.toS (by omega))
  have hcl : cs.length ≤ 1048576 := by omega
  clear hbig HC0
  go_wp2_with (at_builtin; fail)
  refine (szProgram_any _ _ ts l 1048576 w.heap.size W0 HA0.out.ht HA0.out.hl HLE.out HA0.out.bel.size (by omega) (by omega)).mono ?_
  rintro e W1 ⟨rfl, hb1⟩
  have HA1 := Lib.hid (HA0.out.bels hb1)
  clear hb1 c0 c1 HA0
  by_cases hn : leftP 1048576 (ts.length + szL l) < 0
  · rw [(leftP_neg hn).1]
    clear hn
    go_wp2_with (at_builtin; fail)
    go_ret
    exact ⟨rfl, HA1.out.bel⟩
  · have hsz := (leftP_nn (by omega : 0 ≤ leftP 1048576 (ts.length + szL l))).1
    have htl : ts.length ≤ 1048576 := by omega
    have hll : szL l ≤ 1048576 := by omega
    have HB1 := Lib.hid (HA1.out.toB (by omega))
    generalize leftP 1048576 (ts.length + szL l) = L1 at *
    clear HA1 hsz HLE
    have c0 := HB1.out.c0
    have c1 := HB1.out.c1
    go_wp2_with (at_builtin; fail)
    refine (toProgram_any _ _ ts l w.heap.size W1 HB1.out.ht HB1.out.hl HB1.out.bel.size hll).mono ?_
    rintro e W2 ⟨vt2, vb2, rfl, ht2, hl2, hb2⟩
    have HB2 := Lib.hid (HB1.out.bels hb2)
    have HT2 := Lib.hid (ht2.toS (by omega))
    have HL2 := Lib.hid hl2.toS
    clear ht2 hl2 hb2 c0 c1 HB1
    go_wp2_with (at_builtin; fail)
    refine (toIntS_any _ cs w.heap.size W2 (HC.out.low HB2.out.bel (Nat.le_refl _)) HB2.out.bel.size).mono ?_
    rintro e Wi ⟨vi, rfl, hvi, hbi⟩
    have HBi := Lib.hid (HB2.out.bels hbi)
    have HCi := Lib.hid (hvi.toS (by omega))
    have HTi := Lib.hid ((HT2.out.low hbi (Nat.le_refl _)).more hbi.size)
    have HLi := Lib.hid ((HL2.out.low hbi (Nat.le_refl _)).more hbi.size)
    clear hvi hbi HB2 HT2 HL2
    go_wp2_with (at_builtin; fail)
    refine (sFinalCells_any _ _ _ ts l cs most Wi.heap.size Wi HTi.out HLi.out HCi.out (Nat.le_refl _) (by omega)).mono ?_
    obtain ⟨R, hR⟩ : ∃ R, R = cellX ts l cs most := ⟨_, rfl⟩
    have hbnd := cellX_ok ts l cs most
    rw [← hR] at hbnd ⊢
    have HRE := Lib.hid hR
    clear hR
    obtain ⟨RL, en⟩ := R
    have HOKC := Lib.hid (show okM RL from hbnd)
    have hcn := ceN_le HOKC.out
    have hcm := ceN_nn RL
    have hee : (en != en) = false := by simp
    rintro e W3 ⟨v0, rfl, hv0, hb3⟩
    have HB3 := Lib.hid (HBi.out.bels hb3)
    have HV3 := Lib.hid hv0
    obtain ⟨A0, n0, rfl, -⟩ := hv0.slice
    have c0 := HB3.out.c0
    have c1 := HB3.out.c1
    clear hb3 hv0 HTi HLi HCi HBi
    go_wp2_with (at_builtin; fail)
    refine (toProgram_any _ _ ts l w.heap.size W3 HB3.out.ht HB3.out.hl HB3.out.bel.size hll).mono ?_
    rintro e W4 ⟨vt4, vb4, rfl, ht4, hl4, hb4⟩
    have HX5 := Lib.hid (XB.new ht4 hl4 hb4)
    have HB5 := Lib.hid ((HB3.out.bels hb4).bels (bel_a W4 (.cells #[vt4, vb4] 31)))
    have BL5 := Lib.hid (hb4.alloc hb4.size (.cells #[vt4, vb4] 31))
    obtain ⟨A4, n4, rfl, -⟩ := ht4.slice
    obtain ⟨b4, m4, rfl, -, -, -⟩ := hl4.slice
    clear ht4 hl4 hb4 c0 c1
    go_upto_region 9 with (at_builtin; fail)
    generalize hW5 : W4.alloc (.cells #[.slice A4 ts.length n4, .slice (some ⟨b4, 0, none⟩) l.length m4] 31) = W5 at *
    clear hW5
    obtain ⟨hi, hhi⟩ : ∃ hi, hi = W4.heap.size := ⟨_, rfl⟩
    obtain ⟨lo, hlo⟩ : ∃ lo, lo = W3.heap.size := ⟨_, rfl⟩
    rw [← hhi] at HX5 ⊢
    rw [← hlo] at HX5
    have BL5 : Hid (Below lo W3 W5) := Lib.hid (by rw [hlo]; exact BL5.out)
    have HLO : Hid (g < lo) := Lib.hid (by rw [hlo]; exact HB3.out.lt)
    have HL3 := Lib.hid hlo
    clear hhi hlo HB3
    go_wp2_with (at_builtin; fail)
    refine (toIntS_any _ cs w.heap.size W5 (HC.out.low HB5.out.bel (Nat.le_refl _)) HB5.out.bel.size).mono ?_
    rintro e W6 ⟨v6, rfl, hv6, hb6⟩
    have HB6 := Lib.hid (HB5.out.bels hb6)
    have HX6 := Lib.hid (HX5.out.bels hb6)
    have BL6 := Lib.hid (BL5.out.trans (hb6.mono (by have := HX5.out.lt; have := HX5.out.le; omega)))
    obtain ⟨bi, hbi⟩ : ∃ bi, bi = W5.heap.size := ⟨_, rfl⟩
    rw [← hbi] at hv6
    have HBI : Hid (hi < bi) := Lib.hid (by rw [hbi]; exact HX5.out.lt)
    have HQ6 := Lib.hid hv6
    obtain ⟨A6, c6, rfl, -⟩ := hv6.slice
    have HQB : Hid (∀ b, (Value.slice A6 cs.length c6).ownBlock = some b → bi ≤ b ∧ b < W6.heap.size) := Lib.hid fun b e => HQ6.out.own_lt e
    clear hv6 hb6 HB5 HX5 BL5 hbi
    have x0 := HX6.out.c0
    have x1 := HX6.out.c1
    go_wp2_with (at_builtin; fail)
    refine (iFinalCells_any _ _ _ ts l cs most W6.heap.size W6 (HX6.out.rt (by omega)) HX6.out.rl (HQ6.out.toS (by omega)) (Nat.le_refl _) (by omega)).mono ?_
    rw [← HRE.out]
    rintro e W7 ⟨vg, rfl, hvg, hb7⟩
    have HB7 := Lib.hid (HB6.out.bels hb7)
    have HX7 := Lib.hid (HX6.out.bels hb7)
    have BL7 := Lib.hid (BL6.out.trans (hb7.mono (by have := HX6.out.lt; have := HX6.out.le; omega)))
    have HQ7 := Lib.hid (HQ6.out.bel hb7)
    obtain ⟨bs, hbs⟩ : ∃ bs, bs = W6.heap.size := ⟨_, rfl⟩
    rw [← hbs] at hvg HQB
    have HBS : Hid (hi < bs) := Lib.hid (by rw [hbs]; exact HX6.out.lt)
    have HO7 := Lib.hid hvg
    obtain ⟨Ag, ng, rfl, hng⟩ := hvg.slice
    clear hvg hb7 x0 x1 hbs HB6 HX6 BL6 HQ6
    have HLH : Hid (lo ≤ hi) := Lib.hid HX7.out.le
    have HLBS : Hid (lo ≤ bs) := Lib.hid (by have := HX7.out.le; have := HBS.out; omega)
    go_wp2_with (at_builtin; fail)
    refine (eqCellS_any _ _ RL _ _ W7 HO7.out (HV3.out.bel (HL3.out ▸ BL7.out)) HOKC.out).mono ?_
    rintro e W8 ⟨rfl, hb8⟩
    have HLE7 : Hid (lo ≤ W7.heap.size) := Lib.hid (by have := HX7.out.lt; have := HX7.out.le; omega)
    have HB8 := Lib.hid (HB7.out.bels hb8)
    have BL8 := Lib.hid (BL7.out.trans (hb8.mono HLE7.out))
    have HO8 := Lib.hid (HO7.out.bel hb8)
    have HLE8 : Hid (lo ≤ W8.heap.size) := Lib.hid (Nat.le_trans HLE7.out hb8.size)
    have HX8 := Lib.hid (HX7.out.bels hb8)
    have HQ8 := Lib.hid (HQ7.out.bel hb8)
    clear HB7 BL7 HO7 HLE7 HX7 HQ7
    clear hb8
    have c0 := HB8.out.c0
    have c1 := HB8.out.c1
    have x0 := HX8.out.c0
    have x1 := HX8.out.c1
    have hlt7 := HB8.out.lt
    have hlx7 := HX8.out.lt
    go_wp2_with (at_builtin; fail)
    have BEL : Hid (∀ w', w'.cell? ⟨g, 0, none⟩ = some (.slice At ts.length ct) ∧ w'.cell? ⟨g, 1, none⟩ = some (.slice Ab l.length cb) ∧ w'.cell? ⟨hi, 0, none⟩ = some (.slice A4 ts.length n4) ∧ w'.cell? ⟨hi, 1, none⟩ = some (.slice (some ⟨b4, 0, none⟩) l.length m4) ∧ Below W8.heap.size W8 w' → Below W8.heap.size W8 w') := Lib.hid fun _ h => h.2.2.2.2
    refine wp_region_held_drew (S := (fun w' => w'.cell? ⟨g, 0, none⟩ = some (.slice At ts.length ct) ∧ w'.cell? ⟨g, 1, none⟩ = some (.slice Ab l.length cb) ∧ w'.cell? ⟨hi, 0, none⟩ = some (.slice A4 ts.length n4) ∧ w'.cell? ⟨hi, 1, none⟩ = some (.slice (some ⟨b4, 0, none⟩) l.length m4) ∧ Below W8.heap.size W8 w')) (by kernel_rfl) ?_ (fun hHeld => ?_)
    · exact ⟨c0, c1, x0, x1, (Below.refl _ _).drew⟩
    refine wpAnyH_take (i := 0) (oi := ⟨some 56, _, _, _, _, _⟩) (v := ?_) rfl (by kernel_rfl) (by kernel_rfl) (by kernel_rfl) (fun _ _ _ h => h) (Or.inl ⟨by rfl, fun w' hSw => ?_⟩) (by assumption) ?_
    rotate_left
    · (try dsimp only at hSw); go_simp; (try with_reducible rfl)
    (try simp only [Act.put, List.setIfInBounds_toArray, List.set_cons_zero, List.set_cons_succ])
    refine wpAnyH_take (i := 1) (oi := ⟨some 57, _, _, _, _, _⟩) (v := ?_) rfl (by kernel_rfl) (by kernel_rfl) (by kernel_rfl) (fun _ _ _ h => h) (Or.inl ⟨by rfl, fun w' hSw => ?_⟩) (by assumption) ?_
    rotate_left
    · (try dsimp only at hSw); go_simp; (try with_reducible rfl)
    (try simp only [Act.put, List.setIfInBounds_toArray, List.set_cons_zero, List.set_cons_succ])
    refine wpAnyH_ready (rs := [2]) (by kernel_rfl) (by simp) ?_
    refine AllReadyH.cons (o := ⟨some 58, _, _, _, _, _⟩) rfl (fun K hK => ?_) AllReadyH.nil
    go_simp
    (refine (toProgram_any _ _ ts l w.heap.size _ ((HB8.out.bels (show Below W8.heap.size W8 _ from (BEL.out _ (by assumption)))).ht) ((HB8.out.bels (show Below W8.heap.size W8 _ from (BEL.out _ (by assumption)))).hl) ((HB8.out.bels (show Below W8.heap.size W8 _ from (BEL.out _ (by assumption)))).bel.size) hll).mono ?_)
    (rintro e w8 ⟨vt8, vb8, rfl, ht8, hl8, hb8⟩)
    (have BX8 := Lib.hid ((BEL.out _ (by assumption)).trans (hb8.mono (BEL.out _ (by assumption)).size)))
    (have HT8 := Lib.hid (ht8.toS (by omega)))
    (have HL8 := Lib.hid hl8.toS)
    clear ht8 hl8 hb8
    go_simp
    refine hK.out _ _ ?_ (fun hHeld => ?_)
    · exact ⟨(BX8.out.cell (p := ⟨g, 0, none⟩) hlt7).trans c0, (BX8.out.cell (p := ⟨g, 1, none⟩) hlt7).trans c1, (BX8.out.cell (p := ⟨hi, 0, none⟩) hlx7).trans x0, (BX8.out.cell (p := ⟨hi, 1, none⟩) hlx7).trans x1, BX8.out⟩
    clear hK K
    (try simp only [Act.put, List.setIfInBounds_toArray, List.set_cons_zero, List.set_cons_succ])
    refine wpAnyH_ready (rs := [3]) (by kernel_rfl) (by simp) ?_
    refine AllReadyH.cons (o := ⟨some 59, _, _, _, _, _⟩) rfl (fun K hK => ?_) AllReadyH.nil
    go_simp
    (have BY := (BEL.out _ (by assumption)))
    (refine (eqProgram_any _ _ _ _ ts l _ _ (((HX8.out.bels BX8.out).rt (by omega))) ((HX8.out.bels BX8.out).rl) HT8.out HL8.out (Nat.le_refl _) (by omega)).mono ?_)
    (rintro e w9 ⟨rfl, hb9⟩)
    (have BX9 := Lib.hid (BX8.out.trans (hb9.mono BX8.out.size)))
    clear hb9
    go_simp
    refine hK.out _ _ ?_ (fun hHeld => ?_)
    · exact ⟨(BX9.out.cell (p := ⟨g, 0, none⟩) hlt7).trans c0, (BX9.out.cell (p := ⟨g, 1, none⟩) hlt7).trans c1, (BX9.out.cell (p := ⟨hi, 0, none⟩) hlx7).trans x0, (BX9.out.cell (p := ⟨hi, 1, none⟩) hlx7).trans x1, BX9.out⟩
    clear hK K
    (try simp only [Act.put, List.setIfInBounds_toArray, List.set_cons_zero, List.set_cons_succ])
    refine wpAnyH_take (i := 4) (oi := ⟨some 60, _, _, _, _, _⟩) (v := ?_) rfl (by kernel_rfl) (by kernel_rfl) (by kernel_rfl) (fun _ _ _ h => h) (Or.inl ⟨by rfl, fun w' hSw => ?_⟩) (by assumption) ?_
    rotate_left
    · (try dsimp only at hSw); go_simp; (try with_reducible rfl)
    (try simp only [Act.put, List.setIfInBounds_toArray, List.set_cons_zero, List.set_cons_succ])
    refine wpAnyH_done (by kernel_rfl) ?_ _
    have HB9 := Lib.hid (HB8.out.bels BX9.out)
    have BL9 := Lib.hid (BL8.out.trans (BX9.out.mono HLE8.out))
    have HO9 := Lib.hid (HO8.out.bel BX9.out)
    have HLE9 : Hid (lo ≤ w9.heap.size) := Lib.hid (Nat.le_trans HLE8.out BX9.out.size)
    have HX9 := Lib.hid (HX8.out.bels BX9.out)
    have HQ9 := Lib.hid (HQ8.out.bel BX9.out)
    clear HB8 BL8 HO8 HLE8 HX8 HQ8
    clear c0 c1 x0 x1 BEL BX8 BX9 BY HT8 HL8 hHeld hlt7 hlx7
    go_wp2_with (at_builtin; fail)
    refine (toIntS_any _ cs w.heap.size w9 (HC.out.low HB9.out.bel (Nat.le_refl _)) HB9.out.bel.size).mono ?_
    rintro e wa ⟨va, rfl, hva, hba⟩
    have HBa := Lib.hid (HB9.out.bels hba)
    have BLa := Lib.hid (BL9.out.trans (hba.mono HLE9.out))
    have HOa := Lib.hid (HO9.out.bel hba)
    have HLEa : Hid (lo ≤ wa.heap.size) := Lib.hid (Nat.le_trans HLE9.out hba.size)
    have HXa := Lib.hid (HX9.out.bels hba)
    have HQa := Lib.hid (HQ9.out.bel hba)
    clear HB9 BL9 HO9 HLE9 HX9 HQ9
    have HDa := Lib.hid (hva.toS (by omega))
    clear hva hba
    go_wp2_with (at_builtin; fail)
    refine (eqIntS_any _ _ cs _ _ wa (HQa.out.toS (by omega)) HDa.out).mono ?_
    rintro e wb ⟨rfl, hbb⟩
    have HBb := Lib.hid (HBa.out.bels hbb)
    have BLb := Lib.hid (BLa.out.trans (hbb.mono HLEa.out))
    have HOb := Lib.hid (HOa.out.bel hbb)
    have HLEb : Hid (lo ≤ wb.heap.size) := Lib.hid (Nat.le_trans HLEa.out hbb.size)
    have HXb := Lib.hid (HXa.out.bels hbb)
    have HQb := Lib.hid (HQa.out.bel hbb)
    clear HBa BLa HOa HLEa HXa HQa
    clear hbb HDa
    have x0 := HXb.out.c0
    have x1 := HXb.out.c1
    go_wp2_with (at_builtin; fail)
    refine (markProgram_any _ _ ts l lo _ true 1 wb HXb.out.ht HXb.out.hl (by omega) (by omega)).mono ?_
    rintro e wc ⟨rfl, hca⟩
    have HCA := Lib.hid (hca.bel HLEb.out fun b hb => (HXb.out.q b hb).1)
    have HBc := Lib.hid (HBb.out.low HCA.out HLO.out)
    have BLc := Lib.hid (BLb.out.trans HCA.out)
    have HOc := Lib.hid (HOb.out.move (Nat.le_refl _) fun b h1 h2 => hca.oth b h2 fun hp => by have := (HXb.out.q b hp).2; have := HBS.out; omega)
    have HQc := Lib.hid (HQb.out.move (Nat.le_refl _) fun b h1 h2 => hca.oth b h2 fun hp => by have := (HXb.out.q b hp).2; have := HBI.out; omega)
    have HLEc : Hid (lo ≤ wc.heap.size) := Lib.hid (Nat.le_trans HLEb.out HCA.out.size)
    clear hca x0 x1 HBb HXb BLb HOb HLEb HCA HQb
    have hK1 : 1 ≤ 1 + (ts.length : Int) + 4 * (szL l : Int) ∧ 1 + (ts.length : Int) + 4 * (szL l : Int) ≤ 10000000 := by omega
    generalize 1 + (ts.length : Int) + 4 * (szL l : Int) = K at *
    go_wp2_with (at_builtin; fail)
    refine (markIntS_any _ cs K bi wc HQc.out (by omega) (by omega)).mono ?_
    rintro e wd ⟨rfl, hqd, hmd⟩
    have HMD := Lib.hid (HQc.out.ownMk hmd (show lo ≤ bi by have := HBI.out; have := HLBS.out; have := HLH.out; omega))
    have HBd := Lib.hid (HBc.out.low HMD.out HLO.out)
    have BLd := Lib.hid (BLc.out.trans HMD.out)
    have HOd := Lib.hid (HOc.out.move (Nat.le_refl _) fun b h1 h2 => hmd.oth b fun hp => by have := (HQB.out b hp).2; omega)
    have HLEd : Hid (lo ≤ wd.heap.size) := Lib.hid (by rw [hmd.size]; exact HLEc.out)
    clear hqd hmd HBc BLc HOc HLEc HQc HMD
    have hk0 : ¬ (K + (cs.length : Int) < 0) := by omega
    generalize K + (cs.length : Int) = K2 at *
    go_wp2_with (at_builtin; fail)
    refine (eqCellS_any _ _ RL _ _ wd HOd.out (HV3.out.bel (HL3.out ▸ BLd.out)) HOKC.out).mono ?_
    rintro e we ⟨rfl, hbe⟩
    have HBe := Lib.hid (HBd.out.bels hbe)
    have BLe := Lib.hid (BLd.out.trans (hbe.mono HLEd.out))
    have HOe := Lib.hid (HOd.out.bel hbe)
    have HLEe : Hid (lo ≤ we.heap.size) := Lib.hid (Nat.le_trans HLEd.out hbe.size)
    clear HBd BLd HOd HLEd
    clear hbe
    go_wp2_with (at_builtin; fail)
    refine (markCellS_any _ RL 1 bs we HOe.out HOKC.out (by omega) (by omega)).mono ?_
    rintro e wf ⟨rfl, hof, hmf⟩
    have HMF := Lib.hid (HOe.out.ownMk hmf HLBS.out)
    have HBf := Lib.hid (HBe.out.low HMF.out HLO.out)
    have BLf := Lib.hid (BLe.out.trans HMF.out)
    have HOf := Lib.hid hof
    have HLEf : Hid (lo ≤ wf.heap.size) := Lib.hid (by rw [hmf.size]; exact HLEe.out)
    have c0 := HBf.out.c0
    have c1 := HBf.out.c1
    clear hof hmf HMF HBe BLe HOe HLEe
    obtain ⟨M, hM⟩ : ∃ M : Int, M = 1 + ceN RL := ⟨_, rfl⟩
    have HM := Lib.hid hM
    rw [← hM]
    have hne : (M != M) = false := by simp
    have hnn : ¬ (M < 0) := by omega
    clear hM
    go_wp2_with (at_builtin; fail)
    refine (heldCellS_any _ RL 1 _ wf HOf.out HOKC.out (by omega) (by omega)).mono ?_
    rw [← HM.out]
    rintro e wz ⟨rfl, rfl⟩
    go_wp2_with (at_builtin; fail)
    refine (toProgram_any _ _ ts l w.heap.size wf HBf.out.ht HBf.out.hl HBf.out.bel.size hll).mono ?_
    rintro e wh ⟨vth, vbh, rfl, hth, hlh, hbh⟩
    have HBh := Lib.hid (HBf.out.bels hbh)
    have BLh := Lib.hid (BLf.out.trans (hbh.mono HLEf.out))
    have HOh := Lib.hid (HOf.out.bel hbh)
    have HLEh : Hid (lo ≤ wh.heap.size) := Lib.hid (Nat.le_trans HLEf.out hbh.size)
    clear HBf BLf HOf HLEf
    have HTh := Lib.hid (hth.toS (by omega))
    have HLh := Lib.hid hlh.toS
    clear hth hlh hbh c0 c1
    go_wp2_with (at_builtin; fail)
    refine (toIntS_any _ cs w.heap.size wh (HC.out.low HBh.out.bel (Nat.le_refl _)) HBh.out.bel.size).mono ?_
    rintro e wi ⟨vi, rfl, hvi, hbi⟩
    have HBi := Lib.hid (HBh.out.bels hbi)
    have BLi := Lib.hid (BLh.out.trans (hbi.mono HLEh.out))
    have HOi := Lib.hid (HOh.out.bel hbi)
    have HLEi : Hid (lo ≤ wi.heap.size) := Lib.hid (Nat.le_trans HLEh.out hbi.size)
    clear HBh BLh HOh HLEh
    have HDi := Lib.hid (hvi.toS (by omega))
    have HTi := Lib.hid ((HTh.out.low hbi (Nat.le_refl _)).more hbi.size)
    have HLi := Lib.hid ((HLh.out.low hbi (Nat.le_refl _)).more hbi.size)
    clear hvi hbi HTh HLh
    go_wp2_with (at_builtin; fail)
    refine (iFinalCells_any _ _ _ ts l cs most wi.heap.size wi HTi.out HLi.out HDi.out (Nat.le_refl _) (by omega)).mono ?_
    rw [← HRE.out]
    rintro e wj ⟨vj, rfl, hvj, hbj⟩
    have HBj := Lib.hid (HBi.out.bels hbj)
    have BLj := Lib.hid (BLi.out.trans (hbj.mono HLEi.out))
    have HOj := Lib.hid (HOi.out.bel hbj)
    have HLEj : Hid (lo ≤ wj.heap.size) := Lib.hid (Nat.le_trans HLEi.out hbj.size)
    clear HBi BLi HOi HLEi
    have HJ := Lib.hid hvj
    obtain ⟨Aj, nj, rfl, hnj⟩ := hvj.slice
    clear hvj hbj HDi HTi HLi
    go_wp2_with (at_builtin; fail)
    refine (eqCellS_any _ _ RL _ _ wj HJ.out (HV3.out.bel (HL3.out ▸ BLj.out)) HOKC.out).mono ?_
    rintro e wk ⟨rfl, hbk⟩
    have HBk := Lib.hid (HBj.out.bels hbk)
    have BLk := Lib.hid (BLj.out.trans (hbk.mono HLEj.out))
    have HOk := Lib.hid (HOj.out.bel hbk)
    have HLEk : Hid (lo ≤ wk.heap.size) := Lib.hid (Nat.le_trans HLEj.out hbk.size)
    clear HBj BLj HOj HLEj
    clear hbk
    go_wp2_with (at_builtin; fail)
    refine (heldCellS_any _ RL 1 _ wk HOk.out HOKC.out (by omega) (by omega)).mono ?_
    rw [← HM.out]
    rintro e wl ⟨rfl, rfl⟩
    go_wp2_with (at_builtin; fail)
    go_ret
    exact ⟨rfl, HBk.out.bel⟩

end Go.Proofs.YtfioaohadanjmaaGreat
