import Derived.Test.YtfioaohadanjmaaGreatU13
import Derived.Test.YtfioaohadanjmaaGreatU33
import Derived.Test.YtfioaohadanjmaaGreatU31
set_option linter.unusedVariables false

/- FnExactFirstWrong: the walk. -/
namespace Go.Proofs.YtfioaohadanjmaaGreat
open Go.RowKit

set_option maxHeartbeats 8000000
set_option maxRecDepth 100000
theorem fnExactFirstWrong_any (vt vb : Value) (ts : List Int) (l : List St) (a : Int) (w : World) (ht : AnI w w.heap.size vt ts) (hl : StS w w.heap.size vb l) (hL : Lens l) :
    Calls Tryz.prog 7 #[.agg #[vt, vb], .int .i64 a] w (LwRet w) := by
  have HA0 := Lib.hid (ArA.new ht hl)
  have HLE := Lib.hid hL
  have ht0 := ht
  obtain ⟨At, ct, rfl, -⟩ := ht0
  obtain ⟨Ab, cb, rfl, hcb⟩ := hl.slice
  clear ht hl hL
  go_enter Tryz.func7, Tryz.ntmps7
  go_upto_region 1 with (at_builtin; fail)
  generalize w.alloc (.cells #[.slice At ts.length ct, .slice Ab l.length cb] 25) = W0 at *
  obtain ⟨g, hg⟩ : ∃ g, g = w.heap.size := ⟨_, rfl⟩
  rw [← hg] at HA0 ⊢
  have HG := Lib.hid hg
  clear hg
  have c0 := HA0.out.row.cell 0
  have c1 := HA0.out.row.cell 1
  simp only [List.getElem?_cons_zero, List.getElem?_cons_succ] at c0 c1
  go_wp2_with (at_builtin; fail)
  refine (szProgram_any _ _ ts l 1048576 w.heap.size W0 HA0.out.ht HA0.out.hl HLE.out HA0.out.bel.size (by omega) (by omega)).mono ?_
  rintro e W1 ⟨rfl, hb1⟩
  have HA1 := Lib.hid (HA0.out.bels hb1)
  clear hb1 c0 c1 HA0
  by_cases hn : leftP 1048576 (ts.length + szL l) < 0
  · rw [(leftP_neg hn).1]
    clear hn
    go_wp2_with (at_builtin; fail)
    go_ret
    exact ⟨rfl, HA1.out.bel⟩
  · have hsz := (leftP_nn (by omega : 0 ≤ leftP 1048576 (ts.length + szL l))).1
    have htl : ts.length ≤ 1048576 := by omega
    have hll : szL l ≤ 1048576 := by omega
    have HB1 := Lib.hid (HA1.out.toB (by omega))
    generalize leftP 1048576 (ts.length + szL l) = L1 at *
    clear HA1 hsz HLE
    have c0 := HB1.out.c0
    have c1 := HB1.out.c1
    go_wp2_with (at_builtin; fail)
    refine (toProgram_any _ _ ts l w.heap.size W1 HB1.out.ht HB1.out.hl HB1.out.bel.size hll).mono ?_
    rintro e W2 ⟨vt2, vb2, rfl, ht2, hl2, hb2⟩
    have HB2 := Lib.hid (HB1.out.bels hb2)
    have HT2 := Lib.hid (ht2.toS (by omega))
    have HL2 := Lib.hid hl2.toS
    clear ht2 hl2 hb2 c0 c1 HB1
    go_wp2_with (at_builtin; fail)
    refine (sFirstWrong_any _ _ ts l a W2.heap.size W2 HT2.out HL2.out (Nat.le_refl _) (by omega)).mono ?_
    obtain ⟨R, hR⟩ : ∃ R, R = fstX ts l a := ⟨_, rfl⟩
    have hbnd := fstX_len ts l a
    rw [← hR] at hbnd ⊢
    have HRE := Lib.hid hR
    clear hR
    obtain ⟨RL, en⟩ := R
    have HOKC := Lib.hid (show RL.length ≤ 1000 from hbnd)
    have hbnd : RL.length ≤ 1000 := hbnd
    have hee : (en != en) = false := by cases en <;> rfl
    rintro e W3 ⟨v0, rfl, hv0, hb3⟩
    have HB3 := Lib.hid (HB2.out.bels hb3)
    have HV3 := Lib.hid hv0
    obtain ⟨A0, n0, rfl, -⟩ := hv0.slice
    have c0 := HB3.out.c0
    have c1 := HB3.out.c1
    clear hb3 hv0 HT2 HL2 HB2
    go_wp2_with (at_builtin; fail)
    refine (toProgram_any _ _ ts l w.heap.size W3 HB3.out.ht HB3.out.hl HB3.out.bel.size hll).mono ?_
    rintro e W4 ⟨vt4, vb4, rfl, ht4, hl4, hb4⟩
    have HX6 := Lib.hid (XB.new ht4 hl4 hb4)
    have HB6 := Lib.hid ((HB3.out.bels hb4).bels (bel_a W4 (.cells #[vt4, vb4] 31)))
    have BL5 := Lib.hid (hb4.alloc hb4.size (.cells #[vt4, vb4] 31))
    obtain ⟨A4, n4, rfl, -⟩ := ht4.slice
    obtain ⟨b4, m4, rfl, -, -, -⟩ := hl4.slice
    clear ht4 hl4 hb4 c0 c1
    go_upto_region 7 with (at_builtin; fail)
    generalize hW6 : W4.alloc (.cells #[.slice A4 ts.length n4, .slice (some ⟨b4, 0, none⟩) l.length m4] 31) = W6 at *
    clear hW6
    obtain ⟨hi, hhi⟩ : ∃ hi, hi = W4.heap.size := ⟨_, rfl⟩
    obtain ⟨lo, hlo⟩ : ∃ lo, lo = W3.heap.size := ⟨_, rfl⟩
    rw [← hhi] at HX6 ⊢
    rw [← hlo] at HX6
    have BL6 : Hid (Below lo W3 W6) := Lib.hid (by rw [hlo]; exact BL5.out)
    have HLO : Hid (g < lo) := Lib.hid (by rw [hlo]; exact HB3.out.lt)
    have HL3 := Lib.hid hlo
    clear hhi hlo HB3
    have x0 := HX6.out.c0
    have x1 := HX6.out.c1
    go_wp2_with (at_builtin; fail)
    refine (iFirstWrong_any _ _ ts l a W6.heap.size W6 (HX6.out.rt (by omega)) HX6.out.rl (Nat.le_refl _) (by omega)).mono ?_
    rw [← HRE.out]
    rintro e W7 ⟨vg, rfl, hvg, hb7⟩
    have HB7 := Lib.hid (HB6.out.bels hb7)
    have HX7 := Lib.hid (HX6.out.bels hb7)
    have BL7 := Lib.hid (BL6.out.trans (hb7.mono (by have := HX6.out.lt; have := HX6.out.le; omega)))
    skip
    obtain ⟨bs, hbs⟩ : ∃ bs, bs = W6.heap.size := ⟨_, rfl⟩
    rw [← hbs] at hvg 
    have HBS : Hid (hi < bs) := Lib.hid (by rw [hbs]; exact HX6.out.lt)
    have HO7 := Lib.hid hvg
    obtain ⟨Ag, ng, rfl, hng⟩ := hvg.slice
    clear hvg hb7 x0 x1 hbs HB6 HX6 BL6 
    have HLBS : Hid (lo ≤ bs) := Lib.hid (by have := HX7.out.le; have := HBS.out; omega)
    go_wp2_with (at_builtin; fail)
    refine (eqIntS_any _ _ RL _ _ W7 (HO7.out.toS (by omega)) ((HV3.out.bel (HL3.out ▸ BL7.out)).toS (by omega))).mono ?_
    rintro e W8 ⟨rfl, hb8⟩
    have HLE7 : Hid (lo ≤ W7.heap.size) := Lib.hid (by have := HX7.out.lt; have := HX7.out.le; omega)
    have HB8 := Lib.hid (HB7.out.bels hb8)
    have BL8 := Lib.hid (BL7.out.trans (hb8.mono HLE7.out))
    have HO8 := Lib.hid (HO7.out.bel hb8)
    have HLE8 : Hid (lo ≤ W8.heap.size) := Lib.hid (Nat.le_trans HLE7.out hb8.size)
    have HX8 := Lib.hid (HX7.out.bels hb8)
    clear HB7 BL7 HO7 HLE7 HX7
    clear hb8
    have c0 := HB8.out.c0
    have c1 := HB8.out.c1
    have x0 := HX8.out.c0
    have x1 := HX8.out.c1
    have hlt7 := HB8.out.lt
    have hlx7 := HX8.out.lt
    go_wp2_with (at_builtin; fail)
    have BEL : Hid (∀ w', w'.cell? ⟨g, 0, none⟩ = some (.slice At ts.length ct) ∧ w'.cell? ⟨g, 1, none⟩ = some (.slice Ab l.length cb) ∧ w'.cell? ⟨hi, 0, none⟩ = some (.slice A4 ts.length n4) ∧ w'.cell? ⟨hi, 1, none⟩ = some (.slice (some ⟨b4, 0, none⟩) l.length m4) ∧ Below W8.heap.size W8 w' → Below W8.heap.size W8 w') := Lib.hid fun _ h => h.2.2.2.2
    refine wp_region_held_drew (S := (fun w' => w'.cell? ⟨g, 0, none⟩ = some (.slice At ts.length ct) ∧ w'.cell? ⟨g, 1, none⟩ = some (.slice Ab l.length cb) ∧ w'.cell? ⟨hi, 0, none⟩ = some (.slice A4 ts.length n4) ∧ w'.cell? ⟨hi, 1, none⟩ = some (.slice (some ⟨b4, 0, none⟩) l.length m4) ∧ Below W8.heap.size W8 w')) (by kernel_rfl) ?_ (fun hHeld => ?_)
    · exact ⟨c0, c1, x0, x1, (Below.refl _ _).drew⟩
    refine wpAnyH_take (i := 0) (oi := ⟨some 45, _, _, _, _, _⟩) (v := ?_) rfl (by kernel_rfl) (by kernel_rfl) (by kernel_rfl) (fun _ _ _ h => h) (Or.inl ⟨by rfl, fun w' hSw => ?_⟩) (by assumption) ?_
    rotate_left
    · (try dsimp only at hSw); go_simp; (try with_reducible rfl)
    (try simp only [Act.put, List.setIfInBounds_toArray, List.set_cons_zero, List.set_cons_succ])
    refine wpAnyH_take (i := 1) (oi := ⟨some 46, _, _, _, _, _⟩) (v := ?_) rfl (by kernel_rfl) (by kernel_rfl) (by kernel_rfl) (fun _ _ _ h => h) (Or.inl ⟨by rfl, fun w' hSw => ?_⟩) (by assumption) ?_
    rotate_left
    · (try dsimp only at hSw); go_simp; (try with_reducible rfl)
    (try simp only [Act.put, List.setIfInBounds_toArray, List.set_cons_zero, List.set_cons_succ])
    refine wpAnyH_ready (rs := [2]) (by kernel_rfl) (by simp) ?_
    refine AllReadyH.cons (o := ⟨some 47, _, _, _, _, _⟩) rfl (fun K hK => ?_) AllReadyH.nil
    go_simp
    (refine (toProgram_any _ _ ts l w.heap.size _ ((HB8.out.bels (show Below W8.heap.size W8 _ from (BEL.out _ (by assumption)))).ht) ((HB8.out.bels (show Below W8.heap.size W8 _ from (BEL.out _ (by assumption)))).hl) ((HB8.out.bels (show Below W8.heap.size W8 _ from (BEL.out _ (by assumption)))).bel.size) hll).mono ?_)
    (rintro e w8 ⟨vt8, vb8, rfl, ht8, hl8, hb8⟩)
    (have BX8 := Lib.hid ((BEL.out _ (by assumption)).trans (hb8.mono (BEL.out _ (by assumption)).size)))
    (have HT8 := Lib.hid (ht8.toS (by omega)))
    (have HL8 := Lib.hid hl8.toS)
    clear ht8 hl8 hb8
    go_simp
    refine hK.out _ _ ?_ (fun hHeld => ?_)
    · exact ⟨(BX8.out.cell (p := ⟨g, 0, none⟩) hlt7).trans c0, (BX8.out.cell (p := ⟨g, 1, none⟩) hlt7).trans c1, (BX8.out.cell (p := ⟨hi, 0, none⟩) hlx7).trans x0, (BX8.out.cell (p := ⟨hi, 1, none⟩) hlx7).trans x1, BX8.out⟩
    clear hK K
    (try simp only [Act.put, List.setIfInBounds_toArray, List.set_cons_zero, List.set_cons_succ])
    refine wpAnyH_ready (rs := [3]) (by kernel_rfl) (by simp) ?_
    refine AllReadyH.cons (o := ⟨some 48, _, _, _, _, _⟩) rfl (fun K hK => ?_) AllReadyH.nil
    go_simp
    (have BY := (BEL.out _ (by assumption)))
    (refine (eqProgram_any _ _ _ _ ts l _ _ (((HX8.out.bels BX8.out).rt (by omega))) ((HX8.out.bels BX8.out).rl) HT8.out HL8.out (Nat.le_refl _) (by omega)).mono ?_)
    (rintro e w9 ⟨rfl, hb9⟩)
    (have BX9 := Lib.hid (BX8.out.trans (hb9.mono BX8.out.size)))
    clear hb9
    go_simp
    refine hK.out _ _ ?_ (fun hHeld => ?_)
    · exact ⟨(BX9.out.cell (p := ⟨g, 0, none⟩) hlt7).trans c0, (BX9.out.cell (p := ⟨g, 1, none⟩) hlt7).trans c1, (BX9.out.cell (p := ⟨hi, 0, none⟩) hlx7).trans x0, (BX9.out.cell (p := ⟨hi, 1, none⟩) hlx7).trans x1, BX9.out⟩
    clear hK K
    (try simp only [Act.put, List.setIfInBounds_toArray, List.set_cons_zero, List.set_cons_succ])
    refine wpAnyH_take (i := 4) (oi := ⟨some 49, _, _, _, _, _⟩) (v := ?_) rfl (by kernel_rfl) (by kernel_rfl) (by kernel_rfl) (fun _ _ _ h => h) (Or.inl ⟨by rfl, fun w' hSw => ?_⟩) (by assumption) ?_
    rotate_left
    · (try dsimp only at hSw); go_simp; (try with_reducible rfl)
    (try simp only [Act.put, List.setIfInBounds_toArray, List.set_cons_zero, List.set_cons_succ])
    refine wpAnyH_done (by kernel_rfl) ?_ _
    have HB9 := Lib.hid (HB8.out.bels BX9.out)
    have BL9 := Lib.hid (BL8.out.trans (BX9.out.mono HLE8.out))
    have HO9 := Lib.hid (HO8.out.bel BX9.out)
    have HLE9 : Hid (lo ≤ w9.heap.size) := Lib.hid (Nat.le_trans HLE8.out BX9.out.size)
    have HX9 := Lib.hid (HX8.out.bels BX9.out)
    clear HB8 BL8 HO8 HLE8 HX8
    clear c0 c1 x0 x1 BEL BX8 BX9 BY HT8 HL8 hHeld hlt7 hlx7
    have x0 := HX9.out.c0
    have x1 := HX9.out.c1
    go_wp2_with (at_builtin; fail)
    refine (markProgram_any _ _ ts l lo _ true 1 w9 HX9.out.ht HX9.out.hl (by omega) (by omega)).mono ?_
    rintro e wc ⟨rfl, hca⟩
    have HCA := Lib.hid (hca.bel HLE9.out fun b hb => (HX9.out.q b hb).1)
    have HBc := Lib.hid (HB9.out.low HCA.out HLO.out)
    have BLc := Lib.hid (BL9.out.trans HCA.out)
    have HOc := Lib.hid (HO9.out.move (Nat.le_refl _) fun b h1 h2 => hca.oth b h2 fun hp => by have := (HX9.out.q b hp).2; have := HBS.out; omega)
    skip
    have HLEc : Hid (lo ≤ wc.heap.size) := Lib.hid (Nat.le_trans HLE9.out HCA.out.size)
    clear hca x0 x1 HB9 HX9 BL9 HO9 HLE9 HCA 
    have hK1 : 1 ≤ 1 + (ts.length : Int) + 4 * (szL l : Int) ∧ 1 + (ts.length : Int) + 4 * (szL l : Int) ≤ 10000000 := by omega
    generalize 1 + (ts.length : Int) + 4 * (szL l : Int) = K at *
    have hk0 : ¬ (K < 0) := by omega
    go_wp2_with (at_builtin; fail)
    refine (eqIntS_any _ _ RL _ _ wc (HOc.out.toS (by omega)) ((HV3.out.bel (HL3.out ▸ BLc.out)).toS (by omega))).mono ?_
    rintro e we ⟨rfl, hbe⟩
    have HBe := Lib.hid (HBc.out.bels hbe)
    have BLe := Lib.hid (BLc.out.trans (hbe.mono HLEc.out))
    have HOe := Lib.hid (HOc.out.bel hbe)
    have HLEe : Hid (lo ≤ we.heap.size) := Lib.hid (Nat.le_trans HLEc.out hbe.size)
    clear HBc BLc HOc HLEc
    clear hbe
    go_wp2_with (at_builtin; fail)
    refine (markIntS_any _ RL 1 bs we HOe.out (by omega) (by omega)).mono ?_
    rintro e wf ⟨rfl, hof, hmf⟩
    have HMF := Lib.hid (HOe.out.ownMk hmf HLBS.out)
    have HBf := Lib.hid (HBe.out.low HMF.out HLO.out)
    have BLf := Lib.hid (BLe.out.trans HMF.out)
    have HOf := Lib.hid hof
    have HLEf : Hid (lo ≤ wf.heap.size) := Lib.hid (by rw [hmf.size]; exact HLEe.out)
    have c0 := HBf.out.c0
    have c1 := HBf.out.c1
    clear hof hmf HMF HBe BLe HOe HLEe
    obtain ⟨M, hM⟩ : ∃ M : Int, M = 1 + (RL.length : Int) := ⟨_, rfl⟩
    have HM := Lib.hid hM
    rw [← hM]
    have hne : (M != M) = false := by simp
    have hnn : ¬ (M < 0) := by omega
    clear hM
    go_wp2_with (at_builtin; fail)
    refine (heldIntS_any _ RL.length 1 _ wf (HOf.out.toS (by rw [upto_len]; omega)) (by omega) (by omega)).mono ?_
    rw [← HM.out]
    rintro e wz ⟨rfl, rfl⟩
    go_wp2_with (at_builtin; fail)
    refine (toProgram_any _ _ ts l w.heap.size wf HBf.out.ht HBf.out.hl HBf.out.bel.size hll).mono ?_
    rintro e wh ⟨vth, vbh, rfl, hth, hlh, hbh⟩
    have HBh := Lib.hid (HBf.out.bels hbh)
    have BLh := Lib.hid (BLf.out.trans (hbh.mono HLEf.out))
    have HOh := Lib.hid (HOf.out.bel hbh)
    have HLEh : Hid (lo ≤ wh.heap.size) := Lib.hid (Nat.le_trans HLEf.out hbh.size)
    clear HBf BLf HOf HLEf
    have HTh := Lib.hid (hth.toS (by omega))
    have HLh := Lib.hid hlh.toS
    clear hth hlh hbh c0 c1
    go_wp2_with (at_builtin; fail)
    refine (iFirstWrong_any _ _ ts l a wh.heap.size wh HTh.out HLh.out (Nat.le_refl _) (by omega)).mono ?_
    rw [← HRE.out]
    rintro e wj ⟨vj, rfl, hvj, hbj⟩
    have HBj := Lib.hid (HBh.out.bels hbj)
    have BLj := Lib.hid (BLh.out.trans (hbj.mono HLEh.out))
    have HOj := Lib.hid (HOh.out.bel hbj)
    have HLEj : Hid (lo ≤ wj.heap.size) := Lib.hid (Nat.le_trans HLEh.out hbj.size)
    clear HBh BLh HOh HLEh
    have HJ := Lib.hid hvj
    obtain ⟨Aj, nj, rfl, hnj⟩ := hvj.slice
    clear hvj hbj HTh HLh
    go_wp2_with (at_builtin; fail)
    refine (eqIntS_any _ _ RL _ _ wj (HJ.out.toS (by omega)) ((HV3.out.bel (HL3.out ▸ BLj.out)).toS (by omega))).mono ?_
    rintro e wk ⟨rfl, hbk⟩
    have HBk := Lib.hid (HBj.out.bels hbk)
    have BLk := Lib.hid (BLj.out.trans (hbk.mono HLEj.out))
    have HOk := Lib.hid (HOj.out.bel hbk)
    have HLEk : Hid (lo ≤ wk.heap.size) := Lib.hid (Nat.le_trans HLEj.out hbk.size)
    clear HBj BLj HOj HLEj
    clear hbk
    go_wp2_with (at_builtin; fail)
    refine (heldIntS_any _ RL.length 1 _ wk (HOk.out.toS (by rw [upto_len]; omega)) (by omega) (by omega)).mono ?_
    rw [← HM.out]
    rintro e wl ⟨rfl, rfl⟩
    go_wp2_with (at_builtin; fail)
    go_ret
    exact ⟨rfl, HBk.out.bel⟩

end Go.Proofs.YtfioaohadanjmaaGreat

/- eqTag, eqTagS, eqCell, eqCellS; markTagS, markCellS; heldTagS, heldCellS. -/
namespace Go.Proofs.YtfioaohadanjmaaGreat
open Go.RowKit Go.Lib

/-- marks: two for each tag, three and its tags' for each cell -/
def markTg (k : Int) : Tg := ⟨k.toNat, (k + 1) % 3 == 0⟩
def uptoTg (k : Int) (n : Nat) : List Tg := (List.range n).map fun i => markTg (k + 2 * (i : Nat))
theorem uptoTg_len (k : Int) (n : Nat) : (uptoTg k n).length = n := by simp [uptoTg]
theorem uptoTg_succ (k : Int) (n : Nat) : uptoTg k (n + 1) = uptoTg k n ++ [markTg (k + 2 * (n : Nat))] := by simp [uptoTg, List.range_succ]
theorem uptoTg_get {k : Int} {n j : Nat} (h : j < n) : (uptoTg k n)[j]'(by rw [uptoTg_len]; exact h) = markTg (k + 2 * (j : Nat)) := by simp [uptoTg]
theorem uptoTg_set {k : Int} {l : List Tg} {j : Nat} (h : j < l.length) : (uptoTg k j ++ l.drop j).set j (markTg (k + 2 * (j : Nat))) = uptoTg k (j + 1) ++ l.drop (j + 1) := by
  rw [List.drop_eq_getElem_cons h, List.set_append_right _ _ (by rw [uptoTg_len]; exact Nat.le_refl _), uptoTg_len, Nat.sub_self, List.set_cons_zero, uptoTg_succ, List.append_assoc]
  rfl
def ceN : List Cl → Int
  | [] => 0
  | c :: r => 3 + 2 * (c.st.length : Nat) + ceN r
theorem ceN_append (a b : List Cl) : ceN (a ++ b) = ceN a + ceN b := by
  induction a with
  | nil => simp [ceN]
  | cons c r ih => simp only [List.cons_append, ceN, ih]; omega
theorem ceN_nn (l : List Cl) : 0 ≤ ceN l := by
  induction l with
  | nil => exact Int.le_refl _
  | cons c r ih => simp only [ceN]; omega
theorem ceN_le {l : List Cl} (h : okM l) : ceN l ≤ 100000 := by
  have h1 : ∀ l : List Cl, (∀ c ∈ l, c.st.length ≤ 200) → ceN l ≤ 403 * (l.length : Nat) := by
    intro l
    induction l with
    | nil => intro _; exact Int.le_refl _
    | cons c r ih =>
      intro h
      have h1 := h c (List.mem_cons_self ..)
      have h2 := ih fun x hx => h x (List.mem_cons_of_mem _ hx)
      simp only [ceN, List.length_cons]
      omega
  have := h1 l fun c hc => (h.2 c hc).l1
  have := h.1
  omega
def markC (k : Int) (c : Cl) : Cl := ⟨k, (k + 1) % 3 == 0, (k + 1 + 1).toNat, uptoTg (k + 1 + 1 + 1) c.st.length⟩
def markM : Int → List Cl → List Cl
  | _, [] => []
  | k, c :: r => markC k c :: markM (k + (3 + 2 * (c.st.length : Nat))) r
theorem markM_append (k : Int) (a b : List Cl) : markM k (a ++ b) = markM k a ++ markM (k + ceN a) b := by
  induction a generalizing k with
  | nil => simp [markM, ceN]
  | cons c r ih =>
    simp only [List.cons_append, markM, ceN, ih]
    rw [show k + (3 + 2 * (c.st.length : Nat)) + ceN r = k + (3 + 2 * (c.st.length : Nat) + ceN r) by omega]
theorem markM_len (k : Int) (l : List Cl) : (markM k l).length = l.length := by
  induction l generalizing k with
  | nil => rfl
  | cons c r ih => simp [markM, ih]
theorem ceN_take {l : List Cl} {j : Nat} (h : j < l.length) : ceN (l.take (j + 1)) = ceN (l.take j) + (3 + 2 * (l[j].st.length : Nat)) := by
  rw [take_succ_get l j h, ceN_append]; simp [ceN]
theorem markM_take {k : Int} {l : List Cl} {j : Nat} (h : j < l.length) : markM k (l.take (j + 1)) = markM k (l.take j) ++ [markC (k + ceN (l.take j)) l[j]] := by
  rw [take_succ_get l j h, markM_append]; rfl
theorem markM_get {k : Int} {l : List Cl} {j : Nat} (h : j < l.length) : (markM k l)[j]'(by rw [markM_len]; exact h) = markC (k + ceN (l.take j)) l[j] := by
  induction l generalizing k j with
  | nil => simp at h
  | cons c r ih =>
    cases j with
    | zero => simp [markM, ceN]
    | succ j =>
      have := ih (k := k + (3 + 2 * (c.st.length : Nat))) (j := j) (by simpa using h)
      simp only [markM, List.getElem_cons_succ, List.take_succ_cons, ceN, this]
      rw [show k + (3 + 2 * (c.st.length : Nat)) + ceN (r.take j) = k + (3 + 2 * (c.st.length : Nat) + ceN (r.take j)) by omega]
theorem markM_set {k : Int} {l : List Cl} {j : Nat} (h : j < l.length) : (markM k (l.take j) ++ l.drop j).set j (markC (k + ceN (l.take j)) l[j]) = markM k (l.take (j + 1)) ++ l.drop (j + 1) := by
  have hl : (markM k (l.take j)).length = j := by rw [markM_len, List.length_take]; omega
  rw [List.drop_eq_getElem_cons h, List.set_append_right _ _ (by omega), hl, Nat.sub_self, List.set_cons_zero, markM_take h, List.append_assoc]
  rfl
theorem hok2 {l : List Cl} (h : okM l) {j : Nat} (hj : j < l.length) : l[j].ok := h.2 _ (List.getElem_mem hj)
theorem OTg.at_ {w : World} {base n c : Nat} {A : Option Addr} {l : List Tg} (h : OTg w base (.slice A n c) l) {i : Nat} (hi : i < l.length) :
    ∃ g, A = some ⟨g, 0, none⟩ ∧ base ≤ g ∧ g < w.heap.size ∧ w.cell? ⟨g, i * 2, none⟩ = some (.int .i64 (l[i].id : Nat)) ∧ w.cell? ⟨g, i * 2 + 1, none⟩ = some (.bool l[i].un) ∧ ∀ j, w.frozen? ⟨g, j, none⟩ = false := by
  obtain ⟨g, cap, e, hb, hlt⟩ := World.ownsRow.form h (by omega)
  injection e with e1 e0 e2
  subst e1 e2 e0
  obtain ⟨a0, a1⟩ := tgCells_at hi
  have hc := fun j (hj : j < l.length * 2) => World.ownsRow.cellAt h j hj
  exact ⟨g, rfl, hb, hlt, (hc _ (by omega)).trans a0, (hc _ (by omega)).trans a1, World.ownsRow.frozenAt h⟩
theorem OTg.rowB {w : World} {base g n c : Nat} {l : List Tg} (h : OTg w base (.slice (some ⟨g, 0, none⟩) n c) l) : ∃ cs : List Value, RowB w g 116 cs := by
  obtain ⟨cur, hcur⟩ := own_heap h (b := g) rfl
  exact ⟨cur.toList, by simpa [RowB] using hcur⟩
/-- the tags of one cell have turned -/
theorem OCe.mkTag {w w' : World} {base : Nat} {v : Value} {ps : List (Cl × Value)} (h : OCe w base v ps) {j : Nat} (hj : j < ps.length) {st : List Tg} (ht : OTg w' base ps[j].2 st) (hm : ∀ b, ps[j].2.ownBlock ≠ some b → w'.heap[b]? = w.heap[b]?) :
    OCe w' base v (ps.set j ({ ps[j].1 with st := st }, ps[j].2)) := by
  have hc : ceCells (ps.set j ({ ps[j].1 with st := st }, ps[j].2)) = ceCells ps := by
    rw [← ceCells_st hj ps[j].2 st]
    exact set_here (ceCells_at hj).2.2.2
  have hsnd : ∀ i (hi : i < ps.length), ((ps.set j ({ ps[j].1 with st := st }, ps[j].2))[i]'(by rw [List.length_set]; exact hi)).2 = ps[i].2 := fun i hi => by
    rw [List.getElem_set]
    split
    · rename_i e; subst e; rfl
    · rfl
  refine ⟨?_, fun i hi => ?_, fun i k hi hk hik b hb => ?_⟩
  · rw [List.length_set, hc]
    exact own_same h.own fun b hb => hm b fun e => h.row_ne hj hb e rfl
  · rw [List.length_set] at hi
    rw [hsnd i hi, List.getElem_set]
    split
    · rename_i e; subst e; exact ht
    · rename_i e
      exact own_same (h.row i hi) fun b hb => hm b fun e2 => h.ne i j hi hj (fun e3 => e e3.symm) b hb e2
  · rw [List.length_set] at hi hk
    rw [hsnd i hi] at hb
    rw [hsnd k hk]
    exact h.ne i k hi hk hik b hb
theorem OCe.rowB {w : World} {base g n c : Nat} {ps : List (Cl × Value)} (h : OCe w base (.slice (some ⟨g, 0, none⟩) n c) ps) : ∃ cs : List Value, RowB w g 84 cs := by
  obtain ⟨cur, hcur⟩ := own_heap h.own (b := g) rfl
  exact ⟨cur.toList, by simpa [RowB] using hcur⟩
theorem MeS.move {w w' : World} {base base' : Nat} {v : Value} {m : List Cl} (h : MeS w base v m) (hb : base' ≤ base) (hk : ∀ b, base ≤ b → b < w.heap.size → w'.heap[b]? = w.heap[b]?) : MeS w' base' v m := by
  obtain ⟨ps, e, ho⟩ := h
  exact ⟨ps, e, own_move ho.own hb hk, fun i hi => own_move (ho.row i hi) hb hk, ho.ne⟩
theorem MeS.ownMk {w w' : World} {base lo : Nat} {v : Value} {m : List Cl} (_ : MeS w base v m) (hm : Mk (fun b => base ≤ b) w w') (hlo : lo ≤ base) : Below lo w w' := hm.bel fun _ e => Nat.le_trans hlo e
set_option maxHeartbeats 2000000 in
set_option maxRecDepth 100000 in
theorem eqTag_any (a : Int) (b : Bool) (w : World) : Calls Tryz.prog 105 #[.agg #[.int .i64 a, .bool b], .agg #[.int .i64 a, .bool b]] w (TruRet w) := by
  have HB := Lib.hid ((bel_a w (.cells #[.int .i64 a, .bool b] 116)).alloc (by simp) (.cells #[.int .i64 a, .bool b] 116))
  have h1 := ne_false_z a
  have h2 := ne_false_b b
  go_enter Tryz.func105, Tryz.ntmps105
  go_wp2_with (at_builtin; fail)
  go_ret
  exact ⟨rfl, HB.out⟩
set_option maxHeartbeats 2000000 in
set_option maxRecDepth 100000 in
theorem eqTagS_any (va vb : Value) (l : List Tg) (Ba Bb : Nat) (w : World) (h1 : TgS w Ba va l) (h2 : TgS w Bb vb l) (hBa : Ba ≤ w.heap.size) (hBb : Bb ≤ w.heap.size) :
    Calls Tryz.prog 75 #[va, vb] w (TruRet w) := by
  have H1 := Lib.hid h1
  have H2 := Lib.hid h2
  obtain ⟨A1, c1, rfl, hc1⟩ := h1.slice
  obtain ⟨A2, c2, rfl, hc2⟩ := h2.slice
  have hln : l.length ≤ 100000 := by
    obtain ⟨_, _, _, _, h, _⟩ := h1
    exact h
  have hle : ((l.length : Int) != (l.length : Int)) = false := by simp
  clear h1 h2
  go_enter Tryz.func75, Tryz.ntmps75
  go_wp2_with (at_builtin; fail)
  clear hle
  go_loopw [5] (fun i wr => ∃ k : Nat, k ≤ l.length ∧ i = .int .i64 k ∧ Below w.heap.size w wr) (fun i _ => l.length - (intOf i).toNat)
  case atStart => exact ⟨0, Nat.zero_le _, rfl, Below.refl _ _⟩
  case round =>
    obtain ⟨k, hk, rfl, hbw⟩ := hrel
    have HBW := Lib.hid hbw
    have hsw := hbw.size
    clear hbw
    by_cases hlt : k < l.length
    · obtain ⟨b1, o1, rfl, hb1, p0, p1⟩ := (H1.out.low HBW.out hBa).get hlt
      obtain ⟨b2, o2, rfl, hb2, q0, q1⟩ := (H2.out.low HBW.out hBb).get hlt
      generalize l[k]'hlt = s at *
      have HC := Lib.hid (fun (wz : World) => eqTag_any (s.id : Nat) s.un wz)
      go_wp2_with (at_builtin; fail)
      go_region_law (first
        | (go_simp; go_at_call 105; refine (HC.out _).mono ?_; rintro e w3 ⟨rfl, hb3⟩; (have HB3 := Lib.hid (HBW.out.trans ((show Below wr.heap.size wr w3 from (Below.refl wr.heap.size wr).drew.trans hb3).mono hsw))); clear hb3)
        | fail)
      all_goals
        go_wp2_with (at_builtin; fail)
        exact ⟨⟨k + 1, by omega, by go_num, HB3.out⟩, by simp [intOf] <;> omega⟩
    · go_wp2_with (at_builtin; fail)
      go_ret
      exact ⟨rfl, HBW.out⟩
set_option maxHeartbeats 2000000 in
set_option maxRecDepth 100000 in
theorem eqCell_any (x : Int) (y : Bool) (n : Int) (va vb : Value) (st : List Tg) (Ba Bb : Nat) (w : World) (h1 : TgS w Ba va st) (h2 : TgS w Bb vb st) (hBa : Ba ≤ w.heap.size) (hBb : Bb ≤ w.heap.size) :
    Calls Tryz.prog 53 #[.agg #[.int .i64 x, .bool y, .int .i64 n, va], .agg #[.int .i64 x, .bool y, .int .i64 n, vb]] w (TruRet w) := by
  have HB := Lib.hid ((bel_a w (.cells #[.int .i64 x, .bool y, .int .i64 n, va] 84)).alloc (by simp) (.cells #[.int .i64 x, .bool y, .int .i64 n, vb] 84))
  have HE := Lib.hid (eqTagS_any va vb st Ba Bb ((w.alloc (.cells #[.int .i64 x, .bool y, .int .i64 n, va] 84)).alloc (.cells #[.int .i64 x, .bool y, .int .i64 n, vb] 84)) (h1.low HB.out hBa) (h2.low HB.out hBb) (Nat.le_trans hBa HB.out.size) (Nat.le_trans hBb HB.out.size))
  obtain ⟨A1, c1, rfl, -⟩ := h1.slice
  obtain ⟨A2, c2, rfl, -⟩ := h2.slice
  have e1 := ne_false_z x
  have e2 := ne_false_b y
  have e3 := ne_false_z n
  clear h1 h2
  go_enter Tryz.func53, Tryz.ntmps53
  go_wp2_with (at_builtin; fail)
  refine HE.out.mono ?_
  rintro e w1 ⟨rfl, hb1⟩
  have HB1 := Lib.hid (HB.out.trans (hb1.mono HB.out.size))
  clear hb1
  go_wp2_with (at_builtin; fail)
  go_ret
  exact ⟨rfl, HB1.out⟩
set_option maxHeartbeats 4000000 in
set_option maxRecDepth 100000 in
theorem eqCellS_any (va vb : Value) (l : List Cl) (Ba Bb : Nat) (w : World) (h1 : MeS w Ba va l) (h2 : MeS w Bb vb l) (hok : okM l) :
    Calls Tryz.prog 32 #[va, vb] w (TruRet w) := by
  have OK := Lib.hid hok
  obtain ⟨A1, c1, rfl, hc1⟩ := h1.slice
  obtain ⟨A2, c2, rfl, hc2⟩ := h2.slice
  obtain ⟨ps, hps, ho1⟩ := h1
  obtain ⟨qs, hqs, ho2⟩ := h2
  have H1 := Lib.hid ho1
  have H2 := Lib.hid ho2
  have HP := Lib.hid hps
  have HQ := Lib.hid hqs
  have hpl : ps.length = l.length := by rw [← hps, List.length_map]
  have hql : qs.length = l.length := by rw [← hqs, List.length_map]
  have HPL := Lib.hid hpl
  have HQL := Lib.hid hql
  have hln := hok.1
  have hle : ((l.length : Int) != (l.length : Int)) = false := by simp
  clear ho1 ho2 hps hqs hok hpl hql
  go_enter Tryz.func32, Tryz.ntmps32
  go_wp2_with (at_builtin; fail)
  clear hle
  go_loopw [5] (fun i wr => ∃ k : Nat, k ≤ l.length ∧ i = .int .i64 k ∧ Below w.heap.size w wr) (fun i _ => l.length - (intOf i).toNat)
  case atStart => exact ⟨0, Nat.zero_le _, rfl, Below.refl _ _⟩
  case round =>
    obtain ⟨k, hk, rfl, hbw⟩ := hrel
    have HBW := Lib.hid hbw
    have hsw := hbw.size
    clear hbw
    by_cases hlt : k < l.length
    · have hkp : k < ps.length := by rw [HPL.out]; exact hlt
      have hkq : k < qs.length := by rw [HQL.out]; exact hlt
      have h1 := H1.out.bel HBW.out
      have h2 := H2.out.bel HBW.out
      obtain ⟨g1, rfl, -, hg1, -, p0, p1, p2, p3, -⟩ := h1.at_ hkp
      obtain ⟨g2, rfl, -, hg2, -, q0, q1, q2, q3, -⟩ := h2.at_ hkq
      have r1 := h1.row k hkp
      have r2 := h2.row k hkq
      have e1 := map_at HP.out hkp
      have e2 := map_at HQ.out hkq
      have HOC := OK.out.at hlt
      rw [e1] at p0 p1 p2 r1
      rw [e2] at q0 q1 q2 r2
      generalize clAt l k = s at *
      generalize ps[k].2 = tv1 at *
      generalize qs[k].2 = tv2 at *
      have hl1 := HOC.l1
      have t1 := r1.toS (by omega)
      have t2 := r2.toS (by omega)
      have HC := Lib.hid (fun (wz : World) (hz : Below wr.heap.size wr wz) => eqCell_any s.val s.al (s.nx : Nat) tv1 tv2 s.st wr.heap.size wr.heap.size wz (t1.low hz (Nat.le_refl _)) (t2.low hz (Nat.le_refl _)) hz.size hz.size)
      obtain ⟨B1, d1, rfl, -⟩ := r1.slice
      obtain ⟨B2, d2, rfl, -⟩ := r2.slice
      clear h1 h2 r1 r2 e1 e2 HOC hl1 t1 t2
      go_wp2_with (at_builtin; fail)
      go_region_law (first
        | (go_simp; go_at_call 53; refine (HC.out _ (Below.refl wr.heap.size wr).drew).mono ?_; rintro e w3 ⟨rfl, hb3⟩; (have HB3 := Lib.hid (HBW.out.trans ((show Below wr.heap.size wr w3 from (Below.refl wr.heap.size wr).drew.trans hb3).mono hsw))); clear hb3)
        | fail)
      all_goals
        go_wp2_with (at_builtin; fail)
        exact ⟨⟨k + 1, by omega, by go_num, HB3.out⟩, by simp [intOf] <;> omega⟩
    · go_wp2_with (at_builtin; fail)
      go_ret
      exact ⟨rfl, HBW.out⟩
set_option maxHeartbeats 4000000 in
set_option maxRecDepth 100000 in
theorem markTagS_any (v : Value) (l : List Tg) (k : Int) (base : Nat) (w : World) (h : OTg w base v l) (h0 : 0 ≤ k) (h1 : k + 2 * l.length ≤ 1099511627776) :
    Calls Tryz.prog 54 #[v, .int .i64 k] w fun e w' => e = .returned (.int .i64 (k + 2 * l.length)) ∧ OTg w' base v (uptoTg k l.length) ∧ Mk (fun b => v.ownBlock = some b) w w' := by
  obtain ⟨A, c, rfl, hc⟩ := h.slice
  have H0 := Lib.hid h
  clear h
  go_enter Tryz.func54, Tryz.ntmps54
  go_wp2_with (at_builtin; fail)
  go_loopw [1, 5] (fun kv i wr => ∃ (j : Nat) (K : Int), j ≤ l.length ∧ i = .int .i64 j ∧ kv = .int .i64 K ∧ K = k + 2 * j ∧ OTg wr base (.slice A l.length c) (uptoTg k j ++ l.drop j) ∧ Mk (fun b => (Value.slice A l.length c).ownBlock = some b) w wr) (fun _ i _ => l.length - (intOf i).toNat)
  case atStart => exact ⟨0, k, Nat.zero_le _, rfl, rfl, by simp, by simpa [uptoTg] using H0.out, Mk.refl _ _⟩
  case round =>
    obtain ⟨j, K, hj, rfl, rfl, hK, ho, hm⟩ := hrel
    have HK := Lib.hid hK
    have hlen : (uptoTg k j ++ l.drop j).length = l.length := by rw [List.length_append, uptoTg_len, List.length_drop]; omega
    have hK0 : 0 ≤ K := by omega
    by_cases hlt : j < l.length
    · have hK1 : K + 2 ≤ 1099511627776 := by omega
      obtain ⟨g, rfl, hg, hgs, q0, q1, fz⟩ := ho.at_ (i := j) (by rw [hlen]; exact hlt)
      obtain ⟨y0, u0⟩ : ∃ y, wr.cell? ⟨g, j * 2, none⟩ = some y := ⟨_, q0⟩
      obtain ⟨y1, u1⟩ : ∃ y, wr.cell? ⟨g, j * 2 + 1, none⟩ = some y := ⟨_, q1⟩
      clear q0 q1
      obtain ⟨cs, hrow⟩ := ho.rowB
      have t1 : ((K.toNat : Nat) : Int) = K := by omega
      have HO : Hid (OTg ((wr.setCell ⟨g, j * 2, none⟩ (.int .i64 K)).setCell ⟨g, j * 2 + 1, none⟩ (.bool ((K + 1) % 3 == 0))) base (.slice (some ⟨g, 0, none⟩) l.length c) (uptoTg k (j + 1) ++ l.drop (j + 1))) := Lib.hid (by
        have := ho.put2 hlen.symm (i := j) (by rw [hlen]; exact hlt) (markTg K)
        rw [hK, uptoTg_set hlt, ← hK] at this
        simp only [markTg, t1] at this
        exact this)
      have HM := Lib.hid ((hm.trans (Mk.set_other hrow (by decide) (j * 2) (.int .i64 K) rfl)).trans (Mk.set_other (hrow.set_ (j * 2) (.int .i64 K)) (by decide) (j * 2 + 1) (.bool ((K + 1) % 3 == 0)) rfl))
      have f0 := fz (j * 2)
      have f1 := fz (j * 2 + 1)
      clear ho hm hrow hlen hK t1 fz
      go_wp2_with (at_builtin; fail)
      exact ⟨⟨j + 1, _, by omega, by go_num, rfl, by have := HK.out; omega, HO.out, HM.out⟩, by simp [intOf] <;> omega⟩
    · have hjl : j = l.length := by omega
      have HJ := Lib.hid hjl
      have HO := Lib.hid ho
      have HM := Lib.hid hm
      clear hjl ho hm hlen hK
      go_wp2_with (at_builtin; fail)
      go_ret
      refine ⟨by rw [HK.out, HJ.out]; rfl, ?_, HM.out⟩
      have := HO.out
      rw [HJ.out] at this
      simpa using this
set_option maxHeartbeats 4000000 in
set_option maxRecDepth 100000 in
theorem heldTagS_any (v : Value) (n : Nat) (k : Int) (B : Nat) (w : World) (h : TgS w B v (uptoTg k n)) (h0 : 0 ≤ k) (h1 : k + 2 * n ≤ 1099511627776) :
    Calls Tryz.prog 55 #[v, .int .i64 k] w fun e w' => e = .returned (.int .i64 (k + 2 * n)) ∧ w = w' := by
  have HS := Lib.hid h
  obtain ⟨A, c, rfl, hc⟩ := h.slice
  have hl := uptoTg_len k n
  rw [hl] at hc
  clear h
  go_enter Tryz.func55, Tryz.ntmps55
  rw [hl]
  go_wp2_with (at_builtin; fail)
  go_loopw [1, 5] (fun kv i wr => ∃ (j : Nat) (K : Int), j ≤ n ∧ i = .int .i64 j ∧ kv = .int .i64 K ∧ K = k + 2 * j ∧ w = wr) (fun _ i _ => n - (intOf i).toNat)
  case atStart => exact ⟨0, k, Nat.zero_le _, rfl, rfl, by simp, rfl⟩
  case round =>
    obtain ⟨j, K, hj, rfl, rfl, hK, rfl⟩ := hrel
    have HK := Lib.hid hK
    have hK0 : 0 ≤ K := by omega
    by_cases hlt : j < n
    · obtain ⟨b, off, rfl, hb, d0, d1⟩ := HS.out.get (i := j) (by omega)
      rw [uptoTg_get hlt] at d0 d1
      simp only [← hK] at d0 d1
      have t1 : ((K.toNat : Nat) : Int) = K := by omega
      simp only [markTg, t1] at d0 d1
      have hK1 : K + 2 ≤ 1099511627776 := by omega
      have x0 := ne_false_z K
      have x1 := ne_false_b ((K + 1) % 3 == 0)
      clear hK t1
      go_wp2_with (at_builtin; fail)
      exact ⟨⟨j + 1, _, by omega, by go_num, rfl, by have := HK.out; omega, by first | trivial | rfl⟩, by simp [intOf] <;> omega⟩
    · obtain rfl : j = n := by omega
      clear hK
      go_wp2_with (at_builtin; fail)
      go_ret
      exact ⟨by rw [HK.out]; rfl, rfl⟩
set_option maxHeartbeats 4000000 in
set_option maxRecDepth 100000 in
theorem markCellS_any (v : Value) (l : List Cl) (k : Int) (base : Nat) (w : World) (h : MeS w base v l) (hok : okM l) (h0 : 0 ≤ k) (h1 : k + ceN l ≤ 1099511627776) :
    Calls Tryz.prog 33 #[v, .int .i64 k] w fun e w' => e = .returned (.int .i64 (k + ceN l)) ∧ MeS w' base v (markM k l) ∧ Mk (fun b => base ≤ b) w w' := by
  obtain ⟨A, c, rfl, hc⟩ := h.slice
  have H0 := Lib.hid h
  have OK := Lib.hid hok
  have hln := hok.1
  clear h hok
  go_enter Tryz.func33, Tryz.ntmps33
  go_wp2_with (at_builtin; fail)
  go_loopw [1, 5] (fun kv i wr => ∃ (j : Nat) (K : Int), j ≤ l.length ∧ i = .int .i64 j ∧ kv = .int .i64 K ∧ K = k + ceN (l.take j) ∧ MeS wr base (.slice A l.length c) (markM k (l.take j) ++ l.drop j) ∧ Mk (fun b => base ≤ b) w wr) (fun _ i _ => l.length - (intOf i).toNat)
  case atStart => exact ⟨0, k, Nat.zero_le _, rfl, rfl, by simp [ceN], by simpa [markM] using H0.out, Mk.refl _ _⟩
  case round =>
    obtain ⟨j, K, hj, rfl, rfl, hK, ho, hm⟩ := hrel
    have HK := Lib.hid hK
    have HM := Lib.hid hm
    have hnn := ceN_nn (l.take j)
    have hK0 : 0 ≤ K := by omega
    clear hm
    by_cases hlt : j < l.length
    · have hce : ceN (l.take (j + 1)) + ceN (l.drop (j + 1)) = ceN l := by rw [← ceN_append, List.take_append_drop]
      have hcd := ceN_nn (l.drop (j + 1))
      rw [ceN_take hlt] at hce
      have HCT := Lib.hid (ceN_take hlt)
      obtain ⟨ps, hps, ho⟩ := ho
      have hml : (markM k (l.take j)).length = j := by rw [markM_len, List.length_take]; omega
      have hpl : ps.length = l.length := by
        have := congrArg List.length hps
        rw [List.length_map, List.length_append, hml, List.length_drop] at this
        omega
      have hjp : j < ps.length := by omega
      have hpj : ps[j].1 = l[j] := by
        have : (ps.map (·.1))[j]'(by rw [List.length_map]; exact hjp) = l[j] := by
          simp only [hps]
          rw [List.getElem_append_right (by omega)]
          simp [hml]
        rw [← this, List.getElem_map]
      have hset := markM_set (k := k) hlt
      rw [← hps, ← hK] at hset
      have HSET := Lib.hid hset
      obtain ⟨g, rfl, hg, hgs, -, q0, q1, q2, q3, fz⟩ := ho.at_ hjp
      obtain ⟨y0, u0⟩ : ∃ y, wr.cell? ⟨g, j * 4, none⟩ = some y := ⟨_, q0⟩
      obtain ⟨y1, u1⟩ : ∃ y, wr.cell? ⟨g, j * 4 + 1, none⟩ = some y := ⟨_, q1⟩
      obtain ⟨y2, u2⟩ : ∃ y, wr.cell? ⟨g, j * 4 + 2, none⟩ = some y := ⟨_, q2⟩
      obtain ⟨cs, hrow⟩ := ho.rowB
      have t1 : (((K + 1 + 1).toNat : Nat) : Int) = K + 1 + 1 := by omega
      have hlst := (hok2 OK.out hlt).l1
      generalize l[j]'hlt = s at *
      generalize htv : ps[j].2 = tv at *
      have HO : Hid (∃ qs, OCe (((wr.setCell ⟨g, j * 4, none⟩ (.int .i64 K)).setCell ⟨g, j * 4 + 1, none⟩ (.bool ((K + 1) % 3 == 0))).setCell ⟨g, j * 4 + 2, none⟩ (.int .i64 (K + 1 + 1))) base (.slice (some ⟨g, 0, none⟩) l.length c) qs ∧ qs = ps.set j (⟨K, (K + 1) % 3 == 0, (K + 1 + 1).toNat, s.st⟩, tv)) := Lib.hid (by
        have a1 := ho.setVal hpl.symm hjp K
        have a2 := a1.setAl (by rw [List.length_set]; exact hpl.symm) (i := j) (by rw [List.length_set]; exact hjp) ((K + 1) % 3 == 0)
        have a3 := a2.setNx (by rw [List.length_set, List.length_set]; exact hpl.symm) (i := j) (by rw [List.length_set, List.length_set]; exact hjp) (K + 1 + 1).toNat
        simp only [List.getElem_set_self, List.set_set, hpj, htv, t1] at a3
        exact ⟨_, a3, rfl⟩)
      have HM3 := Lib.hid (((HM.out.trans (Mk.set_other hrow (by decide) (j * 4) (.int .i64 K) hg)).trans (Mk.set_other (hrow.set_ (j * 4) (.int .i64 K)) (by decide) (j * 4 + 1) (.bool ((K + 1) % 3 == 0)) hg)).trans (Mk.set_other ((hrow.set_ (j * 4) (.int .i64 K)).set_ (j * 4 + 1) (.bool ((K + 1) % 3 == 0))) (by decide) (j * 4 + 2) (.int .i64 (K + 1 + 1)) hg))
      have f0 := fz (j * 4)
      have f1 := fz (j * 4 + 1)
      have f2 := fz (j * 4 + 2)
      have hK1 : K + 3 + 2 * (s.st.length : Nat) ≤ 1099511627776 := by omega
      have HPS := Lib.hid hps
      have HPL := Lib.hid hpl
      have HJP := Lib.hid hjp
      have HLT := Lib.hid hlt
      clear ho hrow hml hpl hK t1 fz hps hset q0 q1 q2 q3 hce hcd hnn
      go_upto_region 10 with (at_builtin; fail)
      clear u0 u1 u2 f0 f1 f2 HM
      generalize ((wr.setCell ⟨g, j * 4, none⟩ (.int .i64 K)).setCell ⟨g, j * 4 + 1, none⟩ (.bool ((K + 1) % 3 == 0))).setCell ⟨g, j * 4 + 2, none⟩ (.int .i64 (K + 1 + 1)) = w3 at *
      obtain ⟨qs, ho, hqs⟩ := HO.out
      have hql : qs.length = ps.length := by rw [hqs, List.length_set]
      have hjq : j < qs.length := by rw [hql]; exact hjp
      have hqj : qs[j] = (⟨K, (K + 1) % 3 == 0, (K + 1 + 1).toNat, s.st⟩, tv) := by simp only [hqs, List.getElem_set_self]
      obtain ⟨_, e, -, -, -, -, -, -, c3, -⟩ := ho.at_ hjq
      injection e with e
      injection e with e
      subst e
      have hr := ho.row j hjq
      rw [hqj] at hr c3
      dsimp only at hr c3
      have HR := Lib.hid hr
      have HO3 := Lib.hid ho
      obtain ⟨B, n, rfl, -⟩ := hr.slice
      have HQS := Lib.hid hqs
      have HQJ := Lib.hid hqj
      clear hr ho hqs hqj hql HO
      go_wp2_with (at_builtin; fail)
      refine (markTagS_any _ s.st _ base w3 HR.out (by omega) (by omega)).mono ?_
      rintro e w4 ⟨rfl, ht4, hm4⟩
      have HM4 := Lib.hid (HM3.out.trans (hm4.mono fun b hb => (World.ownsRow.lt HR.out b hb).1))
      have HO4 : Hid (MeS w4 base (.slice (some ⟨g, 0, none⟩) l.length c) (markM k (l.take (j + 1)) ++ l.drop (j + 1))) := Lib.hid (by
        have hqj := HQJ.out
        have hx := HO3.out.mkTag (j := j) hjq (w' := w4) (st := uptoTg (K + 1 + 1 + 1) s.st.length) (by rw [hqj]; exact ht4) (fun b hb => hm4.oth b fun e => hb (by rw [hqj]; exact e))
        refine ⟨_, ?_, hx⟩
        rw [← HSET.out, hqj, HQS.out, List.set_set, List.map_set]
        rfl)
      have HK4 : Hid (K + 1 + 1 + 1 + 2 * (s.st.length : Nat) = k + ceN (l.take (j + 1))) := Lib.hid (by have := HCT.out; have := HK.out; omega)
      clear ht4 hm4 c3 HO3 HR HM3
      generalize K + 1 + 1 + 1 + 2 * (s.st.length : Nat) = K4 at *
      go_wp2_with (at_builtin; fail)
      exact ⟨⟨j + 1, _, by omega, by go_num, rfl, HK4.out, HO4.out, HM4.out⟩, by simp [intOf] <;> omega⟩
    · have hjl : j = l.length := by omega
      have HJ := Lib.hid hjl
      have HO := Lib.hid ho
      clear hjl ho hK hnn
      go_wp2_with (at_builtin; fail)
      go_ret
      refine ⟨by rw [HK.out, take_all HJ.out]; rfl, ?_, HM.out⟩
      have := HO.out
      rw [HJ.out] at this
      simpa using this
set_option maxHeartbeats 4000000 in
set_option maxRecDepth 100000 in
theorem heldCellS_any (v : Value) (l : List Cl) (k : Int) (base : Nat) (w : World) (h : MeS w base v (markM k l)) (hok : okM l) (h0 : 0 ≤ k) (h1 : k + ceN l ≤ 1099511627776) :
    Calls Tryz.prog 34 #[v, .int .i64 k] w fun e w' => e = .returned (.int .i64 (k + ceN l)) ∧ w = w' := by
  obtain ⟨A, c, rfl, hc⟩ := h.slice
  have OK := Lib.hid hok
  have hln := hok.1
  obtain ⟨ps, hps, ho⟩ := h
  have H0 := Lib.hid ho
  have HPS := Lib.hid hps
  have hml := markM_len k l
  have HPL : Hid (ps.length = l.length) := Lib.hid (by rw [← hml, ← hps, List.length_map])
  clear ho hps hok
  go_enter Tryz.func34, Tryz.ntmps34
  rw [hml]
  rw [hml] at hc H0
  clear hml
  go_wp2_with (at_builtin; fail)
  go_loopw [1, 5] (fun kv i wr => ∃ (j : Nat) (K : Int), j ≤ l.length ∧ i = .int .i64 j ∧ kv = .int .i64 K ∧ K = k + ceN (l.take j) ∧ w = wr) (fun _ i _ => l.length - (intOf i).toNat)
  case atStart => exact ⟨0, k, Nat.zero_le _, rfl, rfl, by simp [ceN], rfl⟩
  case round =>
    obtain ⟨j, K, hj, rfl, rfl, hK, rfl⟩ := hrel
    have HK := Lib.hid hK
    have hnn := ceN_nn (l.take j)
    have hK0 : 0 ≤ K := by omega
    by_cases hlt : j < l.length
    · have hce : ceN (l.take (j + 1)) + ceN (l.drop (j + 1)) = ceN l := by rw [← ceN_append, List.take_append_drop]
      have hcd := ceN_nn (l.drop (j + 1))
      rw [ceN_take hlt] at hce
      have HCT := Lib.hid (ceN_take hlt)
      have hjp : j < ps.length := by rw [HPL.out]; exact hlt
      have hpj : ps[j].1 = markC K l[j] := by
        rw [hK, ← markM_get hlt]
        have : (ps.map (·.1))[j]'(by rw [List.length_map]; exact hjp) = ps[j].1 := by rw [List.getElem_map]
        rw [← this]
        simp only [HPS.out]
      have hlst := (hok2 OK.out hlt).l1
      obtain ⟨g, rfl, hg, hgs, -, q0, q1, q2, q3, -⟩ := H0.out.at_ hjp
      have hr := H0.out.row j hjp
      rw [hpj] at q0 q1 q2 hr
      generalize l[j]'hlt = s at *
      generalize ps[j].2 = tv at *
      have t1 : (((K + 1 + 1).toNat : Nat) : Int) = K + 1 + 1 := by omega
      simp only [markC, t1] at q0 q1 q2 hr
      have HR := Lib.hid (hr.toS (by rw [uptoTg_len]; omega))
      obtain ⟨B, n, rfl, -⟩ := hr.slice
      have hK1 : K + 3 + 2 * (s.st.length : Nat) ≤ 1099511627776 := by omega
      have x0 := ne_false_z K
      have x1 := ne_false_b ((K + 1) % 3 == 0)
      have x2 := ne_false_z (K + 1 + 1)
      have HK4 : Hid (K + 1 + 1 + 1 + 2 * (s.st.length : Nat) = k + ceN (l.take (j + 1))) := Lib.hid (by have := HCT.out; have := HK.out; omega)
      clear hK t1 hr hpj hjp hce hcd hnn
      go_wp2_with (at_builtin; fail)
      refine (heldTagS_any _ s.st.length _ _ w HR.out (by omega) (by omega)).mono ?_
      rintro e w4 ⟨rfl, rfl⟩
      have hK5 : ¬ (K + 1 + 1 + 1 + 2 * (s.st.length : Int) < 0) := by omega
      have hK6 : 0 ≤ (K + 1 + 1 + 1 + 2 * (s.st.length : Int)) := by omega
      clear q0 q1 q2 q3 HR
      generalize K + 1 + 1 + 1 + 2 * (s.st.length : Int) = K4 at *
      go_wp2_with (at_builtin; fail)
      exact ⟨⟨j + 1, _, by omega, by go_num, rfl, HK4.out, by first | trivial | rfl⟩, by simp [intOf] <;> omega⟩
    · have hjl : j = l.length := by omega
      have HJ := Lib.hid hjl
      clear hK hjl hnn
      go_wp2_with (at_builtin; fail)
      go_ret
      exact ⟨by rw [HK.out, take_all HJ.out]; rfl, rfl⟩

end Go.Proofs.YtfioaohadanjmaaGreat
