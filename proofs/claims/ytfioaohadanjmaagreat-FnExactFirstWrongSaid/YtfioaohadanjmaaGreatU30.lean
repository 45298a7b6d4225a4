import Derived.Test.YtfioaohadanjmaaGreatU29
import Derived.Test.YtfioaohadanjmaaGreatU13
import Derived.Test.YtfioaohadanjmaaGreatU07
import Derived.ChangeArms
import Derived.ChangeSlices
import Derived.Deep.Slices
set_option linter.unusedVariables false

/- spec and impl: NumbersRead, FinalSlots, FinalCells. -/
namespace Go.Proofs.YtfioaohadanjmaaGreat
open Go.RowKit Go.Lib

def numX (ts : List Int) (l : List St) (cs : List Int) (most : Int) : List Int × Int := if runOk ts l most = true then ((runX ts l cs most.toNat).1.rd, (runX ts l cs most.toNat).2.1) else ([], 5)
def slotX (ts : List Int) (l : List St) (cs : List Int) (most : Int) : List Sl × Int := if runOk ts l most = true then ((runX ts l cs most.toNat).1.sl, (runX ts l cs most.toNat).2.1) else ([], 5)
def cellX (ts : List Int) (l : List St) (cs : List Int) (most : Int) : List Cl × Int := if runOk ts l most = true then ((runX ts l cs most.toNat).1.ce, (runX ts l cs most.toNat).2.1) else ([], 5)
theorem runX_rd (ts : List Int) (l : List St) (cs : List Int) (m : Nat) : (runX ts l cs m).1.rd.length ≤ m + 1 := by
  have h := (runM_ok (ts := ts) (pts := ptsP l) (runF (ptsP l) m 0 cs).1 (ms0_ok ts)).2
  have h2 := runF_len (ptsP l) m 0 cs
  simp only [ms0, List.length_nil] at h
  unfold runX
  simp only [ms0]
  omega
theorem numX_len (ts : List Int) (l : List St) (cs : List Int) (most : Int) : (numX ts l cs most).1.length ≤ 1000 := by
  unfold numX
  split
  · rename_i h
    obtain ⟨-, m, rfl, hm⟩ := runOk_parts h
    have := runX_rd ts l cs m
    simp only [Int.toNat_natCast]
    omega
  · simp
theorem slotX_len (ts : List Int) (l : List St) (cs : List Int) (most : Int) : (slotX ts l cs most).1.length ≤ 6 := by
  unfold slotX
  split
  · rename_i h
    obtain ⟨hv, -⟩ := runOk_parts h
    have h6 := (Good.of_valid hv).h6
    have := (runM_ok (ts := ts) (pts := ptsP l) (runF (ptsP l) most.toNat 0 cs).1 (ms0_ok ts)).1.ln
    unfold runX
    simp only [this]
    exact h6
  · simp
theorem cellX_ok (ts : List Int) (l : List St) (cs : List Int) (most : Int) : okM (cellX ts l cs most).1 := by
  unfold cellX
  split
  · exact (runM_ok (ts := ts) (pts := ptsP l) (runF (ptsP l) most.toNat 0 cs).1 (ms0_ok ts)).1.ce
  · exact okM.nil
/-- what NumbersRead answers -/
def RdRet (w : World) (r : List Int × Int) (e : Ending) (w' : World) : Prop := ∃ v, e = .returned (.tuple #[v, .int .i64 r.2]) ∧ OInts w' w.heap.size v r.1 ∧ Below w.heap.size w w'
def SlRet (w : World) (r : List Sl × Int) (e : Ending) (w' : World) : Prop := ∃ v, e = .returned (.tuple #[v, .int .i64 r.2]) ∧ OSl w' w.heap.size v r.1 ∧ Below w.heap.size w w'
def CeRet (w : World) (r : List Cl × Int) (e : Ending) (w' : World) : Prop := ∃ v, e = .returned (.tuple #[v, .int .i64 r.2]) ∧ MeS w' w.heap.size v r.1 ∧ Below w.heap.size w w'
theorem maS_osl {w : World} {B base gm gs : Nat} {vg vc vl : Value} {ts : List Int} {pts : List Pt} {s : Ms} (h : MaS w B base gm gs vg vc vl ts pts s) (h6 : ts.length ≤ 6) : OSl w B (.slice (some ⟨gs, 0, none⟩) ts.length ts.length) s.sl := by
  have hl := h.ok.ln
  have hcl := slCells_len s.sl
  unfold OSl
  rw [hl]
  refine ⟨by rw [hcl, hl], .inr ⟨gs, ts.length, (slCells s.sl).toArray, rfl, h.hgs, h.sr, Nat.le_refl _, by simp only [maxLen]; omega, by rw [List.size_toArray, hcl, hl], ?_⟩⟩
  rw [← hl, ← hcl]
  simp
set_option maxHeartbeats 4000000 in
set_option maxRecDepth 100000 in
theorem sNumbersRead_any (vt vb vc : Value) (ts : List Int) (l : List St) (cs : List Int) (most : Int) (B : Nat) (w : World) (ht : IntS w B vt ts) (hl : StS w B vb l) (hc : IntS w B vc cs) (hB : B ≤ w.heap.size) (hsz : szL l ≤ 4194300) :
    Calls Tryz.prog 10 #[.agg #[vt, vb], vc, .int .i64 most] w (RdRet w (numX ts l cs most)) := by
  have HRI := Lib.hid (l7Right_any vt vb ts l most B (w.alloc (.cells #[vt, vb] 31)) (ht.low (bel_a w _) hB) (hl.low (bel_a w _) hB) (by simp; omega) hsz)
  have HX := Lib.hid (RowB.new w [vt, vb] 31)
  have HB0 := Lib.hid (bel_a w (.cells #[vt, vb] 31))
  have HT := Lib.hid ht
  have HL := Lib.hid hl
  have HCS := Lib.hid hc
  clear ht hl hc
  go_enter Tryz.func10, Tryz.ntmps10
  go_upto_region 1 with (at_builtin; fail)
  generalize w.alloc (.cells #[vt, vb] 31) = W at *
  obtain ⟨bx, hbx⟩ : ∃ bx, bx = w.heap.size := ⟨_, rfl⟩
  rw [← hbx] at HX ⊢
  have HBX := Lib.hid hbx
  clear hbx
  have g0 := HX.out.cell 0
  have g1 := HX.out.cell 1
  simp only [List.getElem?_cons_zero, List.getElem?_cons_succ] at g0 g1
  cases hok : runOk ts l most
  · rw [hok] at HRI
    have HNO := Lib.hid hok
    clear hok
    go_wp2_with (at_builtin; fail)
    refine HRI.out.mono ?_
    rintro e w1 ⟨rfl, hb1⟩
    have HB1 := Lib.hid (HB0.out.trans (hb1.mono HB0.out.size))
    clear hb1 g0 g1
    go_wp2_with (at_builtin; fail)
    have HP : Hid (numX ts l cs most = ([], 5)) := Lib.hid (by unfold numX; rw [HNO.out]; rfl)
    go_ret2
    rw [HP.out]
    exact ⟨_, rfl, OInts.empty w1 _ HB1.out.size, HB1.out.alloc HB1.out.size _⟩
  · rw [hok] at HRI
    obtain ⟨hv, m, rfl, hm⟩ := runOk_parts hok
    have HOK := Lib.hid hok
    clear hok
    go_wp2_with (at_builtin; fail)
    refine HRI.out.mono ?_
    rintro e w1 ⟨rfl, hb1⟩
    have HB1 := Lib.hid (HB0.out.trans (hb1.mono HB0.out.size))
    have HX1 := Lib.hid (HX.out.low hb1 HX.out.lt)
    clear hb1 g0 g1
    have g0 := HX1.out.cell 0
    have g1 := HX1.out.cell 1
    simp only [List.getElem?_cons_zero, List.getElem?_cons_succ] at g0 g1
    have HCR := Lib.hid (l7Run_any vt vb vc ts l cs m B w1 (HT.out.low HB1.out hB) (HL.out.low HB1.out hB) (HCS.out.low HB1.out hB) (Nat.le_trans hB HB1.out.size) hv hm)
    obtain ⟨R, hR⟩ : ∃ R, R = runX ts l cs m := ⟨_, rfl⟩
    rw [← hR] at HCR
    have HRE := Lib.hid hR
    clear hR hv
    go_wp2_with (at_builtin; fail)
    refine HCR.out.mono ?_
    rintro e w2 ⟨vs, vc', vl, rfl, hs2, ok2, hb2⟩
    have HB2 := Lib.hid (HB1.out.trans (hb2.mono HB1.out.size))
    have HS2 := Lib.hid hs2
    have OK2 := Lib.hid ok2
    obtain ⟨A2a, c2a, rfl, -⟩ := hs2.sl.slice
    obtain ⟨A2b, c2b, rfl, -⟩ := hs2.ce.slice
    obtain ⟨A2c, c2c, rfl, -⟩ := hs2.rd.slice
    clear hs2 ok2 hb2 g0 g1
    have HBD : Hid (R.1.rd.length ≤ 1000) := Lib.hid (by rw [HRE.out]; have := runX_rd ts l cs m; omega)
    have HP : Hid (numX ts l cs (m : Nat) = (R.1.rd, R.2.1)) := Lib.hid (by unfold numX; rw [HOK.out]; rw [HRE.out]; rfl)
    have HXN := Lib.hid (RowB.new w2 [.slice A2a R.1.sl.length c2a, .slice A2b R.1.ce.length c2b, .slice A2c R.1.rd.length c2c] 57)
    have HS3 := Lib.hid (HS2.out.bel (bel_a w2 (.cells #[.slice A2a R.1.sl.length c2a, .slice A2b R.1.ce.length c2b, .slice A2c R.1.rd.length c2c] 57)))
    have HB3 := Lib.hid (HB2.out.alloc HB2.out.size (.cells #[.slice A2a R.1.sl.length c2a, .slice A2b R.1.ce.length c2b, .slice A2c R.1.rd.length c2c] 57))
    go_upto_region 4 with (at_builtin; fail)
    generalize w2.alloc (.cells #[.slice A2a R.1.sl.length c2a, .slice A2b R.1.ce.length c2b, .slice A2c R.1.rd.length c2c] 57) = w3 at *
    generalize w2.heap.size = bt at *
    have hs3 := HB3.out.size
    have y2 := (HXN.out.alloc (.cells #[] 3)).cell 2
    simp only [List.getElem?_cons_zero, List.getElem?_cons_succ] at y2
    have HE := Lib.hid (OInts.empty w3 w3.heap.size (Nat.le_refl _))
    have HSA := Lib.hid (HS3.out.rd.bel (bel_a w3 (.cells #[] 3)))
    have hzz : w3.heap.size ≤ (w3.alloc (.cells #[] 3)).heap.size := by simp
    have hbd : R.1.rd.length ≤ 1000 := HBD.out
    go_wp2_with (at_builtin; go_must (refine wpList_app_is rfl (.tmp 24) (.tmp 26) rfl w3.heap.size _ [] rfl HE.out _ _ R.1.rd rfl HSA.out hzz (by simp; omega) ?_); (intro v' w4 hP' hg' _); (have HB4 := Lib.hid (HB3.out.trans (((bel_a w3 (.cells #[] 3)).trans ((Evo.grown (T := 3) (size := 1) HE.out hg').below hzz)).mono hs3))); (rw [List.nil_append] at hP'); (have HP4 := Lib.hid hP'); clear hP' hg')
    go_ret2
    rw [HP.out]
    exact ⟨_, rfl, HP4.out.baseLe hs3, HB4.out⟩
set_option maxHeartbeats 4000000 in
set_option maxRecDepth 100000 in
theorem sFinalSlots_any (vt vb vc : Value) (ts : List Int) (l : List St) (cs : List Int) (most : Int) (B : Nat) (w : World) (ht : IntS w B vt ts) (hl : StS w B vb l) (hc : IntS w B vc cs) (hB : B ≤ w.heap.size) (hsz : szL l ≤ 4194300) :
    Calls Tryz.prog 23 #[.agg #[vt, vb], vc, .int .i64 most] w (SlRet w (slotX ts l cs most)) := by
  have HRI := Lib.hid (l7Right_any vt vb ts l most B (w.alloc (.cells #[vt, vb] 31)) (ht.low (bel_a w _) hB) (hl.low (bel_a w _) hB) (by simp; omega) hsz)
  have HX := Lib.hid (RowB.new w [vt, vb] 31)
  have HB0 := Lib.hid (bel_a w (.cells #[vt, vb] 31))
  have HT := Lib.hid ht
  have HL := Lib.hid hl
  have HCS := Lib.hid hc
  clear ht hl hc
  go_enter Tryz.func23, Tryz.ntmps23
  go_upto_region 1 with (at_builtin; fail)
  generalize w.alloc (.cells #[vt, vb] 31) = W at *
  obtain ⟨bx, hbx⟩ : ∃ bx, bx = w.heap.size := ⟨_, rfl⟩
  rw [← hbx] at HX ⊢
  have HBX := Lib.hid hbx
  clear hbx
  have g0 := HX.out.cell 0
  have g1 := HX.out.cell 1
  simp only [List.getElem?_cons_zero, List.getElem?_cons_succ] at g0 g1
  cases hok : runOk ts l most
  · rw [hok] at HRI
    have HNO := Lib.hid hok
    clear hok
    go_wp2_with (at_builtin; fail)
    refine HRI.out.mono ?_
    rintro e w1 ⟨rfl, hb1⟩
    have HB1 := Lib.hid (HB0.out.trans (hb1.mono HB0.out.size))
    clear hb1 g0 g1
    go_wp2_with (at_builtin; fail)
    have HP : Hid (slotX ts l cs most = ([], 5)) := Lib.hid (by unfold slotX; rw [HNO.out]; rfl)
    go_ret2
    rw [HP.out]
    exact ⟨_, rfl, OSl.empty w1 _ HB1.out.size, HB1.out.alloc HB1.out.size _⟩
  · rw [hok] at HRI
    obtain ⟨hv, m, rfl, hm⟩ := runOk_parts hok
    have HOK := Lib.hid hok
    clear hok
    go_wp2_with (at_builtin; fail)
    refine HRI.out.mono ?_
    rintro e w1 ⟨rfl, hb1⟩
    have HB1 := Lib.hid (HB0.out.trans (hb1.mono HB0.out.size))
    have HX1 := Lib.hid (HX.out.low hb1 HX.out.lt)
    clear hb1 g0 g1
    have g0 := HX1.out.cell 0
    have g1 := HX1.out.cell 1
    simp only [List.getElem?_cons_zero, List.getElem?_cons_succ] at g0 g1
    have HCR := Lib.hid (l7Run_any vt vb vc ts l cs m B w1 (HT.out.low HB1.out hB) (HL.out.low HB1.out hB) (HCS.out.low HB1.out hB) (Nat.le_trans hB HB1.out.size) hv hm)
    obtain ⟨R, hR⟩ : ∃ R, R = runX ts l cs m := ⟨_, rfl⟩
    rw [← hR] at HCR
    have HRE := Lib.hid hR
    clear hR hv
    go_wp2_with (at_builtin; fail)
    refine HCR.out.mono ?_
    rintro e w2 ⟨vs, vc', vl, rfl, hs2, ok2, hb2⟩
    have HB2 := Lib.hid (HB1.out.trans (hb2.mono HB1.out.size))
    have HS2 := Lib.hid hs2
    have OK2 := Lib.hid ok2
    obtain ⟨A2a, c2a, rfl, -⟩ := hs2.sl.slice
    obtain ⟨A2b, c2b, rfl, -⟩ := hs2.ce.slice
    obtain ⟨A2c, c2c, rfl, -⟩ := hs2.rd.slice
    clear hs2 ok2 hb2 g0 g1
    have HBD : Hid (R.1.sl.length ≤ 1000) := Lib.hid (by have := OK2.out.ln; have := (Good.of_valid (runOk_parts HOK.out).1).h6; omega)
    have HP : Hid (slotX ts l cs (m : Nat) = (R.1.sl, R.2.1)) := Lib.hid (by unfold slotX; rw [HOK.out]; rw [HRE.out]; rfl)
    have HXN := Lib.hid (RowB.new w2 [.slice A2a R.1.sl.length c2a, .slice A2b R.1.ce.length c2b, .slice A2c R.1.rd.length c2c] 57)
    have HS3 := Lib.hid (HS2.out.bel (bel_a w2 (.cells #[.slice A2a R.1.sl.length c2a, .slice A2b R.1.ce.length c2b, .slice A2c R.1.rd.length c2c] 57)))
    have HB3 := Lib.hid (HB2.out.alloc HB2.out.size (.cells #[.slice A2a R.1.sl.length c2a, .slice A2b R.1.ce.length c2b, .slice A2c R.1.rd.length c2c] 57))
    go_upto_region 4 with (at_builtin; fail)
    generalize w2.alloc (.cells #[.slice A2a R.1.sl.length c2a, .slice A2b R.1.ce.length c2b, .slice A2c R.1.rd.length c2c] 57) = w3 at *
    generalize w2.heap.size = bt at *
    have hs3 := HB3.out.size
    have y0 := (HXN.out.alloc (.cells #[] 79)).cell 0
    simp only [List.getElem?_cons_zero] at y0
    have HE := Lib.hid (OSl.empty w3 w3.heap.size (Nat.le_refl _))
    have HSA := Lib.hid (HS3.out.sl.bel (bel_a w3 (.cells #[] 79)))
    have hzz : w3.heap.size ≤ (w3.alloc (.cells #[] 79)).heap.size := by simp
    have hbd : R.1.sl.length ≤ 1000 := HBD.out
    go_wp2_with (at_builtin; go_must (refine wpList_app_sls rfl (.tmp 24) (.tmp 26) rfl w3.heap.size _ [] rfl HE.out _ _ R.1.sl rfl HSA.out hzz (by simp; omega) ?_); (intro v' w4 hP' hg' _); (have HB4 := Lib.hid (HB3.out.trans (((bel_a w3 (.cells #[] 79)).trans ((Evo.grown (T := 79) (size := 4) HE.out hg').below hzz)).mono hs3))); (rw [List.nil_append] at hP'); (have HP4 := Lib.hid hP'); clear hP' hg')
    go_ret2
    rw [HP.out]
    exact ⟨_, rfl, HP4.out.base hs3, HB4.out⟩
set_option maxHeartbeats 4000000 in
set_option maxRecDepth 100000 in
theorem sFinalCells_any (vt vb vc : Value) (ts : List Int) (l : List St) (cs : List Int) (most : Int) (B : Nat) (w : World) (ht : IntS w B vt ts) (hl : StS w B vb l) (hc : IntS w B vc cs) (hB : B ≤ w.heap.size) (hsz : szL l ≤ 4194300) :
    Calls Tryz.prog 30 #[.agg #[vt, vb], vc, .int .i64 most] w (CeRet w (cellX ts l cs most)) := by
  have HRI := Lib.hid (l7Right_any vt vb ts l most B (w.alloc (.cells #[vt, vb] 31)) (ht.low (bel_a w _) hB) (hl.low (bel_a w _) hB) (by simp; omega) hsz)
  have HX := Lib.hid (RowB.new w [vt, vb] 31)
  have HB0 := Lib.hid (bel_a w (.cells #[vt, vb] 31))
  have HT := Lib.hid ht
  have HL := Lib.hid hl
  have HCS := Lib.hid hc
  clear ht hl hc
  go_enter Tryz.func30, Tryz.ntmps30
  go_upto_region 1 with (at_builtin; fail)
  generalize w.alloc (.cells #[vt, vb] 31) = W at *
  obtain ⟨bx, hbx⟩ : ∃ bx, bx = w.heap.size := ⟨_, rfl⟩
  rw [← hbx] at HX ⊢
  have HBX := Lib.hid hbx
  clear hbx
  have g0 := HX.out.cell 0
  have g1 := HX.out.cell 1
  simp only [List.getElem?_cons_zero, List.getElem?_cons_succ] at g0 g1
  cases hok : runOk ts l most
  · rw [hok] at HRI
    have HNO := Lib.hid hok
    clear hok
    go_wp2_with (at_builtin; fail)
    refine HRI.out.mono ?_
    rintro e w1 ⟨rfl, hb1⟩
    have HB1 := Lib.hid (HB0.out.trans (hb1.mono HB0.out.size))
    clear hb1 g0 g1
    go_wp2_with (at_builtin; fail)
    have HP : Hid (cellX ts l cs most = ([], 5)) := Lib.hid (by unfold cellX; rw [HNO.out]; rfl)
    go_ret2
    rw [HP.out]
    exact ⟨_, rfl, MeS.empty w1 _ HB1.out.size, HB1.out.alloc HB1.out.size _⟩
  · rw [hok] at HRI
    obtain ⟨hv, m, rfl, hm⟩ := runOk_parts hok
    have HOK := Lib.hid hok
    clear hok
    go_wp2_with (at_builtin; fail)
    refine HRI.out.mono ?_
    rintro e w1 ⟨rfl, hb1⟩
    have HB1 := Lib.hid (HB0.out.trans (hb1.mono HB0.out.size))
    have HX1 := Lib.hid (HX.out.low hb1 HX.out.lt)
    clear hb1 g0 g1
    have g0 := HX1.out.cell 0
    have g1 := HX1.out.cell 1
    simp only [List.getElem?_cons_zero, List.getElem?_cons_succ] at g0 g1
    have HCR := Lib.hid (l7Run_any vt vb vc ts l cs m B w1 (HT.out.low HB1.out hB) (HL.out.low HB1.out hB) (HCS.out.low HB1.out hB) (Nat.le_trans hB HB1.out.size) hv hm)
    obtain ⟨R, hR⟩ : ∃ R, R = runX ts l cs m := ⟨_, rfl⟩
    rw [← hR] at HCR
    have HRE := Lib.hid hR
    clear hR hv
    go_wp2_with (at_builtin; fail)
    refine HCR.out.mono ?_
    rintro e w2 ⟨vs, vc', vl, rfl, hs2, ok2, hb2⟩
    have HB2 := Lib.hid (HB1.out.trans (hb2.mono HB1.out.size))
    have HS2 := Lib.hid hs2
    have OK2 := Lib.hid ok2
    obtain ⟨A2a, c2a, rfl, -⟩ := hs2.sl.slice
    obtain ⟨A2b, c2b, rfl, -⟩ := hs2.ce.slice
    obtain ⟨A2c, c2c, rfl, -⟩ := hs2.rd.slice
    clear hs2 ok2 hb2 g0 g1
    have HP : Hid (cellX ts l cs (m : Nat) = (R.1.ce, R.2.1)) := Lib.hid (by unfold cellX; rw [HOK.out]; rw [HRE.out]; rfl)
    have HXN := Lib.hid (RowB.new w2 [.slice A2a R.1.sl.length c2a, .slice A2b R.1.ce.length c2b, .slice A2c R.1.rd.length c2c] 57)
    have HS3 := Lib.hid (HS2.out.bel (bel_a w2 (.cells #[.slice A2a R.1.sl.length c2a, .slice A2b R.1.ce.length c2b, .slice A2c R.1.rd.length c2c] 57)))
    have HB3 := Lib.hid (HB2.out.alloc HB2.out.size (.cells #[.slice A2a R.1.sl.length c2a, .slice A2b R.1.ce.length c2b, .slice A2c R.1.rd.length c2c] 57))
    go_upto_region 4 with (at_builtin; fail)
    generalize w2.alloc (.cells #[.slice A2a R.1.sl.length c2a, .slice A2b R.1.ce.length c2b, .slice A2c R.1.rd.length c2c] 57) = w3 at *
    generalize w2.heap.size = bt at *
    have hs3 := HB3.out.size
    have y1 := HXN.out.cell 1
    simp only [List.getElem?_cons_zero, List.getElem?_cons_succ] at y1
    go_wp2_with (at_builtin; fail)
    refine (l6Copy_any _ R.1.ce _ _ HS3.out.ce OK2.out.ce).mono ?_
    rintro e w4 ⟨v4, rfl, hm4, hb4⟩
    have HM4 := Lib.hid hm4
    have HB4 := Lib.hid (HB3.out.trans (hb4.mono hs3))
    clear hm4 hb4
    go_wp2_with (at_builtin; fail)
    go_ret2
    rw [HP.out]
    exact ⟨_, rfl, HM4.out.base hs3, HB4.out⟩
set_option maxHeartbeats 4000000 in
set_option maxRecDepth 100000 in
theorem iNumbersRead_any (vt vb vc : Value) (ts : List Int) (l : List St) (cs : List Int) (most : Int) (B : Nat) (w : World) (ht : IntS w B vt ts) (hl : StS w B vb l) (hc : IntS w B vc cs) (hB : B ≤ w.heap.size) (hsz : szL l ≤ 4194300) :
    Calls Tryz.prog 13 #[.agg #[vt, vb], vc, .int .i64 most] w (RdRet w (numX ts l cs most)) := by
  have HRO := Lib.hid (runOf_any vt vb vc ts l cs most B (w.alloc (.cells #[vt, vb] 31)) (ht.low (bel_a w _) hB) (hl.low (bel_a w _) hB) (hc.low (bel_a w _) hB) (by simp; omega) hsz)
  have HBA := Lib.hid (bel_a w (.cells #[vt, vb] 31))
  go_enter Tryz.func13, Tryz.ntmps13
  go_wp2_with (at_builtin; fail)
  refine HRO.out.mono ?_
  rintro e w1 ⟨hb, h1, h2⟩
  have HB := Lib.hid (HBA.out.trans (hb.mono HBA.out.size))
  have key : ∃ (gm : Nat) (v v0 v1 v2 : Value) (L : List Int) (en : Int) (pt : Nat), e = .returned (.tuple #[.pointer (some ⟨gm, 0, none⟩), .int .i64 en, .int .i64 (pt : Nat)]) ∧ RowB w1 gm 66 [v0, v1, v2, v] ∧ (OInts w1 w.heap.size v L) ∧ numX ts l cs most = (L, en) := by
    cases hok : runOk ts l most
    · obtain ⟨gm, rfl, hr⟩ := h2 hok
      exact ⟨gm, _, _, _, _, [], 5, 0, rfl, hr, OInts.nil w1 _, by unfold numX; rw [hok]; rfl⟩
    · obtain ⟨gm, gs, B', base, vg, vc', vl, rfl, hB', hm⟩ := h1 hok
      have hbb := hm.bb
      have hws : w.heap.size ≤ (w.alloc (.cells #[vt, vb] 31)).heap.size := HBA.out.size
      exact ⟨gm, _, _, _, _, _, _, _, rfl, hm.mr, (hm.rd).baseLe (by omega), by unfold numX; rw [hok]; rfl⟩
  obtain ⟨gm, v, v0, v1, v2, L, en, pt, rfl, hr, hown, hx⟩ := key
  have HX := Lib.hid hx
  have HO := Lib.hid hown
  have y3 := hr.cell 3
  simp only [List.getElem?_cons_zero, List.getElem?_cons_succ] at y3
  clear h1 h2 hb hr hown hx HRO
  go_wp2_with (at_builtin; fail)
  go_ret2
  rw [HX.out]
  exact ⟨_, rfl, HO.out, HB.out⟩
set_option maxHeartbeats 4000000 in
set_option maxRecDepth 100000 in
theorem iFinalSlots_any (vt vb vc : Value) (ts : List Int) (l : List St) (cs : List Int) (most : Int) (B : Nat) (w : World) (ht : IntS w B vt ts) (hl : StS w B vb l) (hc : IntS w B vc cs) (hB : B ≤ w.heap.size) (hsz : szL l ≤ 4194300) :
    Calls Tryz.prog 24 #[.agg #[vt, vb], vc, .int .i64 most] w (SlRet w (slotX ts l cs most)) := by
  have HRO := Lib.hid (runOf_any vt vb vc ts l cs most B (w.alloc (.cells #[vt, vb] 31)) (ht.low (bel_a w _) hB) (hl.low (bel_a w _) hB) (hc.low (bel_a w _) hB) (by simp; omega) hsz)
  have HBA := Lib.hid (bel_a w (.cells #[vt, vb] 31))
  go_enter Tryz.func24, Tryz.ntmps24
  go_wp2_with (at_builtin; fail)
  refine HRO.out.mono ?_
  rintro e w1 ⟨hb, h1, h2⟩
  have HB := Lib.hid (HBA.out.trans (hb.mono HBA.out.size))
  have key : ∃ (gm : Nat) (v v0 v1 v2 : Value) (L : List Sl) (en : Int) (pt : Nat), e = .returned (.tuple #[.pointer (some ⟨gm, 0, none⟩), .int .i64 en, .int .i64 (pt : Nat)]) ∧ RowB w1 gm 66 [v0, v, v1, v2] ∧ (OSl w1 w.heap.size v L) ∧ slotX ts l cs most = (L, en) := by
    cases hok : runOk ts l most
    · obtain ⟨gm, rfl, hr⟩ := h2 hok
      exact ⟨gm, _, _, _, _, [], 5, 0, rfl, hr, OSl.nil w1 _, by unfold slotX; rw [hok]; rfl⟩
    · obtain ⟨gm, gs, B', base, vg, vc', vl, rfl, hB', hm⟩ := h1 hok
      have hbb := hm.bb
      have hws : w.heap.size ≤ (w.alloc (.cells #[vt, vb] 31)).heap.size := HBA.out.size
      exact ⟨gm, _, _, _, _, _, _, _, rfl, hm.mr, (maS_osl hm (Good.of_valid (runOk_parts hok).1).h6).base (by omega), by unfold slotX; rw [hok]; rfl⟩
  obtain ⟨gm, v, v0, v1, v2, L, en, pt, rfl, hr, hown, hx⟩ := key
  have HX := Lib.hid hx
  have HO := Lib.hid hown
  have y1 := hr.cell 1
  simp only [List.getElem?_cons_zero, List.getElem?_cons_succ] at y1
  clear h1 h2 hb hr hown hx HRO
  go_wp2_with (at_builtin; fail)
  go_ret2
  rw [HX.out]
  exact ⟨_, rfl, HO.out, HB.out⟩
set_option maxHeartbeats 4000000 in
set_option maxRecDepth 100000 in
theorem iFinalCells_any (vt vb vc : Value) (ts : List Int) (l : List St) (cs : List Int) (most : Int) (B : Nat) (w : World) (ht : IntS w B vt ts) (hl : StS w B vb l) (hc : IntS w B vc cs) (hB : B ≤ w.heap.size) (hsz : szL l ≤ 4194300) :
    Calls Tryz.prog 31 #[.agg #[vt, vb], vc, .int .i64 most] w (CeRet w (cellX ts l cs most)) := by
  have HRO := Lib.hid (runOf_any vt vb vc ts l cs most B (w.alloc (.cells #[vt, vb] 31)) (ht.low (bel_a w _) hB) (hl.low (bel_a w _) hB) (hc.low (bel_a w _) hB) (by simp; omega) hsz)
  have HBA := Lib.hid (bel_a w (.cells #[vt, vb] 31))
  go_enter Tryz.func31, Tryz.ntmps31
  go_wp2_with (at_builtin; fail)
  refine HRO.out.mono ?_
  rintro e w1 ⟨hb, h1, h2⟩
  have HB := Lib.hid (HBA.out.trans (hb.mono HBA.out.size))
  have key : ∃ (gm : Nat) (v v0 v1 v2 : Value) (L : List Cl) (en : Int) (pt : Nat), e = .returned (.tuple #[.pointer (some ⟨gm, 0, none⟩), .int .i64 en, .int .i64 (pt : Nat)]) ∧ RowB w1 gm 66 [v0, v1, v, v2] ∧ (MeS w1 w.heap.size v L) ∧ cellX ts l cs most = (L, en) := by
    cases hok : runOk ts l most
    · obtain ⟨gm, rfl, hr⟩ := h2 hok
      exact ⟨gm, _, _, _, _, [], 5, 0, rfl, hr, MeS.nil w1 _, by unfold cellX; rw [hok]; rfl⟩
    · obtain ⟨gm, gs, B', base, vg, vc', vl, rfl, hB', hm⟩ := h1 hok
      have hbb := hm.bb
      have hws : w.heap.size ≤ (w.alloc (.cells #[vt, vb] 31)).heap.size := HBA.out.size
      exact ⟨gm, _, _, _, _, _, _, _, rfl, hm.mr, (hm.ce).base (by omega), by unfold cellX; rw [hok]; rfl⟩
  obtain ⟨gm, v, v0, v1, v2, L, en, pt, rfl, hr, hown, hx⟩ := key
  have HX := Lib.hid hx
  have HO := Lib.hid hown
  have y2 := hr.cell 2
  simp only [List.getElem?_cons_zero, List.getElem?_cons_succ] at y2
  clear h1 h2 hb hr hown hx HRO
  go_wp2_with (at_builtin; fail)
  go_ret2
  rw [HX.out]
  exact ⟨_, rfl, HO.out, HB.out⟩

end Go.Proofs.YtfioaohadanjmaaGreat

/- FnExactNumbersRead: the walk. -/
namespace Go.Proofs.YtfioaohadanjmaaGreat
open Go.RowKit

set_option maxHeartbeats 8000000
set_option maxRecDepth 100000
theorem fnExactNumbersRead_any (vt vb : Value) (ts : List Int) (l : List St) (vc : Value) (cs : List Int) (most : Int) (w : World) (ht : AnI w w.heap.size vt ts) (hl : StS w w.heap.size vb l) (hL : Lens l) (hc : AnI w w.heap.size vc cs) :
    Calls Tryz.prog 3 #[.agg #[vt, vb], vc, .int .i64 most] w (LwRet w) := by
  have HA0 := Lib.hid (ArA.new ht hl)
  have HLE := Lib.hid hL
  have ht0 := ht
  obtain ⟨At, ct, rfl, -⟩ := ht0
  obtain ⟨Ab, cb, rfl, hcb⟩ := hl.slice
  have HC0 := Lib.hid hc
  obtain ⟨Ac, cc, rfl, hcc, hcm, -⟩ := hc
  clear ht hl hL
  go_enter Tryz.func3, Tryz.ntmps3
  go_upto_region 1 with (at_builtin; fail)
  generalize w.alloc (.cells #[.slice At ts.length ct, .slice Ab l.length cb] 25) = W0 at *
  obtain ⟨g, hg⟩ : ∃ g, g = w.heap.size := ⟨_, rfl⟩
  rw [← hg] at HA0 ⊢
  have HG := Lib.hid hg
  clear hg
  have c0 := HA0.out.row.cell 0
  have c1 := HA0.out.row.cell 1
  simp only [List.getElem?_cons_zero, List.getElem?_cons_succ] at c0 c1
  by_cases hbig : 1048576 < cs.length
  · have qb : decide (((cs.length : Nat) : Int) > 1048576) = true := decide_eq_true (by omega)
    go_wp2_with (at_builtin; fail)
    go_ret
    exact ⟨rfl, HA0.out.bel⟩
  have qb : decide (((cs.length : Nat) : Int) > 1048576) = false := decide_eq_false (by omega)
  have HC := Lib.hid (HC0.out.toS (by omega))
  have hcl : cs.length ≤ 1048576 := by omega
  clear hbig HC0
  go_wp2_with (at_builtin; fail)
  refine (szProgram_any _ _ ts l 1048576 w.heap.size W0 HA0.out.ht HA0.out.hl HLE.out HA0.out.bel.size (by omega) (by omega)).mono ?_
  rintro e W1 ⟨rfl, hb1⟩
  have HA1 := Lib.hid (HA0.out.bels hb1)
  clear hb1 c0 c1 HA0
  by_cases hn : leftP 1048576 (ts.length + szL l) < 0
  · rw [(leftP_neg hn).1]
    clear hn
    go_wp2_with (at_builtin; fail)
    go_ret
    exact ⟨rfl, HA1.out.bel⟩
  · have hsz := (leftP_nn (by omega : 0 ≤ leftP 1048576 (ts.length + szL l))).1
    have htl : ts.length ≤ 1048576 := by omega
    have hll : szL l ≤ 1048576 := by omega
    have HB1 := Lib.hid (HA1.out.toB (by omega))
    generalize leftP 1048576 (ts.length + szL l) = L1 at *
    clear HA1 hsz HLE
    have c0 := HB1.out.c0
    have c1 := HB1.out.c1
    go_wp2_with (at_builtin; fail)
    refine (toProgram_any _ _ ts l w.heap.size W1 HB1.out.ht HB1.out.hl HB1.out.bel.size hll).mono ?_
    rintro e W2 ⟨vt2, vb2, rfl, ht2, hl2, hb2⟩
    have HB2 := Lib.hid (HB1.out.bels hb2)
    have HT2 := Lib.hid (ht2.toS (by omega))
    have HL2 := Lib.hid hl2.toS
    clear ht2 hl2 hb2 c0 c1 HB1
    go_wp2_with (at_builtin; fail)
    refine (toIntS_any _ cs w.heap.size W2 (HC.out.low HB2.out.bel (Nat.le_refl _)) HB2.out.bel.size).mono ?_
    rintro e Wi ⟨vi, rfl, hvi, hbi⟩
    have HBi := Lib.hid (HB2.out.bels hbi)
    have HCi := Lib.hid (hvi.toS (by omega))
    have HTi := Lib.hid ((HT2.out.low hbi (Nat.le_refl _)).more hbi.size)
    have HLi := Lib.hid ((HL2.out.low hbi (Nat.le_refl _)).more hbi.size)
    clear hvi hbi HB2 HT2 HL2
    go_wp2_with (at_builtin; fail)
    refine (sNumbersRead_any _ _ _ ts l cs most Wi.heap.size Wi HTi.out HLi.out HCi.out (Nat.le_refl _) (by omega)).mono ?_
    obtain ⟨R, hR⟩ : ∃ R, R = numX ts l cs most := ⟨_, rfl⟩
    have hbnd := numX_len ts l cs most
    rw [← hR] at hbnd ⊢
    have HRE := Lib.hid hR
    clear hR
    obtain ⟨RL, en⟩ := R
    have HOKC := Lib.hid (show RL.length ≤ 1000 from hbnd)
    have hbnd : RL.length ≤ 1000 := hbnd
    have hee : (en != en) = false := by simp
    rintro e W3 ⟨v0, rfl, hv0, hb3⟩
    have HB3 := Lib.hid (HBi.out.bels hb3)
    have HV3 := Lib.hid hv0
    obtain ⟨A0, n0, rfl, -⟩ := hv0.slice
    have c0 := HB3.out.c0
    have c1 := HB3.out.c1
    clear hb3 hv0 HTi HLi HCi HBi
    go_wp2_with (at_builtin; fail)
    refine (toProgram_any _ _ ts l w.heap.size W3 HB3.out.ht HB3.out.hl HB3.out.bel.size hll).mono ?_
    rintro e W4 ⟨vt4, vb4, rfl, ht4, hl4, hb4⟩
    have HX5 := Lib.hid (XB.new ht4 hl4 hb4)
    have HB5 := Lib.hid ((HB3.out.bels hb4).bels (bel_a W4 (.cells #[vt4, vb4] 31)))
    have BL5 := Lib.hid (hb4.alloc hb4.size (.cells #[vt4, vb4] 31))
    obtain ⟨A4, n4, rfl, -⟩ := ht4.slice
    obtain ⟨b4, m4, rfl, -, -, -⟩ := hl4.slice
    clear ht4 hl4 hb4 c0 c1
    go_upto_region 9 with (at_builtin; fail)
    generalize hW5 : W4.alloc (.cells #[.slice A4 ts.length n4, .slice (some ⟨b4, 0, none⟩) l.length m4] 31) = W5 at *
    clear hW5
    obtain ⟨hi, hhi⟩ : ∃ hi, hi = W4.heap.size := ⟨_, rfl⟩
    obtain ⟨lo, hlo⟩ : ∃ lo, lo = W3.heap.size := ⟨_, rfl⟩
    rw [← hhi] at HX5 ⊢
    rw [← hlo] at HX5
    have BL5 : Hid (Below lo W3 W5) := Lib.hid (by rw [hlo]; exact BL5.out)
    have HLO : Hid (g < lo) := Lib.hid (by rw [hlo]; exact HB3.out.lt)
    have HL3 := Lib.hid hlo
    clear hhi hlo HB3
    go_wp2_with (at_builtin; fail)
    refine (toIntS_any _ cs w.heap.size W5 (HC.out.low HB5.out.bel (Nat.le_refl _)) HB5.out.bel.size).mono ?_
    rintro e W6 ⟨v6, rfl, hv6, hb6⟩
    have HB6 := Lib.hid (HB5.out.bels hb6)
    have HX6 := Lib.hid (HX5.out.bels hb6)
    have BL6 := Lib.hid (BL5.out.trans (hb6.mono (by have := HX5.out.lt; have := HX5.out.le; omega)))
    obtain ⟨bi, hbi⟩ : ∃ bi, bi = W5.heap.size := ⟨_, rfl⟩
    rw [← hbi] at hv6
    have HBI : Hid (hi < bi) := Lib.hid (by rw [hbi]; exact HX5.out.lt)
    have HQ6 := Lib.hid hv6
    obtain ⟨A6, c6, rfl, -⟩ := hv6.slice
    have HQB : Hid (∀ b, (Value.slice A6 cs.length c6).ownBlock = some b → bi ≤ b ∧ b < W6.heap.size) := Lib.hid fun b e => HQ6.out.own_lt e
    clear hv6 hb6 HB5 HX5 BL5 hbi
    have x0 := HX6.out.c0
    have x1 := HX6.out.c1
    go_wp2_with (at_builtin; fail)
    refine (iNumbersRead_any _ _ _ ts l cs most W6.heap.size W6 (HX6.out.rt (by omega)) HX6.out.rl (HQ6.out.toS (by omega)) (Nat.le_refl _) (by omega)).mono ?_
    rw [← HRE.out]
    rintro e W7 ⟨vg, rfl, hvg, hb7⟩
    have HB7 := Lib.hid (HB6.out.bels hb7)
    have HX7 := Lib.hid (HX6.out.bels hb7)
    have BL7 := Lib.hid (BL6.out.trans (hb7.mono (by have := HX6.out.lt; have := HX6.out.le; omega)))
    have HQ7 := Lib.hid (HQ6.out.bel hb7)
    obtain ⟨bs, hbs⟩ : ∃ bs, bs = W6.heap.size := ⟨_, rfl⟩
    rw [← hbs] at hvg HQB
    have HBS : Hid (hi < bs) := Lib.hid (by rw [hbs]; exact HX6.out.lt)
    have HO7 := Lib.hid hvg
    obtain ⟨Ag, ng, rfl, hng⟩ := hvg.slice
    clear hvg hb7 x0 x1 hbs HB6 HX6 BL6 HQ6
    have HLH : Hid (lo ≤ hi) := Lib.hid HX7.out.le
    have HLBS : Hid (lo ≤ bs) := Lib.hid (by have := HX7.out.le; have := HBS.out; omega)
    go_wp2_with (at_builtin; fail)
    refine (eqIntS_any _ _ RL _ _ W7 (HO7.out.toS (by omega)) ((HV3.out.bel (HL3.out ▸ BL7.out)).toS (by omega))).mono ?_
    rintro e W8 ⟨rfl, hb8⟩
    have HLE7 : Hid (lo ≤ W7.heap.size) := Lib.hid (by have := HX7.out.lt; have := HX7.out.le; omega)
    have HB8 := Lib.hid (HB7.out.bels hb8)
    have BL8 := Lib.hid (BL7.out.trans (hb8.mono HLE7.out))
    have HO8 := Lib.hid (HO7.out.bel hb8)
    have HLE8 : Hid (lo ≤ W8.heap.size) := Lib.hid (Nat.le_trans HLE7.out hb8.size)
    have HX8 := Lib.hid (HX7.out.bels hb8)
    have HQ8 := Lib.hid (HQ7.out.bel hb8)
    clear HB7 BL7 HO7 HLE7 HX7 HQ7
    clear hb8
    have c0 := HB8.out.c0
    have c1 := HB8.out.c1
    have x0 := HX8.out.c0
    have x1 := HX8.out.c1
    have hlt7 := HB8.out.lt
    have hlx7 := HX8.out.lt
    go_wp2_with (at_builtin; fail)
    have BEL : Hid (∀ w', w'.cell? ⟨g, 0, none⟩ = some (.slice At ts.length ct) ∧ w'.cell? ⟨g, 1, none⟩ = some (.slice Ab l.length cb) ∧ w'.cell? ⟨hi, 0, none⟩ = some (.slice A4 ts.length n4) ∧ w'.cell? ⟨hi, 1, none⟩ = some (.slice (some ⟨b4, 0, none⟩) l.length m4) ∧ Below W8.heap.size W8 w' → Below W8.heap.size W8 w') := Lib.hid fun _ h => h.2.2.2.2
    refine wp_region_held_drew (S := (fun w' => w'.cell? ⟨g, 0, none⟩ = some (.slice At ts.length ct) ∧ w'.cell? ⟨g, 1, none⟩ = some (.slice Ab l.length cb) ∧ w'.cell? ⟨hi, 0, none⟩ = some (.slice A4 ts.length n4) ∧ w'.cell? ⟨hi, 1, none⟩ = some (.slice (some ⟨b4, 0, none⟩) l.length m4) ∧ Below W8.heap.size W8 w')) (by kernel_rfl) ?_ (fun hHeld => ?_)
    · exact ⟨c0, c1, x0, x1, (Below.refl _ _).drew⟩
    refine wpAnyH_take (i := 0) (oi := ⟨some 56, _, _, _, _, _⟩) (v := ?_) rfl (by kernel_rfl) (by kernel_rfl) (by kernel_rfl) (fun _ _ _ h => h) (Or.inl ⟨by rfl, fun w' hSw => ?_⟩) (by assumption) ?_
    rotate_left
    · (try dsimp only at hSw); go_simp; (try with_reducible rfl)
    (try simp only [Act.put, List.setIfInBounds_toArray, List.set_cons_zero, List.set_cons_succ])
    refine wpAnyH_take (i := 1) (oi := ⟨some 57, _, _, _, _, _⟩) (v := ?_) rfl (by kernel_rfl) (by kernel_rfl) (by kernel_rfl) (fun _ _ _ h => h) (Or.inl ⟨by rfl, fun w' hSw => ?_⟩) (by assumption) ?_
    rotate_left
    · (try dsimp only at hSw); go_simp; (try with_reducible rfl)
    (try simp only [Act.put, List.setIfInBounds_toArray, List.set_cons_zero, List.set_cons_succ])
    refine wpAnyH_ready (rs := [2]) (by kernel_rfl) (by simp) ?_
    refine AllReadyH.cons (o := ⟨some 58, _, _, _, _, _⟩) rfl (fun K hK => ?_) AllReadyH.nil
    go_simp
    (refine (toProgram_any _ _ ts l w.heap.size _ ((HB8.out.bels (show Below W8.heap.size W8 _ from (BEL.out _ (by assumption)))).ht) ((HB8.out.bels (show Below W8.heap.size W8 _ from (BEL.out _ (by assumption)))).hl) ((HB8.out.bels (show Below W8.heap.size W8 _ from (BEL.out _ (by assumption)))).bel.size) hll).mono ?_)
    (rintro e w8 ⟨vt8, vb8, rfl, ht8, hl8, hb8⟩)
    (have BX8 := Lib.hid ((BEL.out _ (by assumption)).trans (hb8.mono (BEL.out _ (by assumption)).size)))
    (have HT8 := Lib.hid (ht8.toS (by omega)))
    (have HL8 := Lib.hid hl8.toS)
    clear ht8 hl8 hb8
    go_simp
    refine hK.out _ _ ?_ (fun hHeld => ?_)
    · exact ⟨(BX8.out.cell (p := ⟨g, 0, none⟩) hlt7).trans c0, (BX8.out.cell (p := ⟨g, 1, none⟩) hlt7).trans c1, (BX8.out.cell (p := ⟨hi, 0, none⟩) hlx7).trans x0, (BX8.out.cell (p := ⟨hi, 1, none⟩) hlx7).trans x1, BX8.out⟩
    clear hK K
    (try simp only [Act.put, List.setIfInBounds_toArray, List.set_cons_zero, List.set_cons_succ])
    refine wpAnyH_ready (rs := [3]) (by kernel_rfl) (by simp) ?_
    refine AllReadyH.cons (o := ⟨some 59, _, _, _, _, _⟩) rfl (fun K hK => ?_) AllReadyH.nil
    go_simp
    (have BY := (BEL.out _ (by assumption)))
    (refine (eqProgram_any _ _ _ _ ts l _ _ (((HX8.out.bels BX8.out).rt (by omega))) ((HX8.out.bels BX8.out).rl) HT8.out HL8.out (Nat.le_refl _) (by omega)).mono ?_)
    (rintro e w9 ⟨rfl, hb9⟩)
    (have BX9 := Lib.hid (BX8.out.trans (hb9.mono BX8.out.size)))
    clear hb9
    go_simp
    refine hK.out _ _ ?_ (fun hHeld => ?_)
    · exact ⟨(BX9.out.cell (p := ⟨g, 0, none⟩) hlt7).trans c0, (BX9.out.cell (p := ⟨g, 1, none⟩) hlt7).trans c1, (BX9.out.cell (p := ⟨hi, 0, none⟩) hlx7).trans x0, (BX9.out.cell (p := ⟨hi, 1, none⟩) hlx7).trans x1, BX9.out⟩
    clear hK K
    (try simp only [Act.put, List.setIfInBounds_toArray, List.set_cons_zero, List.set_cons_succ])
    refine wpAnyH_take (i := 4) (oi := ⟨some 60, _, _, _, _, _⟩) (v := ?_) rfl (by kernel_rfl) (by kernel_rfl) (by kernel_rfl) (fun _ _ _ h => h) (Or.inl ⟨by rfl, fun w' hSw => ?_⟩) (by assumption) ?_
    rotate_left
    · (try dsimp only at hSw); go_simp; (try with_reducible rfl)
    (try simp only [Act.put, List.setIfInBounds_toArray, List.set_cons_zero, List.set_cons_succ])
    refine wpAnyH_done (by kernel_rfl) ?_ _
    have HB9 := Lib.hid (HB8.out.bels BX9.out)
    have BL9 := Lib.hid (BL8.out.trans (BX9.out.mono HLE8.out))
    have HO9 := Lib.hid (HO8.out.bel BX9.out)
    have HLE9 : Hid (lo ≤ w9.heap.size) := Lib.hid (Nat.le_trans HLE8.out BX9.out.size)
    have HX9 := Lib.hid (HX8.out.bels BX9.out)
    have HQ9 := Lib.hid (HQ8.out.bel BX9.out)
    clear HB8 BL8 HO8 HLE8 HX8 HQ8
    clear c0 c1 x0 x1 BEL BX8 BX9 BY HT8 HL8 hHeld hlt7 hlx7
    go_wp2_with (at_builtin; fail)
    refine (toIntS_any _ cs w.heap.size w9 (HC.out.low HB9.out.bel (Nat.le_refl _)) HB9.out.bel.size).mono ?_
    rintro e wa ⟨va, rfl, hva, hba⟩
    have HBa := Lib.hid (HB9.out.bels hba)
    have BLa := Lib.hid (BL9.out.trans (hba.mono HLE9.out))
    have HOa := Lib.hid (HO9.out.bel hba)
    have HLEa : Hid (lo ≤ wa.heap.size) := Lib.hid (Nat.le_trans HLE9.out hba.size)
    have HXa := Lib.hid (HX9.out.bels hba)
    have HQa := Lib.hid (HQ9.out.bel hba)
    clear HB9 BL9 HO9 HLE9 HX9 HQ9
    have HDa := Lib.hid (hva.toS (by omega))
    clear hva hba
    go_wp2_with (at_builtin; fail)
    refine (eqIntS_any _ _ cs _ _ wa (HQa.out.toS (by omega)) HDa.out).mono ?_
    rintro e wb ⟨rfl, hbb⟩
    have HBb := Lib.hid (HBa.out.bels hbb)
    have BLb := Lib.hid (BLa.out.trans (hbb.mono HLEa.out))
    have HOb := Lib.hid (HOa.out.bel hbb)
    have HLEb : Hid (lo ≤ wb.heap.size) := Lib.hid (Nat.le_trans HLEa.out hbb.size)
    have HXb := Lib.hid (HXa.out.bels hbb)
    have HQb := Lib.hid (HQa.out.bel hbb)
    clear HBa BLa HOa HLEa HXa HQa
    clear hbb HDa
    have x0 := HXb.out.c0
    have x1 := HXb.out.c1
    go_wp2_with (at_builtin; fail)
    refine (markProgram_any _ _ ts l lo _ true 1 wb HXb.out.ht HXb.out.hl (by omega) (by omega)).mono ?_
    rintro e wc ⟨rfl, hca⟩
    have HCA := Lib.hid (hca.bel HLEb.out fun b hb => (HXb.out.q b hb).1)
    have HBc := Lib.hid (HBb.out.low HCA.out HLO.out)
    have BLc := Lib.hid (BLb.out.trans HCA.out)
    have HOc := Lib.hid (HOb.out.move (Nat.le_refl _) fun b h1 h2 => hca.oth b h2 fun hp => by have := (HXb.out.q b hp).2; have := HBS.out; omega)
    have HQc := Lib.hid (HQb.out.move (Nat.le_refl _) fun b h1 h2 => hca.oth b h2 fun hp => by have := (HXb.out.q b hp).2; have := HBI.out; omega)
    have HLEc : Hid (lo ≤ wc.heap.size) := Lib.hid (Nat.le_trans HLEb.out HCA.out.size)
    clear hca x0 x1 HBb HXb BLb HOb HLEb HCA HQb
    have hK1 : 1 ≤ 1 + (ts.length : Int) + 4 * (szL l : Int) ∧ 1 + (ts.length : Int) + 4 * (szL l : Int) ≤ 10000000 := by omega
    generalize 1 + (ts.length : Int) + 4 * (szL l : Int) = K at *
    go_wp2_with (at_builtin; fail)
    refine (markIntS_any _ cs K bi wc HQc.out (by omega) (by omega)).mono ?_
    rintro e wd ⟨rfl, hqd, hmd⟩
    have HMD := Lib.hid (HQc.out.ownMk hmd (show lo ≤ bi by have := HBI.out; have := HLBS.out; have := HLH.out; omega))
    have HBd := Lib.hid (HBc.out.low HMD.out HLO.out)
    have BLd := Lib.hid (BLc.out.trans HMD.out)
    have HOd := Lib.hid (HOc.out.move (Nat.le_refl _) fun b h1 h2 => hmd.oth b fun hp => by have := (HQB.out b hp).2; omega)
    have HLEd : Hid (lo ≤ wd.heap.size) := Lib.hid (by rw [hmd.size]; exact HLEc.out)
    clear hqd hmd HBc BLc HOc HLEc HQc HMD
    have hk0 : ¬ (K + (cs.length : Int) < 0) := by omega
    generalize K + (cs.length : Int) = K2 at *
    go_wp2_with (at_builtin; fail)
    refine (eqIntS_any _ _ RL _ _ wd (HOd.out.toS (by omega)) ((HV3.out.bel (HL3.out ▸ BLd.out)).toS (by omega))).mono ?_
    rintro e we ⟨rfl, hbe⟩
    have HBe := Lib.hid (HBd.out.bels hbe)
    have BLe := Lib.hid (BLd.out.trans (hbe.mono HLEd.out))
    have HOe := Lib.hid (HOd.out.bel hbe)
    have HLEe : Hid (lo ≤ we.heap.size) := Lib.hid (Nat.le_trans HLEd.out hbe.size)
    clear HBd BLd HOd HLEd
    clear hbe
    go_wp2_with (at_builtin; fail)
    refine (markIntS_any _ RL 1 bs we HOe.out (by omega) (by omega)).mono ?_
    rintro e wf ⟨rfl, hof, hmf⟩
    have HMF := Lib.hid (HOe.out.ownMk hmf HLBS.out)
    have HBf := Lib.hid (HBe.out.low HMF.out HLO.out)
    have BLf := Lib.hid (BLe.out.trans HMF.out)
    have HOf := Lib.hid hof
    have HLEf : Hid (lo ≤ wf.heap.size) := Lib.hid (by rw [hmf.size]; exact HLEe.out)
    have c0 := HBf.out.c0
    have c1 := HBf.out.c1
    clear hof hmf HMF HBe BLe HOe HLEe
    obtain ⟨M, hM⟩ : ∃ M : Int, M = 1 + (RL.length : Int) := ⟨_, rfl⟩
    have HM := Lib.hid hM
    rw [← hM]
    have hne : (M != M) = false := by simp
    have hnn : ¬ (M < 0) := by omega
    clear hM
    go_wp2_with (at_builtin; fail)
    refine (heldIntS_any _ RL.length 1 _ wf (HOf.out.toS (by rw [upto_len]; omega)) (by omega) (by omega)).mono ?_
    rw [← HM.out]
    rintro e wz ⟨rfl, rfl⟩
    go_wp2_with (at_builtin; fail)
    refine (toProgram_any _ _ ts l w.heap.size wf HBf.out.ht HBf.out.hl HBf.out.bel.size hll).mono ?_
    rintro e wh ⟨vth, vbh, rfl, hth, hlh, hbh⟩
    have HBh := Lib.hid (HBf.out.bels hbh)
    have BLh := Lib.hid (BLf.out.trans (hbh.mono HLEf.out))
    have HOh := Lib.hid (HOf.out.bel hbh)
    have HLEh : Hid (lo ≤ wh.heap.size) := Lib.hid (Nat.le_trans HLEf.out hbh.size)
    clear HBf BLf HOf HLEf
    have HTh := Lib.hid (hth.toS (by omega))
    have HLh := Lib.hid hlh.toS
    clear hth hlh hbh c0 c1
    go_wp2_with (at_builtin; fail)
    refine (toIntS_any _ cs w.heap.size wh (HC.out.low HBh.out.bel (Nat.le_refl _)) HBh.out.bel.size).mono ?_
    rintro e wi ⟨vi, rfl, hvi, hbi⟩
    have HBi := Lib.hid (HBh.out.bels hbi)
    have BLi := Lib.hid (BLh.out.trans (hbi.mono HLEh.out))
    have HOi := Lib.hid (HOh.out.bel hbi)
    have HLEi : Hid (lo ≤ wi.heap.size) := Lib.hid (Nat.le_trans HLEh.out hbi.size)
    clear HBh BLh HOh HLEh
    have HDi := Lib.hid (hvi.toS (by omega))
    have HTi := Lib.hid ((HTh.out.low hbi (Nat.le_refl _)).more hbi.size)
    have HLi := Lib.hid ((HLh.out.low hbi (Nat.le_refl _)).more hbi.size)
    clear hvi hbi HTh HLh
    go_wp2_with (at_builtin; fail)
    refine (iNumbersRead_any _ _ _ ts l cs most wi.heap.size wi HTi.out HLi.out HDi.out (Nat.le_refl _) (by omega)).mono ?_
    rw [← HRE.out]
    rintro e wj ⟨vj, rfl, hvj, hbj⟩
    have HBj := Lib.hid (HBi.out.bels hbj)
    have BLj := Lib.hid (BLi.out.trans (hbj.mono HLEi.out))
    have HOj := Lib.hid (HOi.out.bel hbj)
    have HLEj : Hid (lo ≤ wj.heap.size) := Lib.hid (Nat.le_trans HLEi.out hbj.size)
    clear HBi BLi HOi HLEi
    have HJ := Lib.hid hvj
    obtain ⟨Aj, nj, rfl, hnj⟩ := hvj.slice
    clear hvj hbj HDi HTi HLi
    go_wp2_with (at_builtin; fail)
    refine (eqIntS_any _ _ RL _ _ wj (HJ.out.toS (by omega)) ((HV3.out.bel (HL3.out ▸ BLj.out)).toS (by omega))).mono ?_
    rintro e wk ⟨rfl, hbk⟩
    have HBk := Lib.hid (HBj.out.bels hbk)
    have BLk := Lib.hid (BLj.out.trans (hbk.mono HLEj.out))
    have HOk := Lib.hid (HOj.out.bel hbk)
    have HLEk : Hid (lo ≤ wk.heap.size) := Lib.hid (Nat.le_trans HLEj.out hbk.size)
    clear HBj BLj HOj HLEj
    clear hbk
    go_wp2_with (at_builtin; fail)
    refine (heldIntS_any _ RL.length 1 _ wk (HOk.out.toS (by rw [upto_len]; omega)) (by omega) (by omega)).mono ?_
    rw [← HM.out]
    rintro e wl ⟨rfl, rfl⟩
    go_wp2_with (at_builtin; fail)
    go_ret
    exact ⟨rfl, HBk.out.bel⟩

end Go.Proofs.YtfioaohadanjmaaGreat

/- A law's argument of type Program, read as data, is what the walks of the exact laws ask. -/
namespace Go.Proofs.YtfioaohadanjmaaGreat
open Go.RowKit Go.ChangeShapes

theorem Tryz.cellsLS : Tryz.prog.cellsOf 88 = 6 := by kernel_rfl
theorem Tryz.cellsLI : Tryz.prog.cellsOf 3 = 1 := by kernel_rfl
theorem Tryz.cellsLL : Tryz.prog.cellsOf 23 = 1 := by kernel_rfl
theorem Tryz.cellsLIS : Tryz.prog.cellsOf 22 = 1 := by kernel_rfl
theorem Tryz.cellsLP : Tryz.prog.cellsOf 25 = 2 := by kernel_rfl
theorem cells_at {w : World} {a : Addr} {n : Nat} {cs : List Value} (h : w.cells? 0 a n = some cs) {j : Nat} (hj : j < n) : w.cell? (a.add j) = cs[j]? := by
  unfold World.cells? at h
  rw [if_pos (Nat.zero_le _)] at h
  exact mapM_some_get h j j (by simp [hj])
theorem add_at {b off i j : Nat} : ((⟨b, off, none⟩ : Addr).add i).add j = ⟨b, off + i + j, none⟩ := by
  unfold Addr.add
  by_cases hi : i = 0 <;> by_cases hj : j = 0 <;> simp [hi, hj, Nat.add_assoc]
section
variable {H : Type} {enc : TypeId × Value → H} {w : World} {sp : Nat → Bool} {held : Bool}
set_option maxRecDepth 100000 in
theorem trod_stmt {fuel : Nat} {cs : List Value} {x : DataW H × List MemPlace} (h : DataW.trod enc Tryz.prog w 0 sp held fuel 88 cs = some x) :
    ∃ n c4 c5 x4 x5, ∃ z0 z1 z2 z3 : Int, fuel = n + 1 ∧ cs = [.int .i64 z0, .int .i64 z1, .int .i64 z2, .int .i64 z3, c4, c5] ∧ DataW.trod enc Tryz.prog w 0 sp held n 23 [c4] = some x4 ∧ DataW.trod enc Tryz.prog w 0 sp held n 23 [c5] = some x5 := by
  obtain ⟨xs, n, rfl, -, hlen, hxl, hf⟩ := DataW.trod_struct Tryz.underlying88 h
  rw [Tryz.cellsLS] at hlen
  have hx6 : xs.length = 6 := hxl
  match cs, hlen with
  | [c0, c1, c2, c3, c4, c5], _ =>
    have f0 : DataW.trod enc Tryz.prog w 0 sp held n 3 (List.take (Tryz.prog.cellsOf 3) [c0, c1, c2, c3, c4, c5]) = xs[0]? := hf 0 _ rfl
    rw [Tryz.cellsLI, List.getElem?_eq_getElem (by omega)] at f0
    have f1 : DataW.trod enc Tryz.prog w 0 sp held n 3 (List.take (Tryz.prog.cellsOf 3) [c1, c2, c3, c4, c5]) = xs[1]? := hf 1 _ rfl
    rw [Tryz.cellsLI, List.getElem?_eq_getElem (by omega)] at f1
    have f2 : DataW.trod enc Tryz.prog w 0 sp held n 3 (List.take (Tryz.prog.cellsOf 3) [c2, c3, c4, c5]) = xs[2]? := hf 2 _ rfl
    rw [Tryz.cellsLI, List.getElem?_eq_getElem (by omega)] at f2
    have f3 : DataW.trod enc Tryz.prog w 0 sp held n 3 (List.take (Tryz.prog.cellsOf 3) [c3, c4, c5]) = xs[3]? := hf 3 _ rfl
    rw [Tryz.cellsLI, List.getElem?_eq_getElem (by omega)] at f3
    have f4 : DataW.trod enc Tryz.prog w 0 sp held n 23 (List.take (Tryz.prog.cellsOf 23) [c4, c5]) = xs[4]? := hf 4 _ rfl
    rw [Tryz.cellsLL, List.getElem?_eq_getElem (by omega)] at f4
    have f5 : DataW.trod enc Tryz.prog w 0 sp held n 23 (List.take (Tryz.prog.cellsOf 23) [c5]) = xs[5]? := hf 5 _ rfl
    rw [Tryz.cellsLL, List.getElem?_eq_getElem (by omega)] at f5
    obtain ⟨z0, e0, -⟩ := DataW.trod_int Tryz.underlying3 f0
    have e0 : c0 = _ := (List.cons.inj e0).1
    subst e0
    obtain ⟨z1, e1, -⟩ := DataW.trod_int Tryz.underlying3 f1
    have e1 : c1 = _ := (List.cons.inj e1).1
    subst e1
    obtain ⟨z2, e2, -⟩ := DataW.trod_int Tryz.underlying3 f2
    have e2 : c2 = _ := (List.cons.inj e2).1
    subst e2
    obtain ⟨z3, e3, -⟩ := DataW.trod_int Tryz.underlying3 f3
    have e3 : c3 = _ := (List.cons.inj e3).1
    subst e3
    exact ⟨n, c4, c5, _, _, z0, z1, z2, z3, rfl, rfl, f4, f5⟩
theorem StS.none (w : World) (B : Nat) : StS w B (.slice none 0 0) [] :=
  .mk _ 0 [] (fun _ => undef) (fun _ => undef) (Nat.le_refl _) (fun h => by simp at h) (fun i h => by simp at h) fun i h => by simp at h
theorem Lens.nil : Lens [] := .mk _ (Nat.zero_le _) (fun i h => by simp at h) fun i h => by simp at h
theorem read_stmts (fuel : Nat) : ∀ (cs : List Value) (x : DataW H × List MemPlace), DataW.trod enc Tryz.prog w 0 sp held fuel 23 cs = some x → ∃ v l, cs = [v] ∧ StS w w.heap.size v l ∧ Lens l := by
  induction fuel using Nat.strongRecOn with
  | _ fuel ih =>
    intro cs x h
    rcases DataW.trod_slice Tryz.underlying23 h with ⟨rfl, -⟩ | ⟨a, len, cap, elems, rest, n, rfl, rfl, -, -, hlc, hcm, hel, hi, -⟩
    · exact ⟨_, [], rfl, StS.none _ _, Lens.nil⟩
    · rw [Tryz.cellsLS] at hi
      by_cases h0 : len = 0
      · subst h0
        exact ⟨_, [], rfl, .mk _ cap [] (fun _ => undef) (fun _ => undef) (Nat.zero_le _) (fun h => by simp at h) (fun i h => by simp at h) fun i h => by simp at h, Lens.nil⟩
      · have key : ∀ i, i < len → ∃ q : St × Value × Value, (w.cell? ((a.add (i * 6)).add 0) = some (.int .i64 q.1.op) ∧ w.cell? ((a.add (i * 6)).add 1) = some (.int .i64 q.1.x) ∧ w.cell? ((a.add (i * 6)).add 2) = some (.int .i64 q.1.y) ∧ w.cell? ((a.add (i * 6)).add 3) = some (.int .i64 q.1.n) ∧ w.cell? ((a.add (i * 6)).add 4) = some q.2.1 ∧ w.cell? ((a.add (i * 6)).add 5) = some q.2.2) ∧ StS w w.heap.size q.2.1 q.1.th ∧ StS w w.heap.size q.2.2 q.1.el ∧ Lens q.1.th ∧ Lens q.1.el := by
          intro i hil
          have hb := hi i hil
          rw [List.getElem?_eq_getElem (by omega)] at hb
          obtain ⟨cs', h1, h2⟩ := Option.bind_eq_some_iff.1 hb
          obtain ⟨n', c4, c5, x4, x5, z0, z1, z2, z3, rfl, rfl, t4, t5⟩ := trod_stmt h2
          obtain ⟨v4, l4, e4, s4, n4⟩ := ih n' (by omega) _ _ t4
          obtain ⟨v5, l5, e5, s5, n5⟩ := ih n' (by omega) _ _ t5
          simp only [List.cons.injEq, and_true] at e4 e5
          subst e4 e5
          refine ⟨(.mk z0 z1 z2 z3 l4 l5, c4, c5), ⟨?_, ?_, ?_, ?_, ?_, ?_⟩, s4, s5, n4, n5⟩ <;> rw [cells_at h1 (by omega)] <;> rfl
        haveI : Inhabited (St × Value × Value) := ⟨(.mk 0 0 0 0 [] [], undef, undef)⟩
        obtain ⟨f, hf⟩ := Go.Deep.choose_lt key
        obtain ⟨b, off, spot⟩ := a
        have hspot : spot = none := by
          have := (hf 0 (by omega)).1.1
          have := World.cell?_spot this
          simpa [Addr.add] using this
        subst hspot
        have hlt : b < w.heap.size := by
          have hc := (hf 0 (by omega)).1.1
          rcases Nat.lt_or_ge b w.heap.size with h | h
          · exact h
          · simp [Addr.add, World.cell?, Array.getElem?_eq_none h] at hc
        simp only [add_at] at hf
        have hl : ((List.range len).map fun i => (f i).1).length = len := by simp
        refine ⟨_, (List.range len).map fun i => (f i).1, by simp, .mk _ cap _ (fun i => (f i).2.1) (fun i => (f i).2.2) (by rw [hl]; exact hlc) (fun _ => ⟨b, off, rfl, hlt, fun i hi' => ?_⟩) (fun i hi' => ?_) (fun i hi' => ?_), .mk _ (by rw [hl]; omega) (fun i hi' => ?_) fun i hi' => ?_⟩
        all_goals
          have hi2 : i < len := by simpa using hi'
          have e : ((List.range len).map fun i => (f i).1)[i]'hi' = (f i).1 := by simp
          rw [e]
        · exact (hf i hi2).1
        · exact (hf i hi2).2.1
        · exact (hf i hi2).2.2.1
        · exact (hf i hi2).2.2.2.1
        · exact (hf i hi2).2.2.2.2
theorem read_ints {fuel : Nat} {cs : List Value} {x : DataW H × List MemPlace} (h : DataW.trod enc Tryz.prog w 0 sp held fuel 22 cs = some x) : ∃ v l, cs = [v] ∧ AnI w w.heap.size v l := by
  rcases DataW.trod_slice Tryz.underlying22 h with ⟨rfl, -⟩ | ⟨a, len, cap, elems, rest, n, rfl, rfl, -, -, hlc, hcm, hel, hi, -⟩
  · exact ⟨_, [], rfl, _, 0, rfl, Nat.le_refl _, Nat.zero_le _, Rd.nil⟩
  · rw [Tryz.cellsLI] at hi
    by_cases h0 : len = 0
    · subst h0
      exact ⟨_, [], rfl, _, cap, rfl, Nat.zero_le _, Nat.zero_le _, Rd.nil⟩
    · have key : ∀ i, i < len → ∃ z : Int, w.cell? ((a.add (i * 1)).add 0) = some (.int .i64 z) := by
        intro i hil
        have hb := hi i hil
        rw [List.getElem?_eq_getElem (by omega)] at hb
        obtain ⟨cs', h1, h2⟩ := Option.bind_eq_some_iff.1 hb
        obtain ⟨z, rfl, -⟩ := DataW.trod_int Tryz.underlying3 h2
        exact ⟨z, by rw [cells_at h1 (by omega)]; rfl⟩
      obtain ⟨f, hf⟩ := Go.Deep.choose_lt key
      obtain ⟨b, off, spot⟩ := a
      have hspot : spot = none := by
        have := World.cell?_spot (hf 0 (by omega))
        simpa [Addr.add] using this
      subst hspot
      have hlt : b < w.heap.size := by
        have hc := hf 0 (by omega)
        rcases Nat.lt_or_ge b w.heap.size with h | h
        · exact h
        · simp [Addr.add, World.cell?, Array.getElem?_eq_none h] at hc
      simp only [add_at, Nat.mul_one, Nat.add_zero] at hf
      have hl : ((List.range len).map f).length = len := by simp
      refine ⟨_, (List.range len).map f, by simp, _, cap, rfl, by rw [hl]; exact hlc, by rw [hl]; omega, by simp, fun _ => ⟨b, off, rfl, hlt, fun j u hu => ?_⟩⟩
      have hj : j < len := by
        rcases Nat.lt_or_ge j len with h | h
        · exact h
        · rw [List.getElem?_eq_none (by simpa using h)] at hu; cases hu
      rw [hf j hj]
      simpa [hj] using hu
set_option maxRecDepth 100000 in
/-- a Program -/
theorem read_program {fuel : Nat} {v : Value} {x : DataW H × List MemPlace} (hv : ∃ cs, v = .agg cs) (h : DataW.trod enc Tryz.prog w 0 sp held fuel 25 v.cells.toList = some x) : ∃ vt vb ts l, v = .agg #[vt, vb] ∧ AnI w w.heap.size vt ts ∧ StS w w.heap.size vb l ∧ Lens l := by
  obtain ⟨cs, rfl⟩ := hv
  obtain ⟨cl⟩ := cs
  obtain ⟨xs, n, rfl, -, hlen, hxl, hf⟩ := DataW.trod_struct Tryz.underlying25 h
  rw [Tryz.cellsLP] at hlen
  have hx2 : xs.length = 2 := hxl
  simp only [Value.cells] at hlen hf
  match cl, hlen with
  | [c0, c1], _ =>
    have f0 : DataW.trod enc Tryz.prog w 0 sp held n 22 (List.take (Tryz.prog.cellsOf 22) [c0, c1]) = xs[0]? := hf 0 _ rfl
    have f1 : DataW.trod enc Tryz.prog w 0 sp held n 23 (List.take (Tryz.prog.cellsOf 23) [c1]) = xs[1]? := hf 1 _ rfl
    rw [Tryz.cellsLIS, List.getElem?_eq_getElem (by omega)] at f0
    rw [Tryz.cellsLL, List.getElem?_eq_getElem (by omega)] at f1
    obtain ⟨v0, ts, e0, hi⟩ := read_ints f0
    obtain ⟨v1, l, e1, hs, hn⟩ := read_stmts n _ _ f1
    have e0 : c0 = v0 := (List.cons.inj e0).1
    have e1 : c1 = v1 := (List.cons.inj e1).1
    subst e0 e1
    exact ⟨_, _, ts, l, rfl, hi, hs, hn⟩
theorem int_wf {z : Int} {d : DataW H} {p : List MemPlace} (h : DataW.Trod enc Tryz.prog w 0 sp held 3 (.int .i64 z) d p) : -9223372036854775808 ≤ z ∧ z ≤ 9223372036854775807 := by
  obtain ⟨m, hm⟩ := h
  obtain ⟨n, e, -, hw⟩ := DataW.trod_int Tryz.underlying3 hm
  have e2 : z = n := by simpa [Value.cells] using e
  subst e2
  simp only [Lit.wf, Bool.and_eq_true, decide_eq_true_eq] at hw
  exact hw
end

end Go.Proofs.YtfioaohadanjmaaGreat
