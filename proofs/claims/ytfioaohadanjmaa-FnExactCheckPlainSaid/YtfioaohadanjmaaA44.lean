import Derived.Test.YtfioaohadanjmaaA43
import Derived.Test.YtfioaohadanjmaaA15
set_option linter.unusedVariables false

/- Issues: impl.CheckProgram, impl.CheckPlain. -/
namespace Go.Proofs.Ytfioaohadanjmaa
open Go.RowKit

theorem chkRes_len (ts : List Int) (l : List St) : (chkRes ts l).length ≤ 5000 := by
  unfold chkRes
  split
  · rename_i hv
    have G := Good.of_valid hv
    have h6 := G.h6
    have hl := G.len
    have h1 := chkL_le ts (ptsP l) (LvN ts (ptsP l)) (ptsP l).length
    have h2 : (ptsP l).length * (ts.length + (ptsP l).length) ≤ 61 * 67 := Nat.mul_le_mul (by omega) (by omega)
    omega
  · simp
theorem plainRes_len (ts : List Int) (l : List St) : (plainRes ts l).length ≤ 5000 := by
  unfold plainRes
  split
  · rename_i hv
    have G := Good.of_valid hv
    have h6 := G.h6
    have hl := G.len
    have h1 := chkL_le ts (ptsP l) (LvVal ts (ptsP l)) (ptsP l).length
    have h2 : (ptsP l).length * (ts.length + (ptsP l).length) ≤ 61 * 67 := Nat.mul_le_mul (by omega) (by omega)
    omega
  · simp
theorem fwd_small {ts : List Int} {pts : List Pt} (h6 : ts.length ≤ 6) (k : Nat) : fwdM false ts pts 0 k < 64 := Nat.lt_of_lt_of_le (bm_lt _ _) (Nat.pow_le_pow_right (n := 2) (by omega) h6)
theorem valP_lt6 {ts : List Int} {p : Pt} {m : Nat} (h : setsP p.op p.x < 6) : valP ts p m < 64 := by
  unfold valP
  exact Nat.or_lt_two_pow (n := 6) (andn_lt _ _) (setBitP_lt h)
set_option maxHeartbeats 1000000 in
theorem iCheckProgram_any (vt vb : Value) (ts : List Int) (l : List St) (B : Nat) (w : World) (ht : IntS w B vt ts) (hl : StS w B vb l) (hB : B ≤ w.heap.size) (hsz : szL l ≤ 4194300) :
    Calls Try.prog 31 #[.agg #[vt, vb]] w (CkRet w (chkRes ts l)) := by
  go_enter Try.func31, Try.ntmps31
  go_wp2_with fail
  refine (graphOf_any vt vb _ ts l [] w.heap.size _ ((ht.low (bel_a _ _) hB).more hB) ((hl.low (bel_a _ _) hB).more hB) ((OInts.nil w 0).toS (by simp) |>.low (bel_a _ _) (Nat.le_refl _)) (by simp) hsz).mono ?_
  rintro e w1 ⟨vg, rfl, hgr, hb1⟩
  have HB3 := Lib.hid ((bel_a _ _).trans (hb1.mono (by simp)))
  rw [graphOk_nil] at hgr ⊢
  clear hb1
  cases hok : validP ts l
  · have HRES : Hid (chkRes ts l = []) := Lib.hid (by unfold chkRes; rw [hok]; rfl)
    clear hok hgr
    go_wp2_with fail
    go_ret
    exact ⟨_, rfl, by rw [HRES.out]; exact OIs.nil _ _, HB3.out⟩
  · have G := Good.of_valid hok
    have HGG := Lib.hid (hgr hok)
    have HRES : Hid (chkRes ts l = chkL ts (ptsP l) (LvN ts (ptsP l)) (ptsP l).length) := Lib.hid (by unfold chkRes; rw [if_pos hok])
    clear hok hgr
    go_wp2_with fail
    refine (issues_any vg ts (ptsP l) _ _ HGG.out (Nat.le_refl _) G).mono ?_
    rintro e w2 ⟨v2, rfl, hi2, hb2⟩
    go_wp2_with fail
    go_ret
    exact ⟨v2, rfl, by rw [HRES.out]; exact hi2.base HB3.out.size, HB3.out.trans (hb2.mono HB3.out.size)⟩
theorem Try.enterPlainF (args : Array Value) (w : World) : (callFunc 49 args).run Try.prog w = .ok (.enter 49 args) w := by kernel_rfl
set_option maxHeartbeats 4000000 in
set_option maxRecDepth 100000 in
theorem iCheckPlain_any (vt vb : Value) (ts : List Int) (l : List St) (B : Nat) (w : World) (ht : IntS w B vt ts) (hl : StS w B vb l) (hB : B ≤ w.heap.size) (hsz : szL l ≤ 4194300) :
    Calls Try.prog 19 #[.agg #[vt, vb]] w (CkRet w (plainRes ts l)) := by
  have hmf : ∀ (fn : Fn) (first cap : Array Value) (w : World), (Instr.makeFunc fn first cap).run Try.prog w = .ok (.func fn first cap) w := fun _ _ _ _ => rfl
  go_enter Try.func19, Try.ntmps19
  go_wp2_with fail
  refine (graphOf_any vt vb _ ts l [] w.heap.size _ ((ht.low (bel_a _ _) hB).more hB) ((hl.low (bel_a _ _) hB).more hB) ((OInts.nil w 0).toS (by simp) |>.low (bel_a _ _) (Nat.le_refl _)) (by simp) hsz).mono ?_
  rintro e w0 ⟨vg, rfl, hgr, hb1⟩
  have HB0 := Lib.hid ((bel_a _ _).trans (hb1.mono (by simp)))
  rw [graphOk_nil] at hgr ⊢
  clear hb1
  cases hok : validP ts l
  · have HRES : Hid (plainRes ts l = []) := Lib.hid (by unfold plainRes; rw [hok]; rfl)
    clear hok hgr
    go_wp2_with fail
    go_ret
    exact ⟨_, rfl, by rw [HRES.out]; exact OIs.nil _ _, HB0.out⟩
  · have G := Good.of_valid hok
    have HG := Lib.hid (hgr hok)
    have HRES : Hid (plainRes ts l = chkL ts (ptsP l) (LvVal ts (ptsP l)) (ptsP l).length) := Lib.hid (by unfold plainRes; rw [if_pos hok])
    have GD := Lib.hid G
    have h6 := G.h6
    have hlen := G.len
    have HSX := Lib.hid (fun k (hk : k < (ptsP l).length) => (G.ok ((ptsP l)[k]'hk) (List.getElem_mem (h := hk))).sets)
    have hs0 := HB0.out.size
    clear hok hgr G ht hl
    generalize hpts : ptsP l = pts at *
    have HPT := Lib.hid hpts
    clear hpts
    go_wp2_with (at_builtin; fail)
    refine (maybeSet_any vg ts pts _ w0 HG.out (Nat.le_refl _) GD.out).mono ?_
    rintro e w1 ⟨vm, rfl, him, hb1⟩
    have HIM := Lib.hid him
    have HB1 := Lib.hid hb1
    have hs1 := hb1.size
    obtain ⟨Am, cm, rfl, hcm, -, -⟩ := him
    have hml : (msk (fwdL false ts pts 0)).length = pts.length := by rw [msk_len, fwdL_len]
    rw [hml] at hcm HIM ⊢
    clear hb1 hml
    have HN := Lib.hid (OInts.nil w1 w1.heap.size)
    go_wp2_with (at_builtin; fail)
    go_loopw [5, 19] (fun v i wr => ∃ (k : Nat) (o : List Int), k ≤ pts.length ∧ i = .int .i64 k ∧ o = msk (valL ts pts k) ∧ OInts wr w1.heap.size v o ∧ Below w1.heap.size w1 wr) (fun _ i _ => pts.length - (intOf i).toNat)
    case atStart => exact ⟨0, [], Nat.zero_le _, rfl, rfl, HN.out, Below.refl _ _⟩
    case round =>
      obtain ⟨k, o, hk, rfl, ho, hP, hb⟩ := hrel
      have hol : o.length = k := by rw [ho]; simp [msk, valL]
      have HO := Lib.hid ho
      have HOL := Lib.hid hol
      have HP := Lib.hid hP
      have HB := Lib.hid hb
      have hsw := hb.size
      clear ho hol hb
      obtain ⟨A', c', rfl, hc'⟩ := hP.slice
      clear hP
      by_cases hlt : k < pts.length
      · obtain ⟨bm, om, rfl, hbm, dm0⟩ := (HIM.out.low HB.out (Nat.le_refl _)).cellN (k := k) (by rw [fwdL_len]; exact hlt)
        rw [fwdL_get hlt] at dm0
        have HVL := Lib.hid (valued_any vg ts pts w1.heap.size k (fwdM false ts pts 0 k) wr (((HG.out.low HB1.out (Nat.le_refl _)).more hs1).low HB.out (Nat.le_refl _)) hsw h6 hlt (fwd_small h6 k) (by have := HSX.out k hlt; omega))
        have HSU : Hid (msk (valL ts pts (k + 1)) = msk (valL ts pts k) ++ [((valP ts pts[k] (fwdM false ts pts 0 k) : Nat) : Int)]) := Lib.hid (by rw [valL_succ, msk_snoc, ptD_get hlt])
        generalize valP ts pts[k] (fwdM false ts pts 0 k) = m at *
        generalize fwdM false ts pts 0 k = mm at *
        have HLT := Lib.hid hlt
        go_wp2_with (at_builtin; fail)
        refine HVL.out.mono ?_
        rintro e w2 ⟨rfl, hb2⟩
        have HP2 := Lib.hid (HP.out.bel hb2)
        have HB2 := Lib.hid (HB.out.trans (hb2.mono hsw))
        have hsw2 := HB2.out.size
        clear hb2
        go_wp2_with (at_builtin; go_must (refine wpList_push_int rfl (.tmp 24) (.tmp 29) rfl HP2.out hsw2 (by have := HOL.out; omega) _ rfl rfl ?_); intro v' w' hP' hE')
        have hlt := HLT.out
        exact ⟨⟨k + 1, _, by omega, by go_num, by rw [HSU.out, HO.out], hP', HB2.out.trans ((((Evo.alloc w1.heap.size 3 _ _).trans hE').below hsw2))⟩, by simp [intOf] <;> omega⟩
      · have hke : k = pts.length := by omega
        subst hke
        have HSM : Hid (∀ m ∈ valL ts pts pts.length, m < 64) := Lib.hid fun m hm => by
          simp only [valL, List.mem_map, List.mem_range] at hm
          obtain ⟨i, hi, rfl⟩ := hm
          rw [ptD_get hi]
          exact valP_lt6 (by have := HSX.out i hi; omega)
        have HI3 : Hid (IntS wr wr.heap.size (.slice A' o.length c') (msk (valL ts pts pts.length))) := Lib.hid (by rw [← HO.out]; exact HP.out.toS (by have := HOL.out; omega))
        have HBR := Lib.hid (HB0.out.trans ((HB1.out.trans (HB.out.mono hs1)).mono hs0))
        have HG3 := Lib.hid (HG.out.low (HB1.out.trans (HB.out.mono hs1)) (Nat.le_refl _))
        have hs3 := HB.out.size
        go_wp2_with (at_builtin; fail)
        refine (loansIn_any vg ts pts w0.heap.size wr HG3.out (by omega) GD.out).mono ?_
        rintro e w4 ⟨g', fs, rfl, hgl', hrow, hfl, hsm, hst, hb4⟩
        have HST := Lib.hid hst
        have HSMF := Lib.hid hsm
        have HFL := Lib.hid hfl
        have HB4 := Lib.hid hb4
        have hs4 := hb4.size
        have HRW := Lib.hid (hrow.alloc (.cells #[.slice (some ⟨g', 0, none⟩) pts.length pts.length] 69))
        have HRB := Lib.hid (RowB.new w4 [.slice (some ⟨g', 0, none⟩) pts.length pts.length] 69)
        have HBB := Lib.hid (HB4.out.alloc hs4 (.cells #[.slice (some ⟨g', 0, none⟩) pts.length pts.length] 69))
        clear hst hsm hfl hb4 hrow
        go_wp2_with (at_builtin; fail)
        generalize w4.alloc (.cells #[.slice (some ⟨g', 0, none⟩) pts.length pts.length] 69) = w5 at *
        obtain ⟨bc, hbc⟩ : ∃ bc, bc = w4.heap.size := ⟨_, rfl⟩
        rw [← hbc] at HRB ⊢
        clear hbc
        have hs5 := HBB.out.size
        have HCK := Lib.hid (check_any vg (.slice A' o.length c') (.pointer (some ⟨bc, 0, none⟩)) 49 ts pts w5.heap.size (valL ts pts pts.length) (LvVal ts pts) w5 ((HG3.out.low HBB.out (by omega)).more (by omega)) (Nat.le_refl _) GD.out ((HI3.out.low HBB.out (Nat.le_refl _)).more hs5) (by simp [valL]) HSM.out (fun k hk v hv => valL_LV GD.out hk hv) Try.enterPlainF
          (fun k w' hk hb => plainF_any ts pts bc g' k fs w' ((hb.cell (p := ⟨bc, 0, none⟩) HRB.out.lt).trans (HRB.out.cell 0)) (HRW.out.low hb HRW.out.lt) HFL.out hk HSMF.out HST.out))
        go_wp2_with (at_builtin; fail)
        refine HCK.out.mono ?_
        rintro e w6 ⟨v6, rfl, ho6, hb6⟩
        go_wp2_with (at_builtin; fail)
        go_ret
        have hw := HBR.out.size
        refine ⟨v6, rfl, ?_, HBR.out.trans ((HBB.out.trans (hb6.mono hs5)).mono hw)⟩
        rw [HRES.out]
        exact ho6.base (by omega)

end Go.Proofs.Ytfioaohadanjmaa
