import Derived.Test.YtidlifijgooceaaP23
import Derived.Test.YtidlifijgooceaaP09
import Derived.IntWalk
import Derived.Test.YtidlifijgooceaaP18
import Derived.Test.YtidlifijgooceaaP07
import Derived.Test.YtidlifijgooceaaP27
import Derived.Test.YtidlifijgooceaaP29
set_option linter.unusedVariables false

/- impl: unset, givenSet, UnsetUses, OpenIssues, GivesOf. -/
namespace Go.Proofs.Ytidlifijgooceaa
open Go.RowKit

/-- point i uses a variable that need not have a value -/
def Opn (ts : List Int) (pts : List Pt) (given i : Nat) : Prop := ∃ p, pts[i]? = some p ∧ ∃ v, v < ts.length ∧ useP ts p.op p.x p.y (v : Nat) ≠ 0 ∧ Ac true ts pts given i v
noncomputable def opnL (ts : List Int) (pts : List Pt) (given : Nat) : List Int := lst pts.length fun i => dec (Opn ts pts given i)
theorem opn_bits {ts : List Int} {pts : List Pt} {given i : Nat} (h6 : ts.length ≤ 6) (hi : i < pts.length) : (andn (usedP ts pts[i].op pts[i].x pts[i].y) (fwdM true ts pts given i) != 0) = dec (Opn ts pts given i) := by
  rw [Bool.eq_iff_iff, dec_iff]
  have hb : ∀ v, v < 6 → (andn (usedP ts pts[i].op pts[i].x pts[i].y) (fwdM true ts pts given i)).testBit v = (decide (v < ts.length) && (useP ts pts[i].op pts[i].x pts[i].y (v : Nat) != 0) && dec (Ac true ts pts given i v)) := by
    intro v hv
    rw [andn_bit _ _ _ hv, usedP, bm_bit, fwdM, bm_bit]
    by_cases hvl : v < ts.length
    · simp [hvl]
    · simp [hvl]
  constructor
  · intro h
    simp only [bne_iff_ne, ne_eq] at h
    have : ∃ v, v < 6 ∧ (andn (usedP ts pts[i].op pts[i].x pts[i].y) (fwdM true ts pts given i)).testBit v = true := Classical.byContradiction fun hn => h (ext64 (andn_lt _ _) (by omega) fun v hv => by
      rw [Nat.zero_testBit, ← Bool.not_eq_true]
      exact fun hb => hn ⟨v, hv, hb⟩)
    obtain ⟨v, hv, hbv⟩ := this
    rw [hb v hv, Bool.and_eq_true, Bool.and_eq_true] at hbv
    exact ⟨_, List.getElem?_eq_getElem hi, v, by simpa using hbv.1.1, by simpa using hbv.1.2, dec_iff.1 hbv.2⟩
  · rintro ⟨p, hp, v, hv, hu, ha⟩
    rw [List.getElem?_eq_getElem hi] at hp
    injection hp with hp
    subst hp
    simp only [bne_iff_ne, ne_eq]
    intro h0
    have := hb v (by omega)
    rw [h0, Nat.zero_testBit, decide_eq_true hv, dec_true ha] at this
    simp at this
    exact hu this

set_option maxHeartbeats 4000000
theorem unset_any (vg : Value) (ts : List Int) (pts : List Pt) (given B : Nat) (w : World) (hg : GrS w B vg ts pts) (hB : B ≤ w.heap.size) (g : Good ts pts) (hgv : given < 2 ^ ts.length) :
    Calls Try.prog 59 #[vg, .int .i64 (given : Nat)] w (IntsRet w (opnL ts pts given)) := by
  have HGS := Lib.hid hg
  have HG := Lib.hid g
  have h6 := g.h6
  have hlen := g.len
  obtain ⟨gb, At, ct, vb, Al, cl, rfl, hgB, g0, g1, g2, ht, hp, htl, hpl⟩ := hg.open_
  go_enter Try.func59, Try.ntmps59
  go_wp2_with fail
  refine (alwaysSet_any _ ts pts B given _ HGS.out hB HG.out hgv).mono ?_
  rintro e w1 ⟨vm, rfl, hm, hb1⟩
  have hml : (msk (fwdL true ts pts given)).length = pts.length := by simp [msk, fwdL]
  obtain ⟨Am, cm, rfl, hcm, -, hrm⟩ := hm
  rw [hml] at hcm ⊢
  have HM := Lib.hid hrm
  have HML := Lib.hid hml
  have HB1 := Lib.hid hb1
  have hs1 := hb1.size
  have HGS1 := Lib.hid (HGS.out.low hb1 hB)
  have HPS := Lib.hid (hp.low hb1 hB)
  have g2' := (hb1.cell (p := ⟨gb, 2, none⟩) (by show gb < _; omega)).trans g2
  clear g hg hml hrm hb1 g0 g1 g2 ht hp
  have HO := Lib.hid (OutI.start (OInts.nil w1 w1.heap.size) (Nat.le_refl _))
  go_wp2_with fail
  go_loopw [5, 12] (fun v i wr => ∃ (k : Nat) (o : List Int), k ≤ pts.length ∧ i = .int .i64 k ∧ o = lst k (fun i => dec (Opn ts pts given i)) ∧ OutI w1 wr w1.heap.size v o) (fun _ i _ => pts.length - (intOf i).toNat)
  case atStart => exact ⟨0, [], by omega, rfl, rfl, HO.out⟩
  case round =>
    obtain ⟨k, o, hk, rfl, ho, hO⟩ := hrel
    have HOR := Lib.hid hO
    have HOL := Lib.hid ho
    have hol : o.length ≤ k := by rw [ho]; exact lst_len _ _
    have hK := hO.kp
    have hsr := hK.2
    obtain ⟨A', c', rfl, hc'⟩ := hO.lenc
    have d2 := hK.1 _ _ _ g2'
    have HKP := Lib.hid hK
    clear hO ho hK
    by_cases hlt : k < pts.length
    · obtain ⟨b, off, c, nv, e, hb, hc, hl, hnx, p0, p1, p2, p3, p4⟩ := HPS.out.get hlt
      injection e with e1 _ e2
      subst e1 e2
      have hkm : k < (msk (fwdL true ts pts given)).length := by rw [HML.out]; exact hlt
      obtain ⟨bm', om, rfl, hbm, hcell⟩ := HM.out.int_at hkm
      have hck := hcell k hkm
      rw [msk_get (by simpa [fwdL] using hlt), fwdL_get hlt] at hck
      have d3 := HKP.out.1 _ _ _ hck
      have q0 := HKP.out.1 _ _ _ p0
      have q1 := HKP.out.1 _ _ _ p1
      have q2 := HKP.out.1 _ _ _ p2
      have q3 := HKP.out.1 _ _ _ p3
      have q4 := HKP.out.1 _ _ _ p4
      have HOP := Lib.hid (opn_bits (given := given) h6 hlt)
      have hu64 := usedP_lt h6 pts[k].op pts[k].x pts[k].y
      have hm64 : fwdM true ts pts given k < 64 := bm_lt64 h6 _
      generalize fwdM true ts pts given k = mk at *
      generalize pts[k] = P at *
      clear hcell hck p0 p1 p2 p3 p4
      go_wp2_with fail
      refine (used_any _ ts pts B P.op P.x P.y P.n nv _ (HGS1.out.low HOR.out.bel (by omega)) (by omega) h6).mono ?_
      · rintro e w2 ⟨rfl, hb2⟩
        have HO2 := Lib.hid (HOR.out.belc hb2)
        clear hb2
        have hst : bits .andNot .i64 (usedP ts P.op P.x P.y : Nat) (mk : Nat) = ((andn (usedP ts P.op P.x P.y) mk : Nat) : Int) := andn_small hu64 hm64
        have hst2 : (((andn (usedP ts P.op P.x P.y) mk : Nat) : Int) != 0) = dec (Opn ts pts given k) := by
          rw [← HOP.out, Bool.eq_iff_iff]; simp
        cases hd : dec (Opn ts pts given k)
        · have HD := Lib.hid hd
          rw [hd] at hst2
          clear hd
          go_wp2_with (at_builtin; fail)
          exact ⟨⟨k + 1, o, by omega, by go_num, by rw [HOL.out, lst_succ_false HD.out], HO2.out⟩, by simp [intOf] <;> omega⟩
        · have HD := Lib.hid hd
          rw [hd] at hst2
          clear hd
          go_wp2_with (at_builtin; go_must (refine wpList_push_outI rfl (.tmp 29) (.tmp 31) rfl HO2.out (by omega) _ rfl rfl ?_); intro v' w' hP')
          exact ⟨⟨k + 1, _, by omega, by go_num, by rw [HOL.out, lst_succ_true HD.out], hP'⟩, by simp [intOf] <;> omega⟩
    · have hke : k = pts.length := by omega
      go_wp2_with (at_builtin; fail)
      go_ret
      refine ⟨_, rfl, ?_, HB1.out.trans (HOR.out.bel.mono hs1)⟩
      unfold opnL
      rw [← hke, ← HOL.out]
      exact HOR.out.toS (by omega)

noncomputable def unsetRes (ts : List Int) (l : List St) : List Int := if validP ts l = true then opnL ts (ptsP l) 0 else []
/-- the set of the given variables, if they are all there -/
def givOk (ts : List Int) (gv : List Int) : Bool := gv.all fun v => withinP v 0 ((ts.length : Int) - 1)
def givM (ts : List Int) (gv : List Int) : Nat := bm ts.length fun v => hasP gv (v : Nat)
noncomputable def openRes (ts : List Int) (l : List St) (gv : List Int) : List Int := if validP ts l = true ∧ givOk ts gv = true then opnL ts (ptsP l) (givM ts gv) else []
noncomputable def givesRes (ts : List Int) (l : List St) (gv : List Int) : List Int := if validP ts l = true ∧ givOk ts gv = true then alwaysAt ts (ptsP l) (givM ts gv) ((ptsP l).length - 1) else []

theorem iUnsetUses_any (vt vb : Value) (ts : List Int) (l : List St) (B : Nat) (w : World) (ht : IntS w B vt ts) (hl : StS w B vb l) (hB : B ≤ w.heap.size) (hsz : szL l ≤ 4194300) :
    Calls Try.prog 18 #[.agg #[vt, vb]] w (IntsRet w (unsetRes ts l)) := by
  go_enter Try.func18, Try.ntmps18
  go_wp2_with fail
  refine (graphOf_any vt vb _ ts l [] w.heap.size _ ((ht.low (bel_a _ _) hB).more hB) ((hl.low (bel_a _ _) hB).more hB) ((OInts.nil w 0).toS (by simp) |>.low (bel_a _ _) (Nat.le_refl _)) (by simp) hsz).mono ?_
  rintro e w1 ⟨vg, rfl, hgr, hb1⟩
  have HB3 := Lib.hid ((bel_a _ _).trans (hb1.mono (by simp)))
  rw [graphOk_nil] at hgr ⊢
  clear hb1
  cases hok : validP ts l
  · have HRES : Hid (unsetRes ts l = []) := Lib.hid (by unfold unsetRes; rw [hok]; rfl)
    clear hok hgr
    go_wp2_with fail
    go_ret
    exact ⟨_, rfl, by rw [HRES.out]; exact IntS.nil' _ _ _ _, HB3.out⟩
  · have G := Good.of_valid hok
    have HGG := Lib.hid (hgr hok)
    have HRES : Hid (unsetRes ts l = opnL ts (ptsP l) 0) := Lib.hid (by unfold unsetRes; rw [if_pos hok])
    clear hok hgr
    go_wp2_with fail
    refine (unset_any vg ts (ptsP l) 0 _ _ HGG.out (Nat.le_refl _) G (Nat.two_pow_pos _)).mono ?_
    rintro e w2 ⟨v2, rfl, hi2, hb2⟩
    go_wp2_with fail
    go_ret
    exact ⟨v2, rfl, by rw [HRES.out]; exact hi2, HB3.out.trans (hb2.mono HB3.out.size)⟩

theorem hasP_snoc (l : List Int) (x n : Int) : hasP (l ++ [x]) n = (hasP l n || (n == x)) := by
  rw [Bool.eq_iff_iff, Bool.or_eq_true, hasP_iff, hasP_iff, List.mem_append, List.mem_singleton, beq_iff_eq]
theorem givM_snoc {ts gv : List Int} {k : Nat} (hk : k < ts.length) : givM ts (gv ++ [(k : Int)]) = givM ts gv ||| 2 ^ k := by
  apply Nat.eq_of_testBit_eq
  intro i
  rw [givM, givM, Nat.testBit_or, bm_bit, bm_bit, Nat.testBit_two_pow, hasP_snoc]
  by_cases hi : i < ts.length
  · rw [decide_eq_true hi, Bool.true_and, Bool.true_and]
    congr 1
    rw [Bool.eq_iff_iff]; simp; omega
  · rw [decide_eq_false hi]
    have : k ≠ i := by omega
    simp [this]
theorem givOk_take {ts gv : List Int} {k : Nat} (hk : k < gv.length) : givOk ts (gv.take (k + 1)) = (givOk ts (gv.take k) && withinP gv[k] 0 ((ts.length : Int) - 1)) := by
  unfold givOk; rw [take_succ_get gv k hk, List.all_append]; simp
theorem givOk_no {ts gv : List Int} {k : Nat} (hk : k < gv.length) (h : withinP gv[k] 0 ((ts.length : Int) - 1) = false) : givOk ts gv = false := by
  unfold givOk
  rw [List.all_eq_false]
  exact ⟨gv[k], List.getElem_mem hk, by rw [h]; simp⟩

def GivRet (w : World) (ts gv : List Int) (e : Ending) (w' : World) : Prop := w = w' ∧ ∃ m : Nat, e = .returned (.tuple #[.int .i64 (m : Nat), .bool (givOk ts gv)]) ∧ (givOk ts gv = true → m = givM ts gv)
theorem givenSet_any (vg va : Value) (ts gv : List Int) (pts : List Pt) (B B' : Nat) (w : World) (hg : GrS w B vg ts pts) (ha : IntS w B' va gv) (h6 : ts.length ≤ 6) :
    Calls Try.prog 56 #[vg, va] w (GivRet w ts gv) := by
  have HGS := Lib.hid hg
  obtain ⟨A, c, rfl, hc, hl, hr⟩ := ha
  have HR := Lib.hid hr
  clear hg hr
  go_enter Try.func56, Try.ntmps56
  go_wp2_with fail
  go_loop [6, 11] (fun s i => ∃ (k m : Nat), k ≤ gv.length ∧ i = .int .i64 k ∧ s = .int .i64 (m : Nat) ∧ m = givM ts (gv.take k) ∧ m < 64 ∧ givOk ts (gv.take k) = true) (fun _ i => gv.length - (intOf i).toNat)
  case atStart => exact ⟨0, 0, by omega, rfl, rfl, by simp [givM, hasP]; exact (bm_congr (n := ts.length) (g := fun _ => false) (fun _ _ => rfl) ▸ (by apply Nat.eq_of_testBit_eq; intro i; rw [bm_bit]; simp)), by omega, by simp [givOk]⟩
  case round =>
    obtain ⟨k, m, hk, rfl, rfl, hm, hm64, hok⟩ := hrel
    have HM := Lib.hid hm
    have HOK := Lib.hid hok
    clear hm hok
    by_cases hlt : k < gv.length
    · obtain ⟨b, off, rfl, hb, hcell⟩ := HR.out.int_at hlt
      have hck := hcell k hlt
      rw [getD_lt hlt] at hck
      have HTK := Lib.hid (take_succ_get gv k hlt)
      have HGT := Lib.hid (givOk_take (ts := ts) hlt)
      have HGN := Lib.hid (givOk_no (ts := ts) hlt)
      clear hcell
      generalize gv[k] = x at *
      go_wp2_with fail
      refine (isVar_any _ ts pts B x _ HGS.out).mono ?_
      rintro e w1 ⟨rfl, rfl⟩
      cases hx : withinP x 0 ((ts.length : Int) - 1)
      · have HN := Lib.hid (HGN.out hx)
        clear hx
        go_wp2_with fail
        go_ret2
        exact ⟨rfl, 0, by rw [HN.out]; rfl, fun h => by rw [HN.out] at h; cases h⟩
      · have HX := Lib.hid hx
        have hxr : 0 ≤ x ∧ x < ts.length := by unfold withinP at hx; simp at hx; omega
        obtain ⟨hx0, hx1⟩ := hxr
        obtain ⟨j, rfl⟩ := Int.eq_ofNat_of_zero_le hx0
        have hj6 : j ≤ 5 := by omega
        have HS := Lib.hid (givM_snoc (ts := ts) (gv := gv.take k) (k := j) (by omega))
        clear hx
        go_wp2_with fail
        refine ⟨⟨k + 1, givM ts (gv.take k) ||| 2 ^ j, by omega, by go_num, ?_, by rw [HTK.out, HS.out], ?_, by rw [HGT.out, HOK.out, HX.out]; rfl⟩, by simp [intOf] <;> omega⟩
        · rw [pow_small (by omega), or_small hm64 (two_pow_lt (by omega)), ← HM.out]
        · exact Nat.or_lt_two_pow (n := 6) (by rw [← HM.out]; exact hm64) (two_pow_lt (by omega))
    · have hke : gv.take k = gv := List.take_of_length_le (by omega)
      have HKE := Lib.hid hke
      clear hke
      go_wp2_with fail
      go_ret2
      rw [HKE.out] at HM HOK
      exact ⟨rfl, m, by rw [HOK.out]; rfl, fun _ => HM.out⟩

theorem iOpenIssues_any (vt vb va : Value) (ts gv : List Int) (l : List St) (B : Nat) (w : World) (ht : IntS w B vt ts) (hl : StS w B vb l) (ha : IntS w B va gv) (hB : B ≤ w.heap.size) (hsz : szL l ≤ 4194300) :
    Calls Try.prog 17 #[.agg #[vt, vb], va] w (IntsRet w (openRes ts l gv)) := by
  go_enter Try.func17, Try.ntmps17
  go_wp2_with fail
  refine (graphOf_any vt vb _ ts l [] w.heap.size _ ((ht.low (bel_a _ _) hB).more hB) ((hl.low (bel_a _ _) hB).more hB) ((OInts.nil w 0).toS (by simp) |>.low (bel_a _ _) (Nat.le_refl _)) (by simp) hsz).mono ?_
  rintro e w1 ⟨vg, rfl, hgr, hb1⟩
  have HB3 := Lib.hid ((bel_a _ _).trans (hb1.mono (by simp)))
  have HA := Lib.hid (ha.low HB3.out hB)
  rw [graphOk_nil] at hgr ⊢
  clear hb1
  cases hok : validP ts l
  · have HRES : Hid (openRes ts l gv = []) := Lib.hid (by unfold openRes; rw [if_neg (by rw [hok]; simp)])
    clear hok hgr
    go_wp2_with fail
    go_ret
    exact ⟨_, rfl, by rw [HRES.out]; exact IntS.nil' _ _ _ _, HB3.out⟩
  · have G := Lib.hid (Good.of_valid hok)
    have HGG := Lib.hid (hgr hok)
    have HV := Lib.hid hok
    clear hok hgr
    go_wp2_with fail
    refine (givenSet_any vg va ts gv (ptsP l) _ _ _ HGG.out HA.out G.out.h6).mono ?_
    rintro e w2 ⟨rfl, m, rfl, hm⟩
    cases hgo : givOk ts gv
    · have HRES : Hid (openRes ts l gv = []) := Lib.hid (by unfold openRes; rw [if_neg (by rw [hgo]; simp)])
      clear hgo hm
      go_wp2_with fail
      go_ret
      exact ⟨_, rfl, by rw [HRES.out]; exact IntS.nil' _ _ _ _, HB3.out⟩
    · obtain rfl := hm hgo
      have hml : givM ts gv < 2 ^ ts.length := bm_lt _ _
      have HML := Lib.hid hml
      have HRES : Hid (openRes ts l gv = opnL ts (ptsP l) (givM ts gv)) := Lib.hid (by unfold openRes; rw [if_pos ⟨HV.out, hgo⟩])
      clear hgo hm hml
      generalize givM ts gv = M at *
      go_wp2_with fail
      refine (unset_any vg ts (ptsP l) M _ _ HGG.out (Nat.le_refl _) G.out HML.out).mono ?_
      rintro e w2 ⟨v2, rfl, hi2, hb2⟩
      go_wp2_with fail
      go_ret
      exact ⟨v2, rfl, by rw [HRES.out]; exact hi2, HB3.out.trans (hb2.mono HB3.out.size)⟩

theorem iGivesOf_any (vt vb va : Value) (ts gv : List Int) (l : List St) (B : Nat) (w : World) (ht : IntS w B vt ts) (hl : StS w B vb l) (ha : IntS w B va gv) (hB : B ≤ w.heap.size) (hsz : szL l ≤ 4194300) :
    Calls Try.prog 16 #[.agg #[vt, vb], va] w (IntsRet w (givesRes ts l gv)) := by
  go_enter Try.func16, Try.ntmps16
  go_wp2_with fail
  refine (graphOf_any vt vb _ ts l [] w.heap.size _ ((ht.low (bel_a _ _) hB).more hB) ((hl.low (bel_a _ _) hB).more hB) ((OInts.nil w 0).toS (by simp) |>.low (bel_a _ _) (Nat.le_refl _)) (by simp) hsz).mono ?_
  rintro e w1 ⟨vg, rfl, hgr, hb1⟩
  have HB3 := Lib.hid ((bel_a _ _).trans (hb1.mono (by simp)))
  have HA := Lib.hid (ha.low HB3.out hB)
  rw [graphOk_nil] at hgr ⊢
  clear hb1
  cases hok : validP ts l
  · have HRES : Hid (givesRes ts l gv = []) := Lib.hid (by unfold givesRes; rw [if_neg (by rw [hok]; simp)])
    clear hok hgr
    go_wp2_with fail
    go_ret
    exact ⟨_, rfl, by rw [HRES.out]; exact IntS.nil' _ _ _ _, HB3.out⟩
  · have G := Lib.hid (Good.of_valid hok)
    have HGG := Lib.hid (hgr hok)
    have HV := Lib.hid hok
    clear hok hgr
    go_wp2_with fail
    refine (givenSet_any vg va ts gv (ptsP l) _ _ _ HGG.out HA.out G.out.h6).mono ?_
    rintro e w2 ⟨rfl, m, rfl, hm⟩
    cases hgo : givOk ts gv
    · have HRES : Hid (givesRes ts l gv = []) := Lib.hid (by unfold givesRes; rw [if_neg (by rw [hgo]; simp)])
      clear hgo hm
      go_wp2_with fail
      go_ret
      exact ⟨_, rfl, by rw [HRES.out]; exact IntS.nil' _ _ _ _, HB3.out⟩
    · obtain rfl := hm hgo
      have hml : givM ts gv < 2 ^ ts.length := bm_lt _ _
      have HML := Lib.hid hml
      have HRES : Hid (givesRes ts l gv = alwaysAt ts (ptsP l) (givM ts gv) ((ptsP l).length - 1)) := Lib.hid (by unfold givesRes; rw [if_pos ⟨HV.out, hgo⟩])
      clear hgo hm hml
      generalize givM ts gv = M at *
      obtain ⟨g, At, ct, vb', Al, cl, rfl, hgB, g0, g1, g2, -, hp, -, -⟩ := HGG.out.open_
      have hpos := G.out.pos
      have hlen := G.out.len
      have h6 := G.out.h6
      generalize hpts : ptsP l = pts at *
      obtain ⟨k, hk⟩ : ∃ k, pts.length = k + 1 := ⟨pts.length - 1, by omega⟩
      have HK := Lib.hid hk
      have hk61 : k ≤ 60 := by omega
      obtain ⟨np, hnp⟩ : ∃ np, np = k + 1 := ⟨_, rfl⟩
      rw [hk, ← hnp] at g2
      have HNP := Lib.hid hnp
      have hw9 : IntKind.i64.wrap (k : Int) = (k : Int) := IntWalk.i64_in _ (by omega)
      have hw8 : ((np : Int) - 1) = (k : Int) := by omega
      have hkn : (k : Int) < (np : Int) := by omega
      have hk0 : (0 : Int) ≤ (k : Int) := by omega
      have hkn2 : k < np := by omega
      have hkn3 : ¬ (k : Int) < 0 := by omega
      have BEL : Hid (∀ w', w'.cell? ⟨g, 2, none⟩ = some (.slice Al np cl) ∧ Below w1.heap.size w1 w' → Below w1.heap.size w1 w') := Lib.hid fun _ h => h.2
      clear hpts hk g0 g1 hp hpos hnp
      go_wp2_with fail
      refine wp_region_noPanic ?_
      refine wp_region_held_drew (S := (fun w' => w'.cell? ⟨g, 2, none⟩ = some (.slice Al np cl) ∧ Below w1.heap.size w1 w')) (by kernel_rfl) ?_ (fun hHeld => ?_)
      · exact ⟨g2, (Below.refl _ _).drew⟩
      refine wpAnyH_take (i := 0) (oi := ⟨some 23, _, _, _, _, _⟩) (v := ?_) rfl (by kernel_rfl) (by kernel_rfl) (by kernel_rfl) (fun _ _ _ h => h) (Or.inl ⟨by rfl, fun w' hSw => ?_⟩) (by assumption) ?_
      rotate_left
      · (try dsimp only at hSw); go_simp; (try with_reducible rfl)
      (try simp only [Act.put, List.setIfInBounds_toArray, List.set_cons_zero, List.set_cons_succ])
      refine wpAnyH_take (i := 1) (oi := ⟨some 24, _, _, _, _, _⟩) (v := ?_) rfl (by kernel_rfl) (by kernel_rfl) (by kernel_rfl) (fun _ _ _ h => h) (Or.inl ⟨by rfl, fun w' hSw => ?_⟩) (by assumption) ?_
      rotate_left
      · (try dsimp only at hSw); go_simp; (try with_reducible rfl)
      (try simp only [Act.put, List.setIfInBounds_toArray, List.set_cons_zero, List.set_cons_succ])
      refine wpAnyH_take (i := 3) (oi := ⟨some 26, _, _, _, _, _⟩) (v := ?_) rfl (by kernel_rfl) (by kernel_rfl) (by kernel_rfl) (fun _ _ _ h => h) (Or.inl ⟨by rfl, fun w' hSw => ?_⟩) (by assumption) ?_
      rotate_left
      · (try dsimp only at hSw); go_simp; (try with_reducible rfl)
      (try simp only [Act.put, List.setIfInBounds_toArray, List.set_cons_zero, List.set_cons_succ])
      refine wpAnyH_take (i := 4) (oi := ⟨some 27, _, _, _, _, _⟩) (v := ?_) rfl (by kernel_rfl) (by kernel_rfl) (by kernel_rfl) (fun _ _ _ h => h) (Or.inl ⟨by rfl, fun w' hSw => ?_⟩) (by assumption) ?_
      rotate_left
      · (try dsimp only at hSw); go_simp; (try with_reducible rfl)
      (try simp only [Act.put, List.setIfInBounds_toArray, List.set_cons_zero, List.set_cons_succ])
      refine wpAnyH_take (i := 5) (oi := ⟨some 28, _, _, _, _, _⟩) (v := ?_) rfl (by kernel_rfl) (by kernel_rfl) (by kernel_rfl) (fun _ _ _ h => h) (Or.inl ⟨by rfl, fun w' hSw => ?_⟩) (by assumption) ?_
      rotate_left
      · (try dsimp only at hSw); go_simp; (try with_reducible rfl)
      (try simp only [Act.put, List.setIfInBounds_toArray, List.set_cons_zero, List.set_cons_succ])
      refine wpAnyH_take (i := 6) (oi := ⟨some 29, _, _, _, _, _⟩) (v := ?_) rfl (by kernel_rfl) (by kernel_rfl) (by kernel_rfl) (fun _ _ _ h => h) (Or.inl ⟨by rfl, fun w' hSw => ?_⟩) (by assumption) ?_
      rotate_left
      · (try dsimp only at hSw); go_simp; (try with_reducible rfl)
      (try simp only [Act.put, List.setIfInBounds_toArray, List.set_cons_zero, List.set_cons_succ])
      refine wpAnyH_take (i := 7) (oi := ⟨some 30, _, _, _, _, _⟩) (v := ?_) rfl (by kernel_rfl) (by kernel_rfl) (by kernel_rfl) (fun _ _ _ h => h) (Or.inl ⟨by rfl, fun w' hSw => ?_⟩) (by assumption) ?_
      rotate_left
      · (try dsimp only at hSw); go_simp; (try with_reducible rfl)
      (try simp only [Act.put, List.setIfInBounds_toArray, List.set_cons_zero, List.set_cons_succ])
      refine wpAnyH_take (i := 8) (oi := ⟨some 31, _, _, _, _, _⟩) (v := ?_) rfl (by kernel_rfl) (by kernel_rfl) (by kernel_rfl) (fun _ _ _ h => h) (Or.inl ⟨by rfl, fun w' hSw => ?_⟩) (by assumption) ?_
      rotate_left
      · (try dsimp only at hSw); go_simp; (try with_reducible rfl)
      (try simp only [Act.put, List.setIfInBounds_toArray, List.set_cons_zero, List.set_cons_succ])
      refine wpAnyH_ready (rs := [2]) (by kernel_rfl) (by simp) ?_
      refine AllReadyH.cons (o := ⟨some 25, _, _, _, _, _⟩) rfl (fun K hK => ?_) AllReadyH.nil
      go_simp
      (refine (alwaysSet_any _ ts pts w1.heap.size M _ (HGG.out.low (BEL.out _ (by assumption)) (Nat.le_refl _)) (by have := (BEL.out _ (by assumption)).size; omega) G.out HML.out).mono ?_)
      (rintro e w2 ⟨vm, rfl, hm, hb2⟩)
      (have BX2 := Lib.hid ((BEL.out _ (by assumption)).trans (hb2.mono (BEL.out _ (by assumption)).size)))
      (have g22 := (BX2.out.cell (p := ⟨g, 2, none⟩) hgB).trans g2)
      (have hml : (msk (fwdL true ts pts M)).length = np := by simp [msk, fwdL, HK.out, HNP.out])
      (obtain ⟨Am, cm, rfl, hcm, -, hrm⟩ := hm)
      (rw [hml] at hcm ⊢)
      (obtain ⟨bm', om, rfl, hbm, hcell⟩ := hrm.int_at (k := k) (by rw [hml]; omega))
      (have hck := hcell k (by rw [hml]; omega))
      (rw [msk_get (by simp [fwdL, HK.out]), fwdL_get (by rw [HK.out]; omega)] at hck)
      (have HBB := Lib.hid (bits_any (fwdM true ts pts M k) (bm_lt64 h6 _)))
      clear hcell hrm hml hb2
      go_simp
      refine hK.out _ _ ?_ (fun hHeld => ?_)
      · exact ⟨g22, BX2.out⟩
      clear hK K
      (try simp only [Act.put, List.setIfInBounds_toArray, List.set_cons_zero, List.set_cons_succ])
      refine wpAnyH_take (i := 9) (oi := ⟨some 32, _, _, _, _, _⟩) (v := ?_) rfl (by kernel_rfl) (by kernel_rfl) (by kernel_rfl) (fun _ _ _ h => h) (Or.inl ⟨by rfl, fun w' hSw => ?_⟩) (by assumption) ?_
      rotate_left
      · (try dsimp only at hSw); go_simp; (try with_reducible rfl)
      (try simp only [Act.put, List.setIfInBounds_toArray, List.set_cons_zero, List.set_cons_succ])
      refine wpAnyH_ready (rs := [10]) (by kernel_rfl) (by simp) ?_
      refine AllReadyH.cons (o := ⟨some 33, _, _, _, _, _⟩) rfl (fun K hK => ?_) AllReadyH.nil
      go_simp
      refine hK.out _ _ ?_ (fun hHeld => ?_)
      · exact ⟨g22, BX2.out⟩
      clear hK K
      (try simp only [Act.put, List.setIfInBounds_toArray, List.set_cons_zero, List.set_cons_succ])
      refine wpAnyH_ready (rs := [11]) (by kernel_rfl) (by simp) ?_
      refine AllReadyH.cons (o := ⟨some 34, _, _, _, _, _⟩) rfl (fun K hK => ?_) AllReadyH.nil
      go_simp
      (refine (HBB.out _).mono ?_)
      (rintro e w3 ⟨v3, rfl, hi3, hb3⟩)
      (have BX3 := Lib.hid (BX2.out.trans (hb3.mono BX2.out.size)))
      (have g23 := (BX3.out.cell (p := ⟨g, 2, none⟩) hgB).trans g2)
      go_simp
      refine hK.out _ _ ?_ (fun hHeld => ?_)
      · exact ⟨g23, BX3.out⟩
      clear hK K
      (try simp only [Act.put, List.setIfInBounds_toArray, List.set_cons_zero, List.set_cons_succ])
      refine wpAnyH_take (i := 12) (oi := ⟨some 4, _, _, _, _, _⟩) (v := ?_) rfl (by kernel_rfl) (by kernel_rfl) (by kernel_rfl) (fun _ _ _ h => h) (Or.inl ⟨by rfl, fun w' hSw => ?_⟩) (by assumption) ?_
      rotate_left
      · (try dsimp only at hSw); go_simp; (try with_reducible rfl)
      (try simp only [Act.put, List.setIfInBounds_toArray, List.set_cons_zero, List.set_cons_succ])
      refine wpAnyH_done (by kernel_rfl) ?_ _
      refine NoPanic.normal ?_
      go_wp2_with fail
      go_ret
      refine ⟨v3, rfl, ?_, HB3.out.trans (BX3.out.mono HB3.out.size)⟩
      rw [HRES.out, ← always_bits h6, HK.out]
      exact hi3

end Go.Proofs.Ytidlifijgooceaa

/- Plain: what flows, beside what may be set, what is needed, what leads where. No program in sight. -/
namespace Go.Proofs.Ytidlifijgooceaa

theorem Fl.used {ts : List Int} {pts : List Pt} {i v e : Nat} (h : Fl ts pts Gset Cset i v e) (hn : Nd ts pts i v) : ∃ p, pts[e]? = some p ∧ setsP p.op p.x = (v : Nat) ∧ ∃ j ∈ p.next, Nd ts pts j v := by
  induction h with
  | gen hp hk _ hs h =>
    have h' := (beq_iff_eq.1 h)
    subst h'
    exact ⟨_, hp, hs, _, hk, hn⟩
  | copy _ _ _ _ hc _ _ => simp [Cset] at hc
  | keep hp hk _ hs _ _ ih => exact ih (.flow hp hk hn hs)
end Go.Proofs.Ytidlifijgooceaa

/- Plain: programs behind each other: their points, and what is known at them. No program in sight. -/
namespace Go.Proofs.Ytidlifijgooceaa

/-- a point moved on by n -/
def shP (n : Nat) (p : Pt) : Pt := { p with next := p.next.map (· + n) }
mutual
theorem ptsSt_sh (n at_ : Nat) : ∀ s : St, ptsSt (at_ + n) s = (ptsSt at_ s).map (shP n)
  | .mk op x y m th el => by
    have h1 := fun a => ptsL_sh n a th
    have h2 := fun a => ptsL_sh n a el
    have e1 : ∀ a, (ptsL (a + n) th).length = (ptsL a th).length := fun a => by rw [h1]; simp
    have e2 : ∀ a, (ptsL (a + n) el).length = (ptsL a el).length := fun a => by rw [h2]; simp
    simp only [ptsSt]
    have a1 : at_ + n + 1 = at_ + 1 + n := by omega
    rw [a1, e1]
    have a2 : at_ + 1 + n + (ptsL (at_ + 1) th).length + 1 = at_ + 1 + (ptsL (at_ + 1) th).length + 1 + n := by omega
    rw [a2, e2, h1, h2]
    split
    · simp [shP]; omega
    · split
      · simp [shP]
      · simp [shP]
theorem ptsL_sh (n at_ : Nat) : ∀ l : List St, ptsL (at_ + n) l = (ptsL at_ l).map (shP n)
  | [] => by simp [ptsL]
  | s :: r => by
    have h1 := ptsSt_sh n at_ s
    have h2 := fun a => ptsL_sh n a r
    have e1 : (ptsSt (at_ + n) s).length = (ptsSt at_ s).length := by rw [h1]; simp
    have a1 : at_ + n + (ptsSt at_ s).length = at_ + (ptsSt at_ s).length + n := by omega
    simp only [ptsL, List.map_append]
    rw [e1, a1, h1, h2]
end
/-- the number of points ahead of the end -/
def npL (a : List St) : Nat := (ptsL 0 a).length
theorem ptsP_cat (a b : List St) : ptsP (a ++ b) = ptsL 0 a ++ (ptsP b).map (shP (npL a)) := by
  unfold ptsP npL
  rw [ptsL_append, show 0 + (ptsL 0 a).length = 0 + (ptsL 0 a).length from rfl, ptsL_sh]
  simp [shP]
theorem npL_len (a : List St) : (ptsP a).length = npL a + 1 := ptsP_len a
theorem cat_len (a b : List St) : (ptsP (a ++ b)).length = npL a + (ptsP b).length := by rw [ptsP_cat]; simp [npL]
theorem cat_left {a b : List St} {i : Nat} (h : i < npL a) : (ptsP (a ++ b))[i]? = (ptsP a)[i]? := by
  rw [ptsP_cat, List.getElem?_append_left h]
  unfold ptsP
  rw [List.getElem?_append_left h]
theorem cat_right {a b : List St} (j : Nat) : (ptsP (a ++ b))[npL a + j]? = ((ptsP b)[j]?).map (shP (npL a)) := by
  rw [ptsP_cat, List.getElem?_append_right (by show npL a ≤ _; omega), List.getElem?_map]
  congr 2
  show npL a + j - npL a = j
  omega
theorem end_at (a : List St) : (ptsP a)[npL a]? = some ⟨11, 0, 0, 0, []⟩ := by
  unfold ptsP npL; simp
theorem here_lt {a : List St} {i k : Nat} {p : Pt} (hp : (ptsP a)[i]? = some p) (hk : k ∈ p.next) : i < npL a := by
  have h1 := (List.getElem?_eq_some_iff.1 hp).1
  rw [npL_len] at h1
  rcases Nat.lt_or_ge i (npL a) with h | h
  · exact h
  · have : i = npL a := by omega
    subst this
    rw [end_at] at hp
    injection hp with hp
    subst hp
    cases hk
theorem sh_next {n k : Nat} {p : Pt} (h : k ∈ (shP n p).next) : ∃ j, j ∈ p.next ∧ k = j + n := by
  unfold shP at h
  obtain ⟨j, h1, h2⟩ := List.mem_map.1 h
  exact ⟨j, h1, h2.symm⟩
theorem next_sh {n k : Nat} {p : Pt} (h : k ∈ p.next) : k + n ∈ (shP n p).next := List.mem_map.2 ⟨k, h, rfl⟩
/-- what is gathered in the first part is gathered in the whole -/
theorem Ac.cat {ev : Bool} {ts : List Int} {a : List St} (b : List St) {f i v : Nat} (h : Ac ev ts (ptsP a) f i v) : Ac ev ts (ptsP (a ++ b)) f i v := by
  induction h with
  | init hv h => exact .init hv h
  | gen hp hk hv h => exact .gen (by rw [cat_left (here_lt hp hk)]; exact hp) hk hv h
  | keep hp hk _ h ih => exact .keep (by rw [cat_left (here_lt hp hk)]; exact hp) hk ih h
/-- what is gathered in the whole: in the first part; in the second, begun with what there is at the first one's end -/
theorem Ac.split {ev : Bool} {ts : List Int} {a b : List St} {f f' i v : Nat} (hf : ∀ v, v < ts.length → (accB ev f' v = true ↔ Ac ev ts (ptsP a) f (npL a) v)) (h : Ac ev ts (ptsP (a ++ b)) f i v) :
    (i < npL a → Ac ev ts (ptsP a) f i v) ∧ (∀ j, i = npL a + j → Ac ev ts (ptsP b) f' j v) := by
  induction h with
  | @init v hv h =>
    refine ⟨fun _ => .init hv h, fun j hj => ?_⟩
    obtain rfl : j = 0 := by omega
    have h0 : npL a = 0 := by omega
    refine .init hv ((hf v hv).2 ?_)
    rw [h0]
    exact .init hv h
  | @gen i k v p hp hk hv h =>
    rcases Nat.lt_or_ge i (npL a) with hi | hi
    · rw [cat_left hi] at hp
      have hA : Ac ev ts (ptsP a) f k v := .gen hp hk hv h
      refine ⟨fun _ => hA, fun j hj => ?_⟩
      have hkn := (ptsP_next a p (List.mem_of_getElem? hp)).2 k hk
      rw [npL_len] at hkn
      obtain rfl : j = 0 := by omega
      exact .init hv ((hf v hv).2 (by rw [show npL a = k by omega]; exact hA))
    · obtain ⟨m, rfl⟩ : ∃ m, i = npL a + m := ⟨i - npL a, by omega⟩
      rw [cat_right, Option.map_eq_some_iff] at hp
      obtain ⟨q, hq, rfl⟩ := hp
      obtain ⟨n, hn, rfl⟩ := sh_next hk
      refine ⟨fun h => by omega, fun j hj => ?_⟩
      obtain rfl : j = n := by omega
      exact .gen hq hn hv h
  | @keep i k v p hp hk hi0 h ih =>
    have hv := hi0.lt
    rcases Nat.lt_or_ge i (npL a) with hi | hi
    · rw [cat_left hi] at hp
      have hA : Ac ev ts (ptsP a) f k v := .keep hp hk (ih.1 hi) h
      refine ⟨fun _ => hA, fun j hj => ?_⟩
      have hkn := (ptsP_next a p (List.mem_of_getElem? hp)).2 k hk
      rw [npL_len] at hkn
      obtain rfl : j = 0 := by omega
      exact .init hv ((hf v hv).2 (by rw [show npL a = k by omega]; exact hA))
    · obtain ⟨m, rfl⟩ : ∃ m, i = npL a + m := ⟨i - npL a, by omega⟩
      rw [cat_right, Option.map_eq_some_iff] at hp
      obtain ⟨q, hq, rfl⟩ := hp
      obtain ⟨n, hn, rfl⟩ := sh_next hk
      refine ⟨fun h => by omega, fun j hj => ?_⟩
      obtain rfl : j = n := by omega
      exact .keep hq hn (ih.2 m rfl) h
theorem Ac.join {ev : Bool} {ts : List Int} {a b : List St} {f f' j v : Nat} (hf : ∀ v, v < ts.length → (accB ev f' v = true ↔ Ac ev ts (ptsP a) f (npL a) v)) (h : Ac ev ts (ptsP b) f' j v) : Ac ev ts (ptsP (a ++ b)) f (npL a + j) v := by
  induction h with
  | @init v hv h => exact ((hf v hv).1 h).cat b
  | @gen i k v p hp hk hv h =>
    have e : npL a + k = k + npL a := by omega
    rw [e]
    exact .gen (p := shP (npL a) p) (by rw [cat_right, hp]; rfl) (next_sh hk) hv h
  | @keep i k v p hp hk _ h ih =>
    have e : npL a + k = k + npL a := by omega
    rw [e]
    exact .keep (p := shP (npL a) p) (by rw [cat_right, hp]; rfl) (next_sh hk) ih h
theorem Ac.cat_lt {ev : Bool} {ts : List Int} {a b : List St} {f i v : Nat} (hi : i < npL a) : Ac ev ts (ptsP (a ++ b)) f i v ↔ Ac ev ts (ptsP a) f i v := by
  constructor
  · intro h
    refine (h.split (f' := bm ts.length fun v => dec (Ac ev ts (ptsP a) f (npL a) v) != ev) (fun v hv => ?_)).1 hi
    unfold accB
    rw [bm_bit, decide_eq_true hv, Bool.true_and]
    refine Iff.trans ?_ (dec_iff (p := Ac ev ts (ptsP a) f (npL a) v))
    cases dec (Ac ev ts (ptsP a) f (npL a) v) <;> cases ev <;> simp
  · exact fun h => h.cat b
/-- what is needed in the first part is needed in the whole; what flows there flows in the whole -/
theorem Nd.cat {ts : List Int} {a : List St} (b : List St) {i v : Nat} (h : Nd ts (ptsP a) i v) : Nd ts (ptsP (a ++ b)) i v := by
  induction h with
  | @use i v p hp hv h =>
    have hi : i < npL a := by
      have h1 := (List.getElem?_eq_some_iff.1 hp).1
      rw [npL_len] at h1
      rcases Nat.lt_or_ge i (npL a) with h2 | h2
      · exact h2
      · have : i = npL a := by omega
        subst this
        rw [end_at] at hp
        injection hp with hp
        subst hp
        exact absurd rfl h
    exact .use (by rw [cat_left hi]; exact hp) hv h
  | flow hp hk _ h ih => exact .flow (by rw [cat_left (here_lt hp hk)]; exact hp) hk ih h
theorem Fl.cat {ts : List Int} {a : List St} {G : Nat → Pt → Nat → Bool} {C : Pt → Bool} (b : List St) {i v e : Nat} (h : Fl ts (ptsP a) G C i v e) : Fl ts (ptsP (a ++ b)) G C i v e := by
  induction h with
  | gen hp hk hv hs h => exact .gen (by rw [cat_left (here_lt hp hk)]; exact hp) hk hv hs h
  | copy hp hk hv hs hc _ ih => exact .copy (by rw [cat_left (here_lt hp hk)]; exact hp) hk hv hs hc ih
  | keep hp hk hv hs ht _ ih => exact .keep (by rw [cat_left (here_lt hp hk)]; exact hp) hk hv hs ht ih

end Go.Proofs.Ytidlifijgooceaa

/- Plain: what parts of a program give each other. No program in sight. -/
namespace Go.Proofs.Ytidlifijgooceaa

theorem valid_cat {ts : List Int} {a b : List St} (h : validP ts (a ++ b) = true) : validP ts a = true ∧ validP ts b = true := by
  unfold validP at h ⊢
  rw [slOk_append, szL_append] at h
  simp only [Bool.and_eq_true, decide_eq_true_eq] at h ⊢
  obtain ⟨h1, ⟨h2, h3⟩, h4⟩ := h
  exact ⟨⟨h1, h2, by omega⟩, h1, h3, by omega⟩
theorem givOk_always (ts : List Int) (pts : List Pt) (gv k : Nat) : givOk ts (alwaysAt ts pts gv k) = true := by
  unfold givOk alwaysAt
  rw [List.all_eq_true]
  intro x hx
  obtain ⟨e, h1, -, rfl⟩ := lst_mem.1 hx
  simp [withinP]; omega
/-- what a first part gives, given on -/
theorem giv_split {ts : List Int} {a : List St} {f : Nat} : ∀ v, v < ts.length → (accB true (givM ts (alwaysAt ts (ptsP a) f (npL a))) v = true ↔ Ac true ts (ptsP a) f (npL a) v) := by
  intro v hv
  unfold accB givM alwaysAt
  rw [bm_bit, lst_has, decide_eq_true hv, Bool.true_and, Bool.true_and]
  refine Iff.trans ?_ (dec_iff (p := Ac true ts (ptsP a) f (npL a) v))
  cases dec (Ac true ts (ptsP a) f (npL a) v) <;> simp
theorem lst_add (n m : Nat) (f : Nat → Bool) : (lst (n + m) f).length = (lst n f).length + (lst m fun j => f (n + j)).length := by
  induction m with
  | zero => simp [lst]
  | succ m ih =>
    rw [← Nat.add_assoc]
    cases h : f (n + m)
    · rw [lst_succ_false h, lst_succ_false (f := fun j => f (n + j)) h, ih]
    · rw [lst_succ_true h, lst_succ_true (f := fun j => f (n + j)) h, List.length_append, List.length_append, ih]; simp; omega
theorem end_opn {ts : List Int} {a : List St} {f : Nat} : ¬ Opn ts (ptsP a) f (npL a) := by
  rintro ⟨p, hp, v, -, hu, -⟩
  rw [end_at] at hp
  injection hp with hp
  subst hp
  exact hu rfl
theorem parts_follow {ts : List Int} {a b : List St} (hv : validP ts (a ++ b) = true) : (unsetRes ts (a ++ b)).length = (openRes ts a []).length + (openRes ts b (givesRes ts a [])).length := by
  obtain ⟨ha, hb⟩ := valid_cat hv
  have e0 : givesRes ts a [] = alwaysAt ts (ptsP a) (givM ts []) (npL a) := by
    unfold givesRes; rw [if_pos ⟨ha, rfl⟩, npL_len]; rfl
  have ez : givM ts [] = 0 := by
    apply Nat.eq_of_testBit_eq
    intro i
    unfold givM
    rw [bm_bit]; simp [hasP]
  rw [e0]
  unfold unsetRes openRes
  rw [if_pos hv, if_pos ⟨ha, rfl⟩, if_pos ⟨hb, givOk_always _ _ _ _⟩, ez]
  unfold opnL
  rw [cat_len, lst_add, npL_len a, lst_succ_false (dec_false end_opn)]
  congr 1
  · congr 1
    refine lst_congr fun i hi => dec_congr ?_
    unfold Opn
    rw [cat_left hi]
    exact ⟨fun ⟨p, hp, v, h1, h2, h3⟩ => ⟨p, hp, v, h1, h2, (Ac.cat_lt hi).1 h3⟩, fun ⟨p, hp, v, h1, h2, h3⟩ => ⟨p, hp, v, h1, h2, (Ac.cat_lt hi).2 h3⟩⟩
  · congr 1
    refine lst_congr fun j _ => dec_congr ?_
    unfold Opn
    rw [cat_right]
    constructor
    · rintro ⟨p, hp, v, h1, h2, h3⟩
      rw [Option.map_eq_some_iff] at hp
      obtain ⟨q, hq, rfl⟩ := hp
      exact ⟨q, hq, v, h1, h2, (h3.split giv_split).2 _ rfl⟩
    · rintro ⟨q, hq, v, h1, h2, h3⟩
      exact ⟨shP (npL a) q, by rw [hq]; rfl, v, h1, h2, Ac.join giv_split h3⟩

end Go.Proofs.Ytidlifijgooceaa

/- Words for the laws on split programs. -/
namespace Go.Proofs.Ytidlifijgooceaa
open Go.RowKit

theorem PgB.ofS {w w1 : World} {vt vb : Value} {ts : List Int} {l : List St} (hb : Below w.heap.size w w1) (ht : IntS w1 w1.heap.size vt ts) (hl : StS w1 w1.heap.size vb l) : PgB w (w1.alloc (.cells #[vt, vb] 26)) w1.heap.size vt vb ts l := by
  have hA := bel_a w1 (.cells #[vt, vb] 26)
  exact ⟨hb.trans (hA.mono hb.size), heap_alloc_new w1 _, (ht.low hA (Nat.le_refl _)).more hA.size, (hl.low hA (Nat.le_refl _)).more hA.size⟩
theorem spl_sz {q : Bool} {m : Nat} {l la lb : List St} (ha : la = if q then l.take m else []) (hb : lb = if q then l.drop m else []) : szL la ≤ szL l ∧ szL lb ≤ szL l := by
  have h1 := szL_append (l.take m) (l.drop m)
  rw [List.take_append_drop] at h1
  cases q
  · simp at ha hb; subst ha hb; simp [szL]
  · simp at ha hb; subst ha hb; omega
theorem spl_eq {ts tz : List Int} {l la lb : List St} {k : Int} (hq : splOk ts l k = true) (hz : tz = if splOk ts l k then ts else []) (ha : la = if splOk ts l k then l.take k.toNat else []) (hb : lb = if splOk ts l k then l.drop k.toNat else []) :
    tz = ts ∧ l = la ++ lb ∧ validP ts (la ++ lb) = true := by
  rw [hq, if_pos rfl] at hz ha hb
  subst hz ha hb
  rw [List.take_append_drop]
  refine ⟨rfl, rfl, ?_⟩
  unfold splOk at hq
  rw [Bool.and_eq_true] at hq
  exact hq.1
end Go.Proofs.Ytidlifijgooceaa
