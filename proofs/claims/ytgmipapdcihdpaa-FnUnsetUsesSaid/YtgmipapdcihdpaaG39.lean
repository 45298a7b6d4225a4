import Derived.Test.YtgmipapdcihdpaaG36
import Derived.Test.YtgmipapdcihdpaaG18
import Derived.IntWalk
import Derived.Test.YtgmipapdcihdpaaG38
import Derived.Test.YtgmipapdcihdpaaG37
set_option linter.unusedVariables false

/- impl: unset, givenSet, UnsetUses, OpenIssues, GivesOf. -/
namespace Go.Proofs.Ytgmipapdcihdpaa
open Go.RowKit

/-- point i uses a variable that need not have a value -/
def Opn (ts : List Int) (pts : List Pt) (given i : Nat) : Prop := ∃ p, pts[i]? = some p ∧ ∃ v, v < ts.length ∧ useP ts p.op p.x p.y (v : Nat) ≠ 0 ∧ Ac true ts pts given i v
noncomputable def opnL (ts : List Int) (pts : List Pt) (given : Nat) : List Int := lst pts.length fun i => dec (Opn ts pts given i)
theorem opn_bits {ts : List Int} {pts : List Pt} {given i : Nat} (h6 : ts.length ≤ 6) (hi : i < pts.length) : (andn (usedP ts pts[i].op pts[i].x pts[i].y) (fwdM true ts pts given i) != 0) = dec (Opn ts pts given i) := by
  rw [Bool.eq_iff_iff, dec_iff]
  have hb : ∀ v, v < 6 → (andn (usedP ts pts[i].op pts[i].x pts[i].y) (fwdM true ts pts given i)).testBit v = (decide (v < ts.length) && (useP ts pts[i].op pts[i].x pts[i].y (v : Nat) != 0) && dec (Ac true ts pts given i v)) := by
    intro v hv
    rw [andn_bit _ _ _ hv, usedP, bm_bit, fwdM, bm_bit]
    by_cases hvl : v < ts.length
    · simp [hvl]
    · simp [hvl]
  constructor
  · intro h
    simp only [bne_iff_ne, ne_eq] at h
    have : ∃ v, v < 6 ∧ (andn (usedP ts pts[i].op pts[i].x pts[i].y) (fwdM true ts pts given i)).testBit v = true := Classical.byContradiction fun hn => h (ext64 (andn_lt _ _) (by omega) fun v hv => by
      rw [Nat.zero_testBit, ← Bool.not_eq_true]
      exact fun hb => hn ⟨v, hv, hb⟩)
    obtain ⟨v, hv, hbv⟩ := this
    rw [hb v hv, Bool.and_eq_true, Bool.and_eq_true] at hbv
    exact ⟨_, List.getElem?_eq_getElem hi, v, by simpa using hbv.1.1, by simpa using hbv.1.2, dec_iff.1 hbv.2⟩
  · rintro ⟨p, hp, v, hv, hu, ha⟩
    rw [List.getElem?_eq_getElem hi] at hp
    injection hp with hp
    subst hp
    simp only [bne_iff_ne, ne_eq]
    intro h0
    have := hb v (by omega)
    rw [h0, Nat.zero_testBit, decide_eq_true hv, dec_true ha] at this
    simp at this
    exact hu this

set_option maxHeartbeats 4000000
theorem unset_any (vg : Value) (ts : List Int) (pts : List Pt) (given B : Nat) (w : World) (hg : GrS w B vg ts pts) (hB : B ≤ w.heap.size) (g : Good ts pts) (hgv : given < 2 ^ ts.length) :
    Calls Try.prog 70 #[vg, .int .i64 (given : Nat)] w (IntsRet w (opnL ts pts given)) := by
  have HGS := Lib.hid hg
  have HG := Lib.hid g
  have h6 := g.h6
  have hlen := g.len
  obtain ⟨gb, At, ct, vb, Al, cl, rfl, hgB, g0, g1, g2, ht, hp, htl, hpl⟩ := hg.open_
  go_enter Try.func70, Try.ntmps70
  go_wp2_with fail
  refine (alwaysSet_any _ ts pts B given _ HGS.out hB HG.out hgv).mono ?_
  rintro e w1 ⟨vm, rfl, hm, hb1⟩
  have hml : (msk (fwdL true ts pts given)).length = pts.length := by simp [msk, fwdL]
  obtain ⟨Am, cm, rfl, hcm, -, hrm⟩ := hm
  rw [hml] at hcm ⊢
  have HM := Lib.hid hrm
  have HML := Lib.hid hml
  have HB1 := Lib.hid hb1
  have hs1 := hb1.size
  have HGS1 := Lib.hid (HGS.out.low hb1 hB)
  have HPS := Lib.hid (hp.low hb1 hB)
  have g2' := (hb1.cell (p := ⟨gb, 2, none⟩) (by show gb < _; omega)).trans g2
  clear g hg hml hrm hb1 g0 g1 g2 ht hp
  have HO := Lib.hid (OutI.start (OInts.nil w1 w1.heap.size) (Nat.le_refl _))
  go_wp2_with fail
  go_loopw [5, 12] (fun v i wr => ∃ (k : Nat) (o : List Int), k ≤ pts.length ∧ i = .int .i64 k ∧ o = lst k (fun i => dec (Opn ts pts given i)) ∧ OutI w1 wr w1.heap.size v o) (fun _ i _ => pts.length - (intOf i).toNat)
  case atStart => exact ⟨0, [], by omega, rfl, rfl, HO.out⟩
  case round =>
    obtain ⟨k, o, hk, rfl, ho, hO⟩ := hrel
    have HOR := Lib.hid hO
    have HOL := Lib.hid ho
    have hol : o.length ≤ k := by rw [ho]; exact lst_len _ _
    have hK := hO.kp
    have hsr := hK.2
    obtain ⟨A', c', rfl, hc'⟩ := hO.lenc
    have d2 := hK.1 _ _ _ g2'
    have HKP := Lib.hid hK
    clear hO ho hK
    by_cases hlt : k < pts.length
    · obtain ⟨b, off, c, nv, e, hb, hc, hl, hnx, p0, p1, p2, p3, p4⟩ := HPS.out.get hlt
      injection e with e1 _ e2
      subst e1 e2
      have hkm : k < (msk (fwdL true ts pts given)).length := by rw [HML.out]; exact hlt
      obtain ⟨bm', om, rfl, hbm, hcell⟩ := HM.out.int_at hkm
      have hck := hcell k hkm
      rw [msk_get (by simpa [fwdL] using hlt), fwdL_get hlt] at hck
      have d3 := HKP.out.1 _ _ _ hck
      have q0 := HKP.out.1 _ _ _ p0
      have q1 := HKP.out.1 _ _ _ p1
      have q2 := HKP.out.1 _ _ _ p2
      have q3 := HKP.out.1 _ _ _ p3
      have q4 := HKP.out.1 _ _ _ p4
      have HOP := Lib.hid (opn_bits (given := given) h6 hlt)
      have hu64 := usedP_lt h6 pts[k].op pts[k].x pts[k].y
      have hm64 : fwdM true ts pts given k < 64 := bm_lt64 h6 _
      generalize fwdM true ts pts given k = mk at *
      generalize pts[k] = P at *
      clear hcell hck p0 p1 p2 p3 p4
      go_wp2_with fail
      refine (used_any _ ts pts B P.op P.x P.y P.n nv _ (HGS1.out.low HOR.out.bel (by omega)) (by omega) h6).mono ?_
      · rintro e w2 ⟨rfl, hb2⟩
        have HO2 := Lib.hid (HOR.out.belc hb2)
        clear hb2
        have hst : bits .andNot .i64 (usedP ts P.op P.x P.y : Nat) (mk : Nat) = ((andn (usedP ts P.op P.x P.y) mk : Nat) : Int) := andn_small hu64 hm64
        have hst2 : (((andn (usedP ts P.op P.x P.y) mk : Nat) : Int) != 0) = dec (Opn ts pts given k) := by
          rw [← HOP.out, Bool.eq_iff_iff]; simp
        cases hd : dec (Opn ts pts given k)
        · have HD := Lib.hid hd
          rw [hd] at hst2
          clear hd
          go_wp2_with (at_builtin; fail)
          exact ⟨⟨k + 1, o, by omega, by go_num, by rw [HOL.out, lst_succ_false HD.out], HO2.out⟩, by simp [intOf] <;> omega⟩
        · have HD := Lib.hid hd
          rw [hd] at hst2
          clear hd
          go_wp2_with (at_builtin; go_must (refine wpList_push_outI rfl (.tmp 29) (.tmp 31) rfl HO2.out (by omega) _ rfl rfl ?_); intro v' w' hP')
          exact ⟨⟨k + 1, _, by omega, by go_num, by rw [HOL.out, lst_succ_true HD.out], hP'⟩, by simp [intOf] <;> omega⟩
    · have hke : k = pts.length := by omega
      go_wp2_with (at_builtin; fail)
      go_ret
      refine ⟨_, rfl, ?_, HB1.out.trans (HOR.out.bel.mono hs1)⟩
      unfold opnL
      rw [← hke, ← HOL.out]
      exact HOR.out.toS (by omega)

noncomputable def unsetRes (ts : List Int) (l : List St) : List Int := if validP ts l = true then opnL ts (ptsP l) 0 else []
/-- the set of the given variables, if they are all there -/
def givOk (ts : List Int) (gv : List Int) : Bool := gv.all fun v => withinP v 0 ((ts.length : Int) - 1)
def givM (ts : List Int) (gv : List Int) : Nat := bm ts.length fun v => hasP gv (v : Nat)
noncomputable def openRes (ts : List Int) (l : List St) (gv : List Int) : List Int := if validP ts l = true ∧ givOk ts gv = true then opnL ts (ptsP l) (givM ts gv) else []
noncomputable def givesRes (ts : List Int) (l : List St) (gv : List Int) : List Int := if validP ts l = true ∧ givOk ts gv = true then alwaysAt ts (ptsP l) (givM ts gv) ((ptsP l).length - 1) else []

theorem iUnsetUses_any (vt vb : Value) (ts : List Int) (l : List St) (B : Nat) (w : World) (ht : IntS w B vt ts) (hl : StS w B vb l) (hB : B ≤ w.heap.size) (hsz : szL l ≤ 4194300) :
    Calls Try.prog 34 #[.agg #[vt, vb]] w (IntsRet w (unsetRes ts l)) := by
  go_enter Try.func34, Try.ntmps34
  go_wp2_with fail
  refine (graphOf_any vt vb _ ts l [] w.heap.size _ ((ht.low (bel_a _ _) hB).more hB) ((hl.low (bel_a _ _) hB).more hB) ((OInts.nil w 0).toS (by simp) |>.low (bel_a _ _) (Nat.le_refl _)) (by simp) hsz).mono ?_
  rintro e w1 ⟨vg, rfl, hgr, hb1⟩
  have HB3 := Lib.hid ((bel_a _ _).trans (hb1.mono (by simp)))
  rw [graphOk_nil] at hgr ⊢
  clear hb1
  cases hok : validP ts l
  · have HRES : Hid (unsetRes ts l = []) := Lib.hid (by unfold unsetRes; rw [hok]; rfl)
    clear hok hgr
    go_wp2_with fail
    go_ret
    exact ⟨_, rfl, by rw [HRES.out]; exact IntS.nil' _ _ _ _, HB3.out⟩
  · have G := Good.of_valid hok
    have HGG := Lib.hid (hgr hok)
    have HRES : Hid (unsetRes ts l = opnL ts (ptsP l) 0) := Lib.hid (by unfold unsetRes; rw [if_pos hok])
    clear hok hgr
    go_wp2_with fail
    refine (unset_any vg ts (ptsP l) 0 _ _ HGG.out (Nat.le_refl _) G (Nat.two_pow_pos _)).mono ?_
    rintro e w2 ⟨v2, rfl, hi2, hb2⟩
    go_wp2_with fail
    go_ret
    exact ⟨v2, rfl, by rw [HRES.out]; exact hi2, HB3.out.trans (hb2.mono HB3.out.size)⟩

theorem hasP_snoc (l : List Int) (x n : Int) : hasP (l ++ [x]) n = (hasP l n || (n == x)) := by
  rw [Bool.eq_iff_iff, Bool.or_eq_true, hasP_iff, hasP_iff, List.mem_append, List.mem_singleton, beq_iff_eq]
theorem givM_snoc {ts gv : List Int} {k : Nat} (hk : k < ts.length) : givM ts (gv ++ [(k : Int)]) = givM ts gv ||| 2 ^ k := by
  apply Nat.eq_of_testBit_eq
  intro i
  rw [givM, givM, Nat.testBit_or, bm_bit, bm_bit, Nat.testBit_two_pow, hasP_snoc]
  by_cases hi : i < ts.length
  · rw [decide_eq_true hi, Bool.true_and, Bool.true_and]
    congr 1
    rw [Bool.eq_iff_iff]; simp; omega
  · rw [decide_eq_false hi]
    have : k ≠ i := by omega
    simp [this]
theorem givOk_take {ts gv : List Int} {k : Nat} (hk : k < gv.length) : givOk ts (gv.take (k + 1)) = (givOk ts (gv.take k) && withinP gv[k] 0 ((ts.length : Int) - 1)) := by
  unfold givOk; rw [take_succ_get gv k hk, List.all_append]; simp
theorem givOk_no {ts gv : List Int} {k : Nat} (hk : k < gv.length) (h : withinP gv[k] 0 ((ts.length : Int) - 1) = false) : givOk ts gv = false := by
  unfold givOk
  rw [List.all_eq_false]
  exact ⟨gv[k], List.getElem_mem hk, by rw [h]; simp⟩

def GivRet (w : World) (ts gv : List Int) (e : Ending) (w' : World) : Prop := w = w' ∧ ∃ m : Nat, e = .returned (.tuple #[.int .i64 (m : Nat), .bool (givOk ts gv)]) ∧ (givOk ts gv = true → m = givM ts gv)
theorem givenSet_any (vg va : Value) (ts gv : List Int) (pts : List Pt) (B B' : Nat) (w : World) (hg : GrS w B vg ts pts) (ha : IntS w B' va gv) (h6 : ts.length ≤ 6) :
    Calls Try.prog 69 #[vg, va] w (GivRet w ts gv) := by
  have HGS := Lib.hid hg
  obtain ⟨A, c, rfl, hc, hl, hr⟩ := ha
  have HR := Lib.hid hr
  clear hg hr
  go_enter Try.func69, Try.ntmps69
  go_wp2_with fail
  go_loop [6, 11] (fun s i => ∃ (k m : Nat), k ≤ gv.length ∧ i = .int .i64 k ∧ s = .int .i64 (m : Nat) ∧ m = givM ts (gv.take k) ∧ m < 64 ∧ givOk ts (gv.take k) = true) (fun _ i => gv.length - (intOf i).toNat)
  case atStart => exact ⟨0, 0, by omega, rfl, rfl, by simp [givM, hasP]; exact (bm_congr (n := ts.length) (g := fun _ => false) (fun _ _ => rfl) ▸ (by apply Nat.eq_of_testBit_eq; intro i; rw [bm_bit]; simp)), by omega, by simp [givOk]⟩
  case round =>
    obtain ⟨k, m, hk, rfl, rfl, hm, hm64, hok⟩ := hrel
    have HM := Lib.hid hm
    have HOK := Lib.hid hok
    clear hm hok
    by_cases hlt : k < gv.length
    · obtain ⟨b, off, rfl, hb, hcell⟩ := HR.out.int_at hlt
      have hck := hcell k hlt
      rw [getD_lt hlt] at hck
      have HTK := Lib.hid (take_succ_get gv k hlt)
      have HGT := Lib.hid (givOk_take (ts := ts) hlt)
      have HGN := Lib.hid (givOk_no (ts := ts) hlt)
      clear hcell
      generalize gv[k] = x at *
      go_wp2_with fail
      refine (isVar_any _ ts pts B x _ HGS.out).mono ?_
      rintro e w1 ⟨rfl, rfl⟩
      cases hx : withinP x 0 ((ts.length : Int) - 1)
      · have HN := Lib.hid (HGN.out hx)
        clear hx
        go_wp2_with fail
        go_ret2
        exact ⟨rfl, 0, by rw [HN.out]; rfl, fun h => by rw [HN.out] at h; cases h⟩
      · have HX := Lib.hid hx
        have hxr : 0 ≤ x ∧ x < ts.length := by unfold withinP at hx; simp at hx; omega
        obtain ⟨hx0, hx1⟩ := hxr
        obtain ⟨j, rfl⟩ := Int.eq_ofNat_of_zero_le hx0
        have hj6 : j ≤ 5 := by omega
        have HS := Lib.hid (givM_snoc (ts := ts) (gv := gv.take k) (k := j) (by omega))
        clear hx
        go_wp2_with fail
        refine ⟨⟨k + 1, givM ts (gv.take k) ||| 2 ^ j, by omega, by go_num, ?_, by rw [HTK.out, HS.out], ?_, by rw [HGT.out, HOK.out, HX.out]; rfl⟩, by simp [intOf] <;> omega⟩
        · rw [pow_small (by omega), or_small hm64 (two_pow_lt (by omega)), ← HM.out]
        · exact Nat.or_lt_two_pow (n := 6) (by rw [← HM.out]; exact hm64) (two_pow_lt (by omega))
    · have hke : gv.take k = gv := List.take_of_length_le (by omega)
      have HKE := Lib.hid hke
      clear hke
      go_wp2_with fail
      go_ret2
      rw [HKE.out] at HM HOK
      exact ⟨rfl, m, by rw [HOK.out]; rfl, fun _ => HM.out⟩

theorem iOpenIssues_any (vt vb va : Value) (ts gv : List Int) (l : List St) (B : Nat) (w : World) (ht : IntS w B vt ts) (hl : StS w B vb l) (ha : IntS w B va gv) (hB : B ≤ w.heap.size) (hsz : szL l ≤ 4194300) :
    Calls Try.prog 33 #[.agg #[vt, vb], va] w (IntsRet w (openRes ts l gv)) := by
  go_enter Try.func33, Try.ntmps33
  go_wp2_with fail
  refine (graphOf_any vt vb _ ts l [] w.heap.size _ ((ht.low (bel_a _ _) hB).more hB) ((hl.low (bel_a _ _) hB).more hB) ((OInts.nil w 0).toS (by simp) |>.low (bel_a _ _) (Nat.le_refl _)) (by simp) hsz).mono ?_
  rintro e w1 ⟨vg, rfl, hgr, hb1⟩
  have HB3 := Lib.hid ((bel_a _ _).trans (hb1.mono (by simp)))
  have HA := Lib.hid (ha.low HB3.out hB)
  rw [graphOk_nil] at hgr ⊢
  clear hb1
  cases hok : validP ts l
  · have HRES : Hid (openRes ts l gv = []) := Lib.hid (by unfold openRes; rw [if_neg (by rw [hok]; simp)])
    clear hok hgr
    go_wp2_with fail
    go_ret
    exact ⟨_, rfl, by rw [HRES.out]; exact IntS.nil' _ _ _ _, HB3.out⟩
  · have G := Lib.hid (Good.of_valid hok)
    have HGG := Lib.hid (hgr hok)
    have HV := Lib.hid hok
    clear hok hgr
    go_wp2_with fail
    refine (givenSet_any vg va ts gv (ptsP l) _ _ _ HGG.out HA.out G.out.h6).mono ?_
    rintro e w2 ⟨rfl, m, rfl, hm⟩
    cases hgo : givOk ts gv
    · have HRES : Hid (openRes ts l gv = []) := Lib.hid (by unfold openRes; rw [if_neg (by rw [hgo]; simp)])
      clear hgo hm
      go_wp2_with fail
      go_ret
      exact ⟨_, rfl, by rw [HRES.out]; exact IntS.nil' _ _ _ _, HB3.out⟩
    · obtain rfl := hm hgo
      have hml : givM ts gv < 2 ^ ts.length := bm_lt _ _
      have HML := Lib.hid hml
      have HRES : Hid (openRes ts l gv = opnL ts (ptsP l) (givM ts gv)) := Lib.hid (by unfold openRes; rw [if_pos ⟨HV.out, hgo⟩])
      clear hgo hm hml
      generalize givM ts gv = M at *
      go_wp2_with fail
      refine (unset_any vg ts (ptsP l) M _ _ HGG.out (Nat.le_refl _) G.out HML.out).mono ?_
      rintro e w2 ⟨v2, rfl, hi2, hb2⟩
      go_wp2_with fail
      go_ret
      exact ⟨v2, rfl, by rw [HRES.out]; exact hi2, HB3.out.trans (hb2.mono HB3.out.size)⟩

theorem iGivesOf_any (vt vb va : Value) (ts gv : List Int) (l : List St) (B : Nat) (w : World) (ht : IntS w B vt ts) (hl : StS w B vb l) (ha : IntS w B va gv) (hB : B ≤ w.heap.size) (hsz : szL l ≤ 4194300) :
    Calls Try.prog 42 #[.agg #[vt, vb], va] w (IntsRet w (givesRes ts l gv)) := by
  go_enter Try.func42, Try.ntmps42
  go_wp2_with fail
  refine (graphOf_any vt vb _ ts l [] w.heap.size _ ((ht.low (bel_a _ _) hB).more hB) ((hl.low (bel_a _ _) hB).more hB) ((OInts.nil w 0).toS (by simp) |>.low (bel_a _ _) (Nat.le_refl _)) (by simp) hsz).mono ?_
  rintro e w1 ⟨vg, rfl, hgr, hb1⟩
  have HB3 := Lib.hid ((bel_a _ _).trans (hb1.mono (by simp)))
  have HA := Lib.hid (ha.low HB3.out hB)
  rw [graphOk_nil] at hgr ⊢
  clear hb1
  cases hok : validP ts l
  · have HRES : Hid (givesRes ts l gv = []) := Lib.hid (by unfold givesRes; rw [if_neg (by rw [hok]; simp)])
    clear hok hgr
    go_wp2_with fail
    go_ret
    exact ⟨_, rfl, by rw [HRES.out]; exact IntS.nil' _ _ _ _, HB3.out⟩
  · have G := Lib.hid (Good.of_valid hok)
    have HGG := Lib.hid (hgr hok)
    have HV := Lib.hid hok
    clear hok hgr
    go_wp2_with fail
    refine (givenSet_any vg va ts gv (ptsP l) _ _ _ HGG.out HA.out G.out.h6).mono ?_
    rintro e w2 ⟨rfl, m, rfl, hm⟩
    cases hgo : givOk ts gv
    · have HRES : Hid (givesRes ts l gv = []) := Lib.hid (by unfold givesRes; rw [if_neg (by rw [hgo]; simp)])
      clear hgo hm
      go_wp2_with fail
      go_ret
      exact ⟨_, rfl, by rw [HRES.out]; exact IntS.nil' _ _ _ _, HB3.out⟩
    · obtain rfl := hm hgo
      have hml : givM ts gv < 2 ^ ts.length := bm_lt _ _
      have HML := Lib.hid hml
      have HRES : Hid (givesRes ts l gv = alwaysAt ts (ptsP l) (givM ts gv) ((ptsP l).length - 1)) := Lib.hid (by unfold givesRes; rw [if_pos ⟨HV.out, hgo⟩])
      clear hgo hm hml
      generalize givM ts gv = M at *
      obtain ⟨g, At, ct, vb', Al, cl, rfl, hgB, g0, g1, g2, -, hp, -, -⟩ := HGG.out.open_
      have hpos := G.out.pos
      have hlen := G.out.len
      have h6 := G.out.h6
      generalize hpts : ptsP l = pts at *
      obtain ⟨k, hk⟩ : ∃ k, pts.length = k + 1 := ⟨pts.length - 1, by omega⟩
      have HK := Lib.hid hk
      have hk61 : k ≤ 60 := by omega
      obtain ⟨np, hnp⟩ : ∃ np, np = k + 1 := ⟨_, rfl⟩
      rw [hk, ← hnp] at g2
      have HNP := Lib.hid hnp
      have hw9 : IntKind.i64.wrap (k : Int) = (k : Int) := IntWalk.i64_in _ (by omega)
      have hw8 : ((np : Int) - 1) = (k : Int) := by omega
      have hkn : (k : Int) < (np : Int) := by omega
      have hk0 : (0 : Int) ≤ (k : Int) := by omega
      have hkn2 : k < np := by omega
      have hkn3 : ¬ (k : Int) < 0 := by omega
      have BEL : Hid (∀ w', w'.cell? ⟨g, 2, none⟩ = some (.slice Al np cl) ∧ Below w1.heap.size w1 w' → Below w1.heap.size w1 w') := Lib.hid fun _ h => h.2
      clear hpts hk g0 g1 hp hpos hnp
      go_wp2_with fail
      refine wp_region_noPanic ?_
      refine wp_region_held_drew (S := (fun w' => w'.cell? ⟨g, 2, none⟩ = some (.slice Al np cl) ∧ Below w1.heap.size w1 w')) (by kernel_rfl) ?_ (fun hHeld => ?_)
      · exact ⟨g2, (Below.refl _ _).drew⟩
      refine wpAnyH_take (i := 0) (oi := ⟨some 23, _, _, _, _, _⟩) (v := ?_) rfl (by kernel_rfl) (by kernel_rfl) (by kernel_rfl) (fun _ _ _ h => h) (Or.inl ⟨by rfl, fun w' hSw => ?_⟩) (by assumption) ?_
      rotate_left
      · (try dsimp only at hSw); go_simp; (try with_reducible rfl)
      (try simp only [Act.put, List.setIfInBounds_toArray, List.set_cons_zero, List.set_cons_succ])
      refine wpAnyH_take (i := 1) (oi := ⟨some 24, _, _, _, _, _⟩) (v := ?_) rfl (by kernel_rfl) (by kernel_rfl) (by kernel_rfl) (fun _ _ _ h => h) (Or.inl ⟨by rfl, fun w' hSw => ?_⟩) (by assumption) ?_
      rotate_left
      · (try dsimp only at hSw); go_simp; (try with_reducible rfl)
      (try simp only [Act.put, List.setIfInBounds_toArray, List.set_cons_zero, List.set_cons_succ])
      refine wpAnyH_take (i := 3) (oi := ⟨some 26, _, _, _, _, _⟩) (v := ?_) rfl (by kernel_rfl) (by kernel_rfl) (by kernel_rfl) (fun _ _ _ h => h) (Or.inl ⟨by rfl, fun w' hSw => ?_⟩) (by assumption) ?_
      rotate_left
      · (try dsimp only at hSw); go_simp; (try with_reducible rfl)
      (try simp only [Act.put, List.setIfInBounds_toArray, List.set_cons_zero, List.set_cons_succ])
      refine wpAnyH_take (i := 4) (oi := ⟨some 27, _, _, _, _, _⟩) (v := ?_) rfl (by kernel_rfl) (by kernel_rfl) (by kernel_rfl) (fun _ _ _ h => h) (Or.inl ⟨by rfl, fun w' hSw => ?_⟩) (by assumption) ?_
      rotate_left
      · (try dsimp only at hSw); go_simp; (try with_reducible rfl)
      (try simp only [Act.put, List.setIfInBounds_toArray, List.set_cons_zero, List.set_cons_succ])
      refine wpAnyH_take (i := 5) (oi := ⟨some 28, _, _, _, _, _⟩) (v := ?_) rfl (by kernel_rfl) (by kernel_rfl) (by kernel_rfl) (fun _ _ _ h => h) (Or.inl ⟨by rfl, fun w' hSw => ?_⟩) (by assumption) ?_
      rotate_left
      · (try dsimp only at hSw); go_simp; (try with_reducible rfl)
      (try simp only [Act.put, List.setIfInBounds_toArray, List.set_cons_zero, List.set_cons_succ])
      refine wpAnyH_take (i := 6) (oi := ⟨some 29, _, _, _, _, _⟩) (v := ?_) rfl (by kernel_rfl) (by kernel_rfl) (by kernel_rfl) (fun _ _ _ h => h) (Or.inl ⟨by rfl, fun w' hSw => ?_⟩) (by assumption) ?_
      rotate_left
      · (try dsimp only at hSw); go_simp; (try with_reducible rfl)
      (try simp only [Act.put, List.setIfInBounds_toArray, List.set_cons_zero, List.set_cons_succ])
      refine wpAnyH_take (i := 7) (oi := ⟨some 30, _, _, _, _, _⟩) (v := ?_) rfl (by kernel_rfl) (by kernel_rfl) (by kernel_rfl) (fun _ _ _ h => h) (Or.inl ⟨by rfl, fun w' hSw => ?_⟩) (by assumption) ?_
      rotate_left
      · (try dsimp only at hSw); go_simp; (try with_reducible rfl)
      (try simp only [Act.put, List.setIfInBounds_toArray, List.set_cons_zero, List.set_cons_succ])
      refine wpAnyH_take (i := 8) (oi := ⟨some 31, _, _, _, _, _⟩) (v := ?_) rfl (by kernel_rfl) (by kernel_rfl) (by kernel_rfl) (fun _ _ _ h => h) (Or.inl ⟨by rfl, fun w' hSw => ?_⟩) (by assumption) ?_
      rotate_left
      · (try dsimp only at hSw); go_simp; (try with_reducible rfl)
      (try simp only [Act.put, List.setIfInBounds_toArray, List.set_cons_zero, List.set_cons_succ])
      refine wpAnyH_ready (rs := [2]) (by kernel_rfl) (by simp) ?_
      refine AllReadyH.cons (o := ⟨some 25, _, _, _, _, _⟩) rfl (fun K hK => ?_) AllReadyH.nil
      go_simp
      (refine (alwaysSet_any _ ts pts w1.heap.size M _ (HGG.out.low (BEL.out _ (by assumption)) (Nat.le_refl _)) (by have := (BEL.out _ (by assumption)).size; omega) G.out HML.out).mono ?_)
      (rintro e w2 ⟨vm, rfl, hm, hb2⟩)
      (have BX2 := Lib.hid ((BEL.out _ (by assumption)).trans (hb2.mono (BEL.out _ (by assumption)).size)))
      (have g22 := (BX2.out.cell (p := ⟨g, 2, none⟩) hgB).trans g2)
      (have hml : (msk (fwdL true ts pts M)).length = np := by simp [msk, fwdL, HK.out, HNP.out])
      (obtain ⟨Am, cm, rfl, hcm, -, hrm⟩ := hm)
      (rw [hml] at hcm ⊢)
      (obtain ⟨bm', om, rfl, hbm, hcell⟩ := hrm.int_at (k := k) (by rw [hml]; omega))
      (have hck := hcell k (by rw [hml]; omega))
      (rw [msk_get (by simp [fwdL, HK.out]), fwdL_get (by rw [HK.out]; omega)] at hck)
      (have HBB := Lib.hid (bits_any (fwdM true ts pts M k) (bm_lt64 h6 _)))
      clear hcell hrm hml hb2
      go_simp
      refine hK.out _ _ ?_ (fun hHeld => ?_)
      · exact ⟨g22, BX2.out⟩
      clear hK K
      (try simp only [Act.put, List.setIfInBounds_toArray, List.set_cons_zero, List.set_cons_succ])
      refine wpAnyH_take (i := 9) (oi := ⟨some 32, _, _, _, _, _⟩) (v := ?_) rfl (by kernel_rfl) (by kernel_rfl) (by kernel_rfl) (fun _ _ _ h => h) (Or.inl ⟨by rfl, fun w' hSw => ?_⟩) (by assumption) ?_
      rotate_left
      · (try dsimp only at hSw); go_simp; (try with_reducible rfl)
      (try simp only [Act.put, List.setIfInBounds_toArray, List.set_cons_zero, List.set_cons_succ])
      refine wpAnyH_ready (rs := [10]) (by kernel_rfl) (by simp) ?_
      refine AllReadyH.cons (o := ⟨some 33, _, _, _, _, _⟩) rfl (fun K hK => ?_) AllReadyH.nil
      go_simp
      refine hK.out _ _ ?_ (fun hHeld => ?_)
      · exact ⟨g22, BX2.out⟩
      clear hK K
      (try simp only [Act.put, List.setIfInBounds_toArray, List.set_cons_zero, List.set_cons_succ])
      refine wpAnyH_ready (rs := [11]) (by kernel_rfl) (by simp) ?_
      refine AllReadyH.cons (o := ⟨some 34, _, _, _, _, _⟩) rfl (fun K hK => ?_) AllReadyH.nil
      go_simp
      (refine (HBB.out _).mono ?_)
      (rintro e w3 ⟨v3, rfl, hi3, hb3⟩)
      (have BX3 := Lib.hid (BX2.out.trans (hb3.mono BX2.out.size)))
      (have g23 := (BX3.out.cell (p := ⟨g, 2, none⟩) hgB).trans g2)
      go_simp
      refine hK.out _ _ ?_ (fun hHeld => ?_)
      · exact ⟨g23, BX3.out⟩
      clear hK K
      (try simp only [Act.put, List.setIfInBounds_toArray, List.set_cons_zero, List.set_cons_succ])
      refine wpAnyH_take (i := 12) (oi := ⟨some 4, _, _, _, _, _⟩) (v := ?_) rfl (by kernel_rfl) (by kernel_rfl) (by kernel_rfl) (fun _ _ _ h => h) (Or.inl ⟨by rfl, fun w' hSw => ?_⟩) (by assumption) ?_
      rotate_left
      · (try dsimp only at hSw); go_simp; (try with_reducible rfl)
      (try simp only [Act.put, List.setIfInBounds_toArray, List.set_cons_zero, List.set_cons_succ])
      refine wpAnyH_done (by kernel_rfl) ?_ _
      refine NoPanic.normal ?_
      go_wp2_with fail
      go_ret
      refine ⟨v3, rfl, ?_, HB3.out.trans (BX3.out.mono HB3.out.size)⟩
      rw [HRES.out, ← always_bits h6, HK.out]
      exact hi3

end Go.Proofs.Ytgmipapdcihdpaa

/- FnEndLive: the plain law, the walk. -/
namespace Go.Proofs.Ytgmipapdcihdpaa
open Go.RowKit

theorem trB_take {ts : List Int} {p : Pt} {v : Nat} (hv : v < ts.length) (hu : useP ts p.op p.x p.y (v : Nat) = 2) (hs : setsP p.op p.x ≠ (v : Nat)) : trB true ts p false v = true := by
  unfold trB
  have h1 : (takenP ts p.op p.x p.y).testBit v = true := by
    unfold takenP
    rw [bm_bit]
    simp [hv, hu]
  have h2 : (setBitP p.op p.x).testBit v = false := by rw [setBit_bit]; simp [hs]
  rw [h1, h2]; rfl
theorem trB_keep {ts : List Int} {p : Pt} {v : Nat} (hs : setsP p.op p.x ≠ (v : Nat)) : trB true ts p true v = true := by
  unfold trB
  have h2 : (setBitP p.op p.x).testBit v = false := by rw [setBit_bit]; simp [hs]
  rw [h2]; simp
theorem opn_of_nd {ts : List Int} {pts : List Pt} {gv k v : Nat} (h : Nd ts pts k v) (ha : Ac true ts pts gv k v) : ∃ j, Opn ts pts gv j := by
  induction h with
  | @use k v p hp hv hu => exact ⟨_, p, hp, v, hv, hu, ha⟩
  | @flow k j v p hp hj hd hs ih => exact ih (.keep hp hj ha (trB_keep hs))
theorem opn_lt {ts : List Int} {pts : List Pt} {gv j : Nat} (h : Opn ts pts gv j) : j < pts.length := by
  obtain ⟨p, hp, _⟩ := h
  rcases Nat.lt_or_ge j pts.length with h | h
  · exact h
  · rw [List.getElem?_eq_none h] at hp; cases hp
theorem opnL_ne {ts : List Int} {pts : List Pt} {gv j : Nat} (h : Opn ts pts gv j) : opnL ts pts gv ≠ [] := by
  intro e
  have hm : ((j : Nat) : Int) ∈ opnL ts pts gv := lst_mem.2 ⟨j, opn_lt h, dec_true h, rfl⟩
  rw [e] at hm; cases hm
theorem ok_of_use {ts : List Int} {l : List St} {a : Int} {v : Nat} (h : useRes ts l a v ≠ 0) : graphOk ts l [a] = true ∧ useRes ts l a v = useP ts (ptAt (ptsP l) a).op (ptAt (ptsP l) a).x (ptAt (ptsP l) a).y v := by
  unfold useRes at h ⊢
  split at h
  · rename_i h'; exact ⟨h'.1, if_pos h'⟩
  · exact absurd rfl h
theorem end_live (ts : List Int) (l : List St) (a : Int) {v : Nat} (hv : v < ts.length) (hu : useRes ts l a v = 2) (hl : hasP (liveRes ts l a) v = true) (hs : setRes ts l a ≠ v) : unsetRes ts l ≠ [] := by
  obtain ⟨hok, hue⟩ := ok_of_use (by rw [hu]; decide)
  obtain ⟨hva, k, rfl, hk⟩ := graphOk_one hok
  rw [ptAt_nat hk] at hue
  have hp : (ptsP l)[k]? = some (ptsP l)[k] := List.getElem?_eq_getElem hk
  unfold liveRes at hl
  rw [if_pos hok, show ((k : Nat) : Int).toNat = k from rfl, liveAt_has hp hv, List.any_eq_true] at hl
  obtain ⟨j, hj, hd⟩ := hl
  unfold setRes at hs
  rw [if_pos hok, ptAt_nat hk] at hs
  obtain ⟨i, hi⟩ := opn_of_nd (dec_iff.1 hd) (Ac.gen (ev := true) (first := 0) hp hj hv (trB_take hv (by rw [← hue]; exact hu) hs))
  unfold unsetRes
  rw [if_pos hva]
  exact opnL_ne hi
theorem live_last (ts : List Int) (l : List St) : liveRes ts l (((pointsP ts l).length : Int) - 1) = [] := by
  cases hok : graphOk ts l [((pointsP ts l).length : Int) - 1]
  · unfold liveRes; rw [hok]; rfl
  · obtain ⟨hv, k, e, hk⟩ := graphOk_one hok
    unfold liveRes
    rw [if_pos hok, e, show ((k : Nat) : Int).toNat = k from rfl]
    have hkl : k = (ptsL 0 l).length := by
      unfold pointsP at e; rw [if_pos hv, ptsP_len] at e; omega
    unfold liveAt
    have hg : (ptsP l)[k]? = some ⟨11, 0, 0, 0, []⟩ := by rw [hkl]; simp [ptsP]
    rw [hg]
    simp [lst]

set_option maxHeartbeats 8000000
set_option maxRecDepth 100000
theorem fnEndLive_any (A : Option Addr) (n c : Nat) (w : World) (hb : Byt w w.heap.size A n) (hm : n ≤ maxLen) (hc : n ≤ c) :
    Calls Try.prog 10 #[.slice A n c] w (LawRet w) := by
  have HB := Lib.hid hb
  clear hb
  by_cases hn : n ≤ 1048576
  · go_enter Try.func10, Try.ntmps10
    go_wp2_with fail
    refine (drawLiveAfter_any A n c _ HB.out hn hc).mono ?_
    rintro e w1 ⟨vt, vb, ts, l, a, rfl, hit, hst, hts, hsz, hb1⟩
    have HP := Lib.hid (PgB.new hit hst hb1)
    obtain ⟨At, ct, rfl, hct⟩ := hit.slice
    obtain ⟨Ab, cb, rfl, hcb⟩ := hst.slice
    clear hit hst hb1
    go_wp2_with fail
    generalize w1.alloc (.cells #[.slice At ts.length ct, .slice Ab l.length cb] 26) = W1 at *
    obtain ⟨g, hg⟩ : ∃ g, g = w1.heap.size := ⟨_, rfl⟩
    rw [← hg] at HP ⊢
    clear hg
    refine (iLiveAfter_any _ _ ts l a _ _ HP.out.ht HP.out.hl (Nat.le_refl _) (by omega)).mono ?_
    rintro e w2 ⟨v2, rfl, hv2, hb2⟩
    have HP2 := Lib.hid (HP.out.bels hb2)
    have HV2 := Lib.hid hv2
    have c0 := HP2.out.c0
    have c1 := HP2.out.c1
    clear hv2 hb2
    go_wp2_with fail
    refine (sLiveAfter_any _ _ ts l a _ _ HP2.out.ht HP2.out.hl (Nat.le_refl _) (by omega)).mono ?_
    rintro e w4 ⟨v4, rfl, hv4, hb4⟩
    have HP4 := Lib.hid (HP2.out.bels hb4)
    have HV4 := Lib.hid (HV2.out.bel hb4)
    have HW4 := Lib.hid hv4
    clear hb4 hv4 c0 c1
    go_wp2_with fail
    refine (bcInts_any _ _ _ _ _ _ HV4.out HW4.out).mono ?_
    rintro e w5 ⟨rfl, n5, rfl⟩
    rw [show eqP (liveRes ts l a) (liveRes ts l a) = true by simp [eqP]]
    have HP5 := Lib.hid (HP4.out.bels (below_of_drewN ⟨n5, rfl⟩ _))
    have HV5 := Lib.hid (HV4.out.bel (below_of_drewN ⟨n5, rfl⟩ _))
    generalize w4.drewN n5 = w5 at *
    have c0 := HP5.out.c0
    have c1 := HP5.out.c1
    go_wp2_with fail
    go_loopw [6] (fun i wr => ∃ v : Nat, v ≤ ts.length ∧ i = .int .i64 v ∧ PgB w wr g (.slice At ts.length ct) (.slice Ab l.length cb) ts l ∧ IntS wr wr.heap.size v2 (liveRes ts l a)) (fun i _ => ts.length - (intOf i).toNat)
    case atStart => exact ⟨0, by omega, rfl, HP5.out, HV5.out⟩
    case round =>
      obtain ⟨v, hv, rfl, hP, hV⟩ := hrel
      have HPR := Lib.hid hP
      have HVR := Lib.hid hV
      clear hP hV c0 c1
      have c0 := HPR.out.c0
      have c1 := HPR.out.c1
      by_cases hvl : v < ts.length
      · have HEL := Lib.hid (end_live ts l a hvl)
        go_wp2_with fail
        refine (iUseOf_any _ _ ts l a (v : Nat) _ _ HPR.out.ht HPR.out.hl (Nat.le_refl _) (by omega)).mono ?_
        rintro e w6 ⟨rfl, hb6⟩
        have HP6 := Lib.hid (HPR.out.bels hb6)
        have HV6 := Lib.hid (HVR.out.bel hb6)
        clear hb6 c0 c1
        have c0 := HP6.out.c0
        have c1 := HP6.out.c1
        cases hu : (useRes ts l a (v : Nat) == 2)
        · go_wp2_with fail
          exact ⟨⟨v + 1, by omega, by go_num, HP6.out, HV6.out⟩, by simp [intOf] <;> omega⟩
        · have HU : Hid (useRes ts l a (v : Nat) = 2) := Lib.hid (by simpa using hu)
          go_wp2_with fail
          refine (bcIn_any _ _ _ _ _ HV6.out).mono ?_
          rintro e w7 ⟨rfl, rfl⟩
          cases hl : hasP (liveRes ts l a) (v : Nat)
          · go_wp2_with fail
            exact ⟨⟨v + 1, by omega, by go_num, HP6.out, HV6.out⟩, by simp [intOf] <;> omega⟩
          · have HL := Lib.hid hl
            clear hl
            go_wp2_with fail
            refine (iSetBy_any _ _ ts l a _ _ HP6.out.ht HP6.out.hl (Nat.le_refl _) (by omega)).mono ?_
            rintro e w8 ⟨rfl, hb8⟩
            have HP8 := Lib.hid (HP6.out.bels hb8)
            have HV8 := Lib.hid (HV6.out.bel hb8)
            clear hb8 c0 c1
            have c0 := HP8.out.c0
            have c1 := HP8.out.c1
            cases hs : (setRes ts l a != (v : Nat))
            · go_wp2_with fail
              exact ⟨⟨v + 1, by omega, by go_num, HP8.out, HV8.out⟩, by simp [intOf] <;> omega⟩
            · have HS : Hid (setRes ts l a ≠ (v : Nat)) := Lib.hid (by simpa using hs)
              have HNE := Lib.hid (HEL.out HU.out HL.out HS.out)
              go_wp2_with fail
              refine (iUnsetUses_any _ _ ts l _ _ HP8.out.ht HP8.out.hl (Nat.le_refl _) (by omega)).mono ?_
              rintro e w9 ⟨v9, rfl, hv9, hb9⟩
              have HP9 := Lib.hid (HP8.out.bels hb9)
              have HV9 := Lib.hid (HV8.out.bel hb9)
              obtain ⟨A9, c9, rfl, -, -, -⟩ := hv9
              have hl9 : (((unsetRes ts l).length : Int) == 0) = false := by
                have := HNE.out
                simpa using this
              clear hb9
              go_wp2_with fail
              exact ⟨⟨v + 1, by omega, by go_num, HP9.out, HV9.out⟩, by simp [intOf] <;> omega⟩
      · have HLL := Lib.hid (live_last ts l)
        go_wp2_with fail
        have BEL : Hid (∀ w', w'.cell? ⟨g, 0, none⟩ = some (.slice At ts.length ct) ∧ w'.cell? ⟨g, 1, none⟩ = some (.slice Ab l.length cb) ∧ Below wr.heap.size wr w' → Below wr.heap.size wr w') := Lib.hid fun _ h => h.2.2
        go_region_held3 (fun w' => w'.cell? ⟨g, 0, none⟩ = some (.slice At ts.length ct) ∧ w'.cell? ⟨g, 1, none⟩ = some (.slice Ab l.length cb) ∧ Below wr.heap.size wr w')
          (first | exact ⟨c0, c1, (Below.refl _ _).drew⟩ | exact K2.out | exact K3.out | assumption | go_keep)
          (first
            | (go_at_call 27; go_must (refine (iPointsOf_any _ _ ts l wr.heap.size _ (HPR.out.ht.low (BEL.out _ (by assumption)) (Nat.le_refl _)) (HPR.out.hl.low (BEL.out _ (by assumption)) (Nat.le_refl _)) (BEL.out _ (by assumption)).size (by omega)).mono ?_); (rintro e w6 ⟨v6, rfl, hps, hb6⟩); (obtain ⟨Ap, cp, rfl, hcp, hpl⟩ := hps.slice); (have HP6 := Lib.hid (HPR.out.bels ((BEL.out _ (by assumption)).trans (hb6.mono (BEL.out _ (by assumption)).size)))); (have BX6 := Lib.hid ((BEL.out _ (by assumption)).trans (hb6.mono (BEL.out _ (by assumption)).size))); (have K2 := Lib.hid (And.intro HP6.out.c0 (And.intro HP6.out.c1 BX6.out))); clear hps hb6)
            | (go_at_call 25; go_must (refine (iLiveAfter_any _ _ ts l _ _ _ HP6.out.ht HP6.out.hl (Nat.le_refl _) (by omega)).mono ?_); (rintro e w7 ⟨v7, rfl, hv7, hb7⟩); (obtain ⟨A7, c7, rfl, -, -, -⟩ := hv7); (have HP7 := Lib.hid (HP6.out.bels hb7)); (have K3 := Lib.hid (And.intro HP7.out.c0 (And.intro HP7.out.c1 (BX6.out.trans (hb7.mono BX6.out.size))))); clear hb7)
            | fail)
        go_wp2_with fail
        have hpl8 : (pointsP ts l).length ≤ 8388608 := hpl
        go_ret
        refine ⟨?_, HP7.out.bel⟩
        rw [IntWalk.i64_in _ (by omega), HLL.out]
        rfl
  · have hn1 : (1048576 : Int) < n := by omega
    unfold maxLen at hm
    go_enter Try.func10, Try.ntmps10
    go_wp2_with fail
    go_ret
    exact ⟨rfl, Below.refl _ _⟩

end Go.Proofs.Ytgmipapdcihdpaa

/- FnNeedsOf: the plain law, the walk. -/
namespace Go.Proofs.Ytgmipapdcihdpaa
open Go.RowKit

theorem givM_nil (ts : List Int) : givM ts [] = 0 := by
  apply Nat.eq_of_testBit_eq
  intro i
  rw [givM, bm_bit, Nat.zero_testBit]; simp [hasP]
theorem openRes_nil (ts : List Int) (l : List St) : openRes ts l [] = unsetRes ts l := by
  unfold openRes unsetRes
  rw [givM_nil]
  simp [givOk]
theorem needs_ne (ts : List Int) (l : List St) (h : needRes ts l ≠ []) : unsetRes ts l ≠ [] := by
  unfold needRes at h
  unfold unsetRes
  split at h
  · rename_i hv
    rw [if_pos hv]
    obtain ⟨x, hx⟩ := List.exists_mem_of_ne_nil _ h
    obtain ⟨v, hvl, hd, _⟩ := lst_mem.1 hx
    obtain ⟨j, hj⟩ := opn_of_nd (dec_iff.1 hd) (Ac.init (ev := true) (first := 0) hvl (by simp [accB]))
    exact opnL_ne hj
  · exact absurd rfl h

set_option maxHeartbeats 8000000
set_option maxRecDepth 100000
theorem fnNeedsOf_any (A : Option Addr) (n c : Nat) (w : World) (hb : Byt w w.heap.size A n) (hm : n ≤ maxLen) (hc : n ≤ c) :
    Calls Try.prog 7 #[.slice A n c] w (LawRet w) := by
  have HB := Lib.hid hb
  clear hb
  by_cases hn : n ≤ 1048576
  · go_enter Try.func7, Try.ntmps7
    go_wp2_with fail
    refine (drawNeeds_any A n c _ HB.out hn hc).mono ?_
    rintro e w1 ⟨vt, vb, ts, l, rfl, hit, hst, hts, hsz, hb1⟩
    have HP := Lib.hid (PgB.new hit hst hb1)
    obtain ⟨At, ct, rfl, hct⟩ := hit.slice
    obtain ⟨Ab, cb, rfl, hcb⟩ := hst.slice
    clear hit hst hb1
    go_wp2_with fail
    generalize w1.alloc (.cells #[.slice At ts.length ct, .slice Ab l.length cb] 26) = W1 at *
    obtain ⟨g, hg⟩ : ∃ g, g = w1.heap.size := ⟨_, rfl⟩
    rw [← hg] at HP ⊢
    clear hg
    refine (iNeedsOf_any _ _ ts l _ _ HP.out.ht HP.out.hl (Nat.le_refl _) (by omega)).mono ?_
    rintro e w2 ⟨v2, rfl, hv2, hb2⟩
    have HP2 := Lib.hid (HP.out.bels hb2)
    have HV2 := Lib.hid hv2
    have c0 := HP2.out.c0
    have c1 := HP2.out.c1
    clear hv2 hb2
    go_wp2_with fail
    refine (sNeedsOf_any _ _ ts l _ _ HP2.out.ht HP2.out.hl (Nat.le_refl _) (by omega)).mono ?_
    rintro e w3 ⟨v3, rfl, hv3, hb3⟩
    have HP3 := Lib.hid (HP2.out.bels hb3)
    have HV23 := Lib.hid (HV2.out.bel hb3)
    have HV3 := Lib.hid hv3
    clear hv3 hb3 c0 c1
    go_wp2_with fail
    refine (bcInts_any _ _ _ _ _ _ HV23.out HV3.out).mono ?_
    rintro e w4 ⟨rfl, n4, rfl⟩
    rw [show eqP (needRes ts l) (needRes ts l) = true by simp [eqP]]
    have HP4 := Lib.hid (HP3.out.bels (below_of_drewN ⟨n4, rfl⟩ _))
    have HV4 := Lib.hid (HV23.out.bel (below_of_drewN ⟨n4, rfl⟩ _))
    generalize w3.drewN n4 = w4 at *
    have c0 := HP4.out.c0
    have c1 := HP4.out.c1
    obtain ⟨A4, c4, rfl, -, -, -⟩ := HV4.out
    by_cases hz : needRes ts l = []
    · have hz1 : (((needRes ts l).length : Int) == 0) = true := by simp [hz]
      clear hz
      go_wp2_with fail
      go_ret
      exact ⟨rfl, HP4.out.bel⟩
    · have HNE := Lib.hid (needs_ne ts l hz)
      have hz1 : (((needRes ts l).length : Int) == 0) = false := by simpa using hz
      clear hz
      go_wp2_with fail
      refine (iOpenIssues_any _ _ _ ts [] l _ _ HP4.out.ht HP4.out.hl (IntS.nil' _ _ _ _) (Nat.le_refl _) (by omega)).mono ?_
      rintro e w5 ⟨v5, rfl, hv5, hb5⟩
      rw [openRes_nil] at hv5
      have HP5 := Lib.hid (HP4.out.bels hb5)
      obtain ⟨A5, c5, rfl, -, -, -⟩ := hv5
      have hl5 : (0 : Int) < ((unsetRes ts l).length : Int) := by
        have := HNE.out
        have := List.length_pos_iff.2 this
        omega
      have hl5' : 0 < (unsetRes ts l).length := by omega
      clear hb5 c0 c1
      have c0 := HP5.out.c0
      have c1 := HP5.out.c1
      go_wp2_with fail
      refine (iUnsetUses_any _ _ ts l _ _ HP5.out.ht HP5.out.hl (Nat.le_refl _) (by omega)).mono ?_
      rintro e w6 ⟨v6, rfl, hv6, hb6⟩
      have HP6 := Lib.hid (HP5.out.bels hb6)
      obtain ⟨A6, c6, rfl, -, -, -⟩ := hv6
      go_wp2_with fail
      go_ret
      exact ⟨rfl, HP6.out.bel⟩
  · have hn1 : (1048576 : Int) < n := by omega
    unfold maxLen at hm
    go_enter Try.func7, Try.ntmps7
    go_wp2_with fail
    go_ret
    exact ⟨rfl, Below.refl _ _⟩

end Go.Proofs.Ytgmipapdcihdpaa

/- spec.l14Case and the draws that hand it on. -/
namespace Go.Proofs.Ytgmipapdcihdpaa
open Go.RowKit

/-- below 'base' only block g has turned -/
structure Gb (base g : Nat) (W w : World) : Prop where
  os : w.os = W.os
  tape : w.tape = W.tape
  output : w.output = W.output
  size : W.heap.size ≤ w.heap.size
  block : ∀ b, b < base → b ≠ g → w.heap[b]? = W.heap[b]?
theorem Gb.refl (base g : Nat) (W : World) : Gb base g W W := ⟨rfl, rfl, rfl, Nat.le_refl _, fun _ _ _ => rfl⟩
theorem Gb.bel {base g : Nat} {W a b : World} (h : Gb base g W a) (k : Below base a b) : Gb base g W b :=
  ⟨k.os.trans h.os, k.tape.trans h.tape, k.output.trans h.output, Nat.le_trans h.size k.size, fun i hi hne => (k.block i hi).trans (h.block i hi hne)⟩
theorem Gb.pick {base g : Nat} {W a b : World} (h : Gb base g W a) (hb : base ≤ W.heap.size) (k : a.grownBy b (some g)) : Gb base g W b :=
  ⟨k.os.trans h.os, k.tape.trans h.tape, k.output.trans h.output, Nat.le_trans h.size k.size, fun i hi hne => (k.block i (by have := h.size; omega) (fun e => hne (Option.some.inj e))).trans (h.block i hi hne)⟩
theorem Gb.toBel {base g : Nat} {W a w : World} (h : Gb base g W a) (hw : Below w.heap.size w W) (hg : w.heap.size ≤ g) (hb : w.heap.size ≤ base) : Below w.heap.size w a :=
  ⟨h.os.trans hw.os, h.tape.trans hw.tape, h.output.trans hw.output, Nat.le_trans hw.size h.size, fun k hk => (h.block k (by omega) (by omega)).trans (hw.block k hk)⟩
theorem OInts.pick {w w' : World} {base g : Nat} {v : Value} {l : List Int} (h : OInts w base v l) (hg : g < base) (k : w.grownBy w' (some g)) : OInts w' base v l :=
  World.ownsRow.kept h k (.inr (by
    cases e : v.ownBlock with
    | none => simp
    | some b => intro e'; injection e' with e'; have := (World.ownsRow.lt h b e).1; omega))

def CaRet (w : World) (e : Ending) (w' : World) : Prop :=
  ∃ (vt vb v : Value) (ts : List Int) (l : List St) (gv : List Int), e = .returned (.tuple #[.agg #[vt, vb], v]) ∧ IntX w' (fun b => w.heap.size ≤ b) vt ts ∧ StX w' (fun b => w.heap.size ≤ b) vb l ∧ ts.length ≤ 700 ∧ szL l ≤ 100000 ∧ IntX w' (fun b => w.heap.size ≤ b) v gv ∧ gv.length ≤ 1000 ∧ Below w.heap.size w w'

theorem ca_close {w W a W' : World} {g w1s : Nat} {vt vb v : Value} {ts gv : List Int} {l : List St} (hB : Below w.heap.size w W) (hG : Gb W.heap.size g W a) (hW : a.grownBy W' (some w.heap.size)) (hT : IntX W (fun b => w1s ≤ b) vt ts) (hL : StX W (fun b => w1s ≤ b) vb l) (hO : OInts a W.heap.size v gv)
    (h1 : w.heap.size < w1s) (h2 : w.heap.size ≤ g ∧ g < w1s) (h3 : w1s ≤ W.heap.size) (ht : ts.length ≤ 700) (hl : szL l ≤ 100000) (hgl : gv.length ≤ 1000) : CaRet w (.returned (.tuple #[.agg #[vt, vb], v])) W' := by
  have hbs := hB.size
  have hGs := hG.size
  have hk : ∀ b, w1s ≤ b → b < W.heap.size → w.heap.size ≤ b ∧ W'.heap[b]? = W.heap[b]? := fun b hb hl => ⟨by omega, (hW.block b (by omega) (fun e => by injection e with e; omega)).trans (hG.block b hl (by omega))⟩
  have hs : W.heap.size ≤ W'.heap.size := Nat.le_trans hGs hW.size
  have hX := (hO.toX (by omega)).frame (P' := fun b => w.heap.size ≤ b) (w' := W') hW.size fun b hb hl => ⟨by omega, hW.block b hl (fun e => by injection e with e; omega)⟩
  exact ⟨vt, vb, v, ts, l, gv, rfl, hT.frame hs hk, hL.frame hs hk, ht, hl, hX, hgl, grown_new (hG.toBel hB h2.1 hbs) (Nat.le_refl _) hW⟩

set_option maxHeartbeats 4000000
set_option maxRecDepth 100000
theorem l14Case_any (A : Option Addr) (n c : Nat) (w : World) (hb : Byt w w.heap.size A n) (hn : n ≤ 1048576) (hc : n ≤ c) :
    Calls Try.prog 73 #[.slice A n c] w (CaRet w) := by
  have HB := Lib.hid hb
  clear hb
  go_enter Try.func73, Try.ntmps73
  go_wp2_with fail
  have hA := bel_a w (.cells #[.slice none 0 0, .slice none 0 0] 26)
  have hsA : (w.alloc (.cells #[.slice none 0 0, .slice none 0 0] 26)).heap.size = w.heap.size + 1 := by simp
  refine (l17Open_any A n c _ (by rw [hsA]; exact (HB.out.keep fun b o hb => hA.cell (p := ⟨b, o, none⟩) hb).more (by omega)) hn hc).mono ?_
  rw [hsA]
  rintro e w1 ⟨rfl, hd1, hb1⟩
  have hb1' : Below (w.alloc (.cells #[.slice none 0 0, .slice none 0 0] 26)).heap.size (w.alloc (.cells #[.slice none 0 0, .slice none 0 0] 26)) w1 := by rw [hsA]; exact hb1
  have hs1 : w.heap.size + 1 < w1.heap.size := hd1.lt
  have HR1 := Lib.hid (row_below (heap_alloc_new w (.cells #[.slice none 0 0, .slice none 0 0] 26)) hb1')
  have HB1 := Lib.hid (hA.trans (hb1.mono (by omega)))
  have HD1 := Lib.hid hd1
  clear hb1 hb1' hd1 hA hsA
  go_wp2_with fail
  refine (l2Branch_any (w.heap.size + 1) 0 _ HD1.out (by omega)).mono ?_
  rintro e w2 ⟨vt, vb, ts, l, p2, rfl, hit, hst, hts, hsz, hp2, hd2, hg2⟩
  have hs2 := hg2.size
  have hA2 := bel_a w2 (.cells #[vt, vb] 26)
  have hsW : (w2.alloc (.cells #[vt, vb] 26)).heap.size = w2.heap.size + 1 := by simp
  have HR2 := Lib.hid (row_below (row_grown HR1.out hg2 (by omega)) hA2)
  have HRP := Lib.hid (heap_alloc_new w2 (.cells #[vt, vb] 26))
  have HD2 := Lib.hid (hd2.low hA2 (by omega))
  have HB2 := Lib.hid ((grown_new HB1.out (by omega) hg2).trans (hA2.mono (by omega)))
  have HIT := Lib.hid (hit.bel hA2)
  have HST := Lib.hid (hst.bel hA2)
  obtain ⟨At, ct, rfl, -⟩ := hit.slice
  obtain ⟨Ab, cb, rfl, -⟩ := hst.slice
  clear hit hst hd2 hg2 hA2
  go_wp2_with (at_builtin; fail)
  generalize w2.alloc (.cells #[.slice At ts.length ct, .slice Ab l.length cb] 26) = W2 at *
  have HO0 : Hid (OInts (W2.alloc (.cells #[] 3)) W2.heap.size (.slice (some ⟨w2.heap.size + 1, 0, none⟩) 0 0) []) := Lib.hid (by
    have := OInts.empty W2 W2.heap.size (Nat.le_refl _)
    rw [hsW] at this ⊢
    exact this)
  have HD3 := Lib.hid (HD2.out.low (bel_a W2 (.cells #[] 3)) (by omega))
  have HG0 := Lib.hid ((Gb.refl W2.heap.size (w.heap.size + 1) W2).bel (bel_a W2 (.cells #[] 3)))
  go_loopw [6, 7] (fun v i wr => ∃ (k : Nat) (o : List Int) (q : Nat), k ≤ ts.length ∧ i = .int .i64 k ∧ o.length ≤ k ∧ q ≤ 720 + k ∧ OInts wr W2.heap.size v o ∧ Dr wr (w.heap.size + 1) q ∧ Gb W2.heap.size (w.heap.size + 1) W2 wr) (fun _ i _ => ts.length - (intOf i).toNat)
  case atStart => exact ⟨0, [], p2, by omega, rfl, by simp, by omega, HO0.out, HD3.out, HG0.out⟩
  case round =>
    obtain ⟨k, o, q, hk, rfl, hol, hq, hO, hD, hG⟩ := hrel
    have HO := Lib.hid hO
    have HD := Lib.hid hD
    have HG := Lib.hid hG
    have hsr := hG.size
    have hrp := (hG.block w2.heap.size (by omega) (by omega)).trans HRP.out
    have c0 : wr.cell? ⟨w2.heap.size, 0, none⟩ = some (.slice At ts.length ct) := by rw [cell_of_row _ _ _ _ _ _ hrp]; rfl
    have c1 : wr.cell? ⟨w2.heap.size, 1, none⟩ = some (.slice Ab l.length cb) := by rw [cell_of_row _ _ _ _ _ _ hrp]; rfl
    obtain ⟨A6, c6, rfl, hc6⟩ := hO.slice
    clear hO hD hG hrp
    by_cases hlt : k < ts.length
    · go_wp2_with (at_builtin; fail)
      refine (pick_any (w.heap.size + 1) q _ _ HD.out (by omega) (by omega) (by omega)).mono ?_
      rintro e w3 ⟨j, rfl, -, -, hd3, hg3⟩
      have HO3 := Lib.hid (HO.out.pick (by omega) hg3)
      have HG3 := Lib.hid (HG.out.pick (Nat.le_refl _) hg3)
      have HD3 := Lib.hid hd3
      have hs3 := hg3.size
      clear hd3 hg3 c0 c1
      by_cases hj : j = 0
      · subst hj
        go_wp2_with (at_builtin; go_must (refine wpList_push_int rfl (.tmp 23) (.tmp 25) rfl HO3.out (by omega) (by omega) _ rfl rfl ?_); intro v' w' hP' hE')
        have hbe := ((Evo.alloc W2.heap.size 3 w3 (.cells #[.int .i64 (k : Nat)] 3)).trans hE').below (by omega)
        exact ⟨⟨k + 1, _, q + 1, by omega, by go_num, by rw [List.length_append]; simp; omega, by omega, hP', HD3.out.low hbe (by omega), HG3.out.bel hbe⟩, by simp [intOf] <;> omega⟩
      · have hj1 : (j == 0) = false := by simpa using hj
        go_wp2_with (at_builtin; fail)
        exact ⟨⟨k + 1, o, q + 1, by omega, by go_num, by omega, by omega, HO3.out, HD3.out, HG3.out⟩, by simp [intOf] <;> omega⟩
    · go_wp2_with (at_builtin; fail)
      refine (pick_any (w.heap.size + 1) q _ _ HD.out (by omega) (by omega) (by omega)).mono ?_
      rintro e w3 ⟨j, rfl, -, -, hd3, hg3⟩
      have HO3 := Lib.hid (HO.out.pick (by omega) hg3)
      have HG3 := Lib.hid (HG.out.pick (Nat.le_refl _) hg3)
      have HD3 := Lib.hid hd3
      have hs3 := hg3.size
      clear hd3 hg3 c0 c1
      by_cases hj : j = 0
      · subst hj
        have HRN := Lib.hid (RowB.new w3 ([-1, 9].map (Value.int .i64)) 3)
        have HBN := Lib.hid (bel_a w3 (.cells #[.int .i64 (-1), .int .i64 9] 3))
        go_wp2_with (at_builtin; fail)
        refine (num_any (w.heap.size + 1) (q + 1) _ [-1, 9] 3 _ (HD3.out.low HBN.out (by omega)) (by omega) HRN.out (by omega) (by simp) (by simp)).mono ?_
        rintro e w4 ⟨x, rfl, hx, hd4, hg4⟩
        have hs4 := hg4.size
        have hsx : (w3.alloc (.cells #[.int .i64 (-1), .int .i64 9] 3)).heap.size = w3.heap.size + 1 := by simp
        have HO4 := Lib.hid ((HO3.out.bel HBN.out).pick (by omega) hg4)
        have HG4 := Lib.hid ((HG3.out.bel (HBN.out.mono (by omega))).pick (Nat.le_refl _) hg4)
        clear hd4 hg4 hx
        go_wp2_with (at_builtin; go_must (refine wpList_push_int rfl (.tmp 30) (.tmp 34) rfl HO4.out (by omega) (by omega) _ rfl rfl ?_); intro v' w' hP' hE'; (have hbe := ((Evo.alloc W2.heap.size 3 w4 (.cells #[.int .i64 x] 3)).trans hE').below (by omega)); (have HG5 := Lib.hid (HG4.out.bel hbe)); (have HP5 := Lib.hid hP'); (obtain ⟨A7, c7, rfl, -⟩ := hP'.slice); (have hol7 : (o ++ [x]).length ≤ 1000 := by (rw [List.length_append]; simp; omega)); (have hs5 := HG5.out.size); (clear hP' hE' hbe); (generalize o ++ [x] = o7 at *); (have hrr := (HG5.out.block w.heap.size (by omega) (by omega)).trans HR2.out); (have HRR := Lib.hid hrr); (have hrp := (HG5.out.block w2.heap.size (by omega) (by omega)).trans HRP.out); (have c0 : w'.cell? ⟨w2.heap.size, 0, none⟩ = some (.slice At ts.length ct) := by (rw [cell_of_row _ _ _ _ _ _ hrp]; rfl)); (have c1 : w'.cell? ⟨w2.heap.size, 1, none⟩ = some (.slice Ab l.length cb) := by (rw [cell_of_row _ _ _ _ _ _ hrp]; rfl)); (have z0 : w'.cell? ⟨w.heap.size, 0, none⟩ = some (.slice none 0 0) := by (rw [cell_of_row _ _ _ _ _ _ hrr]; rfl)); (have z1 : w'.cell? ⟨w.heap.size, 1, none⟩ = some (.slice none 0 0) := by (rw [cell_of_row _ _ _ _ _ _ hrr]; rfl)); (have zf0 := frozen_of_row w' w.heap.size 0 _ _ hrr); (have zf1 := frozen_of_row w' w.heap.size 1 _ _ hrr); (clear hrr hrp))
        refine bodyPost_ret (res_box (u := 3) rfl _ _ w.heap.size 26 _ (0, 0) _ rfl (box2 HRR.out _ _).1 Try.underlying26 rfl rfl) rfl ?_
        exact ca_close HB2.out HG5.out (box2 HRR.out _ _).2 HIT.out HST.out HP5.out (by omega) (by omega) (by omega) hts hsz (by omega)
      · have hj1 : (j == 0) = false := by simpa using hj
        have hrr := (HG3.out.block w.heap.size (by omega) (by omega)).trans HR2.out
        have HRR := Lib.hid hrr
        have hrp := (HG3.out.block w2.heap.size (by omega) (by omega)).trans HRP.out
        have c0 : w3.cell? ⟨w2.heap.size, 0, none⟩ = some (.slice At ts.length ct) := by rw [cell_of_row _ _ _ _ _ _ hrp]; rfl
        have c1 : w3.cell? ⟨w2.heap.size, 1, none⟩ = some (.slice Ab l.length cb) := by rw [cell_of_row _ _ _ _ _ _ hrp]; rfl
        have z0 : w3.cell? ⟨w.heap.size, 0, none⟩ = some (.slice none 0 0) := by rw [cell_of_row _ _ _ _ _ _ hrr]; rfl
        have z1 : w3.cell? ⟨w.heap.size, 1, none⟩ = some (.slice none 0 0) := by rw [cell_of_row _ _ _ _ _ _ hrr]; rfl
        have zf0 := frozen_of_row w3 w.heap.size 0 _ _ hrr
        have zf1 := frozen_of_row w3 w.heap.size 1 _ _ hrr
        clear hrr hrp
        go_wp2_with (at_builtin; fail)
        refine bodyPost_ret (res_box (u := 3) rfl _ _ w.heap.size 26 _ (0, 0) _ rfl (box2 HRR.out _ _).1 Try.underlying26 rfl rfl) rfl ?_
        exact ca_close HB2.out HG3.out (box2 HRR.out _ _).2 HIT.out HST.out HO3.out (by omega) (by omega) (by omega) hts hsz (by omega)

theorem ca_end {w a W' : World} {vt vb v : Value} {ts gv : List Int} {l : List St} (hB : Below w.heap.size w a) (hW : a.grownBy W' (some w.heap.size)) (hT : IntX a (fun b => w.heap.size + 1 ≤ b) vt ts) (hL : StX a (fun b => w.heap.size + 1 ≤ b) vb l) (hO : IntX a (fun b => w.heap.size + 1 ≤ b) v gv)
    (ht : ts.length ≤ 700) (hl : szL l ≤ 100000) (hgl : gv.length ≤ 1000) : CaRet w (.returned (.tuple #[.agg #[vt, vb], v])) W' := by
  have hk : ∀ b, w.heap.size + 1 ≤ b → b < a.heap.size → w.heap.size ≤ b ∧ W'.heap[b]? = a.heap[b]? := fun b hb hl => ⟨by omega, hW.block b hl (fun e => by injection e with e; omega)⟩
  exact ⟨vt, vb, v, ts, l, gv, rfl, hT.frame hW.size hk, hL.frame hW.size hk, ht, hl, hO.frame hW.size hk, hgl, grown_new hB (Nat.le_refl _) hW⟩

theorem drawOpenIssues_any (A : Option Addr) (n c : Nat) (w : World) (hb : Byt w w.heap.size A n) (hn : n ≤ 1048576) (hc : n ≤ c) :
    Calls Try.prog 39 #[.slice A n c] w (CaRet w) := by
  have HB := Lib.hid hb
  clear hb
  go_enter Try.func39, Try.ntmps39
  go_wp2_with fail
  have hA := bel_a w (.cells #[.slice none 0 0, .slice none 0 0] 26)
  have hsA : (w.alloc (.cells #[.slice none 0 0, .slice none 0 0] 26)).heap.size = w.heap.size + 1 := by simp
  refine (l14Case_any A n c _ (by rw [hsA]; exact (HB.out.keep fun b o hb => hA.cell (p := ⟨b, o, none⟩) hb).more (by omega)) hn hc).mono ?_
  rintro e w1 ⟨vt, vb, v, ts, l, gv, rfl, hit, hst, hts, hsz, hgi, hgl, hb1⟩
  rw [hsA] at hit hst hgi
  have HR1 := Lib.hid (row_below (heap_alloc_new w (.cells #[.slice none 0 0, .slice none 0 0] 26)) hb1)
  have HB1 := Lib.hid (hA.trans (hb1.mono (by omega)))
  have HIT := Lib.hid hit
  have HST := Lib.hid hst
  have HGI := Lib.hid hgi
  obtain ⟨At, ct, rfl, -⟩ := hit.slice
  obtain ⟨Ab, cb, rfl, -⟩ := hst.slice
  clear hb1 hA hsA hit hst hgi
  have z0 : w1.cell? ⟨w.heap.size, 0, none⟩ = some (.slice none 0 0) := by rw [cell_of_row _ _ _ _ _ _ HR1.out]; rfl
  have z1 : w1.cell? ⟨w.heap.size, 1, none⟩ = some (.slice none 0 0) := by rw [cell_of_row _ _ _ _ _ _ HR1.out]; rfl
  have zf0 := frozen_of_row w1 w.heap.size 0 _ _ HR1.out
  have zf1 := frozen_of_row w1 w.heap.size 1 _ _ HR1.out
  go_wp2_with fail
  refine bodyPost_ret (res_box (u := 3) rfl _ _ w.heap.size 26 _ (0, 0) _ rfl (box2 HR1.out _ _).1 Try.underlying26 rfl rfl) rfl ?_
  exact ca_end HB1.out (box2 HR1.out _ _).2 HIT.out HST.out HGI.out hts hsz hgl

theorem drawGivesOf_any (A : Option Addr) (n c : Nat) (w : World) (hb : Byt w w.heap.size A n) (hn : n ≤ 1048576) (hc : n ≤ c) :
    Calls Try.prog 41 #[.slice A n c] w (CaRet w) := by
  have HB := Lib.hid hb
  clear hb
  go_enter Try.func41, Try.ntmps41
  go_wp2_with fail
  have hA := bel_a w (.cells #[.slice none 0 0, .slice none 0 0] 26)
  have hsA : (w.alloc (.cells #[.slice none 0 0, .slice none 0 0] 26)).heap.size = w.heap.size + 1 := by simp
  refine (l14Case_any A n c _ (by rw [hsA]; exact (HB.out.keep fun b o hb => hA.cell (p := ⟨b, o, none⟩) hb).more (by omega)) hn hc).mono ?_
  rintro e w1 ⟨vt, vb, v, ts, l, gv, rfl, hit, hst, hts, hsz, hgi, hgl, hb1⟩
  rw [hsA] at hit hst hgi
  have HR1 := Lib.hid (row_below (heap_alloc_new w (.cells #[.slice none 0 0, .slice none 0 0] 26)) hb1)
  have HB1 := Lib.hid (hA.trans (hb1.mono (by omega)))
  have HIT := Lib.hid hit
  have HST := Lib.hid hst
  have HGI := Lib.hid hgi
  obtain ⟨At, ct, rfl, -⟩ := hit.slice
  obtain ⟨Ab, cb, rfl, -⟩ := hst.slice
  clear hb1 hA hsA hit hst hgi
  have z0 : w1.cell? ⟨w.heap.size, 0, none⟩ = some (.slice none 0 0) := by rw [cell_of_row _ _ _ _ _ _ HR1.out]; rfl
  have z1 : w1.cell? ⟨w.heap.size, 1, none⟩ = some (.slice none 0 0) := by rw [cell_of_row _ _ _ _ _ _ HR1.out]; rfl
  have zf0 := frozen_of_row w1 w.heap.size 0 _ _ HR1.out
  have zf1 := frozen_of_row w1 w.heap.size 1 _ _ HR1.out
  go_wp2_with fail
  refine bodyPost_ret (res_box (u := 3) rfl _ _ w.heap.size 26 _ (0, 0) _ rfl (box2 HR1.out _ _).1 Try.underlying26 rfl rfl) rfl ?_
  exact ca_end HB1.out (box2 HR1.out _ _).2 HIT.out HST.out HGI.out hts hsz hgl

end Go.Proofs.Ytgmipapdcihdpaa
