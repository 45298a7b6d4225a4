import Derived.Test.YtgmipapdcihdpaaG37
set_option linter.unusedVariables false

/- FnLiveStep: the walk. -/
namespace Go.Proofs.Ytgmipapdcihdpaa
open Go.RowKit

theorem liveRes_no {ts : List Int} {l : List St} {a : Int} (h : a < 0 ∨ (pointsP ts l).length ≤ a) : liveRes ts l a = [] := by
  unfold liveRes; rw [graphOk_no h]; rfl
/-- what some Next of point k says of v -/
theorem live_any (ts : List Int) (l : List St) (hv : validP ts l = true) {k v : Nat} (hk : k < (ptsP l).length) (hvl : v < ts.length) :
    hasP (liveRes ts l (k : Nat)) v = ((ptsP l)[k]).next.any fun j => (useRes ts l (j : Nat) v != 0) || ((setRes ts l (j : Nat) != v) && hasP (liveRes ts l (j : Nat)) v) := by
  have hok : ∀ j, j < (ptsP l).length → graphOk ts l [((j : Nat) : Int)] = true := fun j hj => by
    simp only [graphOk, hv, Bool.true_and, List.all_cons, List.all_nil, Bool.and_true, withinP, Bool.and_eq_true, decide_eq_true_eq]; omega
  have hw : withinP (v : Nat) 0 ((ts.length : Int) - 1) = true := by unfold withinP; simp; omega
  have e1 : liveRes ts l (k : Nat) = liveAt ts (ptsP l) k := by unfold liveRes; rw [if_pos (hok k hk)]; rfl
  rw [e1, liveAt_has (List.getElem?_eq_getElem hk) hvl]
  rw [Bool.eq_iff_iff, List.any_eq_true, List.any_eq_true]
  have hst : ∀ j ∈ ((ptsP l)[k]).next, dec (Nd ts (ptsP l) j v) = ((useRes ts l (j : Nat) v != 0) || ((setRes ts l (j : Nat) != v) && hasP (liveRes ts l (j : Nat)) v)) := fun j hj => by
    have hjl := (ptsP_next l _ (List.getElem_mem hk)).2 j hj
    have hp : (ptsP l)[j]? = some (ptsP l)[j] := List.getElem?_eq_getElem hjl
    rw [nd_step hp hvl]
    unfold useRes setRes liveRes
    rw [if_pos (hok j hjl), if_pos ⟨hok j hjl, hw⟩, if_pos (hok j hjl), ptAt_nat hjl, show ((j : Nat) : Int).toNat = j from rfl, liveAt_has hp hvl]
  constructor
  · rintro ⟨j, hj, h⟩; exact ⟨j, hj, by rw [← hst j hj]; exact h⟩
  · rintro ⟨j, hj, h⟩; exact ⟨j, hj, by rw [hst j hj]; exact h⟩
theorem any_take_succ {α : Type} (f : α → Bool) (l : List α) (k : Nat) (h : k < l.length) : (l.take (k + 1)).any f = ((l.take k).any f || f l[k]) := by
  rw [take_succ_get l k h, List.any_append]; simp

set_option maxHeartbeats 8000000
set_option maxRecDepth 100000
theorem fnLiveStep_any (A : Option Addr) (n c : Nat) (w : World) (hb : Byt w w.heap.size A n) (hm : n ≤ maxLen) (hc : n ≤ c) :
    Calls Try.prog 5 #[.slice A n c] w (LawRet w) := by
  have HB := Lib.hid hb
  clear hb
  by_cases hn : n ≤ 1048576
  · go_enter Try.func5, Try.ntmps5
    go_wp2_with fail
    refine (drawLiveAfter_any A n c _ HB.out hn hc).mono ?_
    rintro e w1 ⟨vt, vb, ts, l, a, rfl, hit, hst, hts, hsz, hb1⟩
    have HP := Lib.hid (PgB.new hit hst hb1)
    obtain ⟨At, ct, rfl, hct⟩ := hit.slice
    obtain ⟨Ab, cb, rfl, hcb⟩ := hst.slice
    clear hit hst hb1
    go_wp2_with fail
    generalize w1.alloc (.cells #[.slice At ts.length ct, .slice Ab l.length cb] 26) = W1 at *
    obtain ⟨g, hg⟩ : ∃ g, g = w1.heap.size := ⟨_, rfl⟩
    rw [← hg] at HP ⊢
    clear hg
    refine (iLiveAfter_any _ _ ts l a _ _ HP.out.ht HP.out.hl (Nat.le_refl _) (by omega)).mono ?_
    rintro e w2 ⟨v2, rfl, hv2, hb2⟩
    have HP2 := Lib.hid (HP.out.bels hb2)
    have HV2 := Lib.hid hv2
    have c0 := HP2.out.c0
    have c1 := HP2.out.c1
    clear hv2 hb2
    go_wp2_with fail
    refine (iPointsOf_any _ _ ts l _ _ HP2.out.ht HP2.out.hl (Nat.le_refl _) (by omega)).mono ?_
    rintro e w3 ⟨v3, rfl, hps, hb3⟩
    have HP3 := Lib.hid (HP2.out.bels hb3)
    have HV3 := Lib.hid (HV2.out.bel hb3)
    have HPS3 := Lib.hid hps
    obtain ⟨Ap, cp, rfl, hcp, hpl⟩ := hps.slice
    clear hb3 hps c0 c1
    have c0 := HP3.out.c0
    have c1 := HP3.out.c1
    obtain ⟨np, hnp⟩ : ∃ np, np = (pointsP ts l).length := ⟨_, rfl⟩
    rw [← hnp] at hcp hpl HPS3 ⊢
    have HNP := Lib.hid hnp
    clear hnp
    go_wp2_with fail
    refine (sLiveAfter_any _ _ ts l a _ _ HP3.out.ht HP3.out.hl (Nat.le_refl _) (by omega)).mono ?_
    rintro e w4 ⟨v4, rfl, hv4, hb4⟩
    have HP4 := Lib.hid (HP3.out.bels hb4)
    have HV4 := Lib.hid (HV3.out.bel hb4)
    have HW4 := Lib.hid hv4
    have HPS4 := Lib.hid (HPS3.out.bel hb4)
    clear hb4 hv4 c0 c1
    go_wp2_with fail
    refine (bcInts_any _ _ _ _ _ _ HV4.out HW4.out).mono ?_
    rintro e w5 ⟨rfl, n5, rfl⟩
    rw [show eqP (liveRes ts l a) (liveRes ts l a) = true by simp [eqP]]
    have HP5 := Lib.hid (HP4.out.bels (below_of_drewN ⟨n5, rfl⟩ _))
    have HV5 := Lib.hid (HV4.out.bel (below_of_drewN ⟨n5, rfl⟩ _))
    have HPS5 := Lib.hid (HPS4.out.bel (below_of_drewN ⟨n5, rfl⟩ _))
    generalize w4.drewN n5 = w5 at *
    have c0 := HP5.out.c0
    have c1 := HP5.out.c1
    by_cases hin : 0 ≤ a ∧ a < (np : Int)
    · obtain ⟨h0, h1⟩ := hin
      have h0' : ¬ a < 0 := by omega
      obtain ⟨k, rfl⟩ := Int.eq_ofNat_of_zero_le h0
      have hpe : validP ts l = true ∧ pointsP ts l = ptsP l := by
        cases hv : validP ts l
        · have := HNP.out; unfold pointsP at this; rw [hv] at this; simp at this; omega
        · exact ⟨rfl, by unfold pointsP; rw [hv]; rfl⟩
      have HVA := Lib.hid hpe.1
      have HPE := Lib.hid hpe.2
      have hkp : k < (ptsP l).length := by rw [← hpe.2, ← HNP.out]; omega
      have HN2 := Lib.hid (fun j hj => (ptsP_next l _ (List.getElem_mem hkp)).2 j hj)
      have HLA := Lib.hid (fun v (hv : v < ts.length) => live_any ts l hpe.1 hkp hv)
      have hnx2 := (ptsP_next l _ (List.getElem_mem hkp)).1
      have HGET : Hid (∀ W : World, PtS W W.heap.size (.slice Ap np cp) (pointsP ts l) → ∃ bp op nv, Ap = some ⟨bp, op, none⟩ ∧ bp < W.heap.size ∧ IntS W W.heap.size nv ((ptsP l)[k].next.map fun j => ((j : Nat) : Int)) ∧ W.cell? ⟨bp, op + k * 5 + 4, none⟩ = some nv) := Lib.hid fun W hW => by
        rw [HPE.out] at hW
        obtain ⟨bp, op, cp', nv, e, hbp, hcp', hlp, hnx, p0, p1, p2, p3, p4⟩ := hW.get hkp
        injection e with e1 _ e2
        exact ⟨bp, op, nv, e1, hbp, hnx, p4⟩
      generalize hNX : (ptsP l)[k].next = nx at *
      clear hpe hkp hNX
      have hkn2 : k < np := by omega
      have hd1 : decide ((k : Int) < 0) = false := by simp
      have hd2 : decide (np ≤ k) = false := by simp; omega
      have hd3 : decide ((np : Int) ≤ (k : Int)) = false := by simp; omega
      go_wp2_with fail
      go_loopw [7] (fun i wr => ∃ v : Nat, v ≤ ts.length ∧ i = .int .i64 v ∧ PgB w wr g (.slice At ts.length ct) (.slice Ab l.length cb) ts l ∧ IntS wr wr.heap.size v2 (liveRes ts l k) ∧ PtS wr wr.heap.size (.slice Ap np cp) (pointsP ts l)) (fun i _ => ts.length - (intOf i).toNat)
      case atStart => exact ⟨0, by omega, rfl, HP5.out, HV5.out, HPS5.out⟩
      case round =>
        obtain ⟨v, hv, rfl, hP, hV, hPS⟩ := hrel
        have HPR := Lib.hid hP
        have HVR := Lib.hid hV
        have HPSR := Lib.hid hPS
        clear hP hV hPS c0 c1
        have c0 := HPR.out.c0
        have c1 := HPR.out.c1
        by_cases hvl : v < ts.length
        · obtain ⟨wo, rfl⟩ : ∃ wo : World, wo = wr := ⟨_, rfl⟩
          go_wp2_with fail
          go_loopw [8, 9] (fun s i wy => ∃ (j : Nat) (bs : Bool), j ≤ nx.length ∧ i = .int .i64 j ∧ s = .bool bs ∧ bs = (nx.take j).any (fun j => (useRes ts l (j : Nat) v != 0) || ((setRes ts l (j : Nat) != v) && hasP (liveRes ts l (j : Nat)) v)) ∧ PgB w wy g (.slice At ts.length ct) (.slice Ab l.length cb) ts l ∧ IntS wy wy.heap.size v2 (liveRes ts l k) ∧ PtS wy wy.heap.size (.slice Ap np cp) (pointsP ts l)) (fun _ i _ => nx.length - (intOf i).toNat)
          case atStart => exact ⟨0, false, by omega, rfl, rfl, by simp, HPR.out, HVR.out, HPSR.out⟩
          case round =>
            obtain ⟨j, bs, hj, rfl, rfl, hbs, hP, hV, hPS⟩ := hrel
            have HPY := Lib.hid hP
            have HVY := Lib.hid hV
            have HPSY := Lib.hid hPS
            have HBS := Lib.hid hbs
            obtain ⟨bp, op, nv, rfl, hbp, hnv, q4⟩ := HGET.out wr hPS
            obtain ⟨An, cn, rfl, hcn, -, hrn⟩ := hnv
            simp only [List.length_map] at q4 hcn
            have HRN := Lib.hid hrn
            clear hP hV hPS hbs hrn c0 c1
            have c0 := HPY.out.c0
            have c1 := HPY.out.c1
            by_cases hjl : j < nx.length
            · obtain ⟨bn, on, rfl, hbn, hcn2⟩ := HRN.out.int_at (k := j) (by simpa using hjl)
              have hcj := hcn2 j (by simpa using hjl)
              rw [getD_lt (by simpa using hjl), List.getElem_map] at hcj
              have HAT := Lib.hid (any_take_succ (fun j => (useRes ts l (j : Nat) v != 0) || ((setRes ts l (j : Nat) != v) && hasP (liveRes ts l (j : Nat)) v)) nx j hjl)
              generalize nx[j] = x at *
              clear hcn2
              cases bs
              · go_wp2_with fail
                refine (iUseOf_any _ _ ts l (x : Nat) (v : Nat) _ _ HPY.out.ht HPY.out.hl (Nat.le_refl _) (by omega)).mono ?_
                rintro e w5 ⟨rfl, hb5⟩
                have HP5 := Lib.hid (HPY.out.bels hb5)
                have HV5 := Lib.hid (HVY.out.bel hb5)
                have HPS5 := Lib.hid (HPSY.out.bel hb5)
                clear hb5 c0 c1
                have c0 := HP5.out.c0
                have c1 := HP5.out.c1
                cases hu : (useRes ts l (x : Nat) (v : Nat) != 0)
                · go_wp2_with fail
                  refine (iSetBy_any _ _ ts l (x : Nat) _ _ HP5.out.ht HP5.out.hl (Nat.le_refl _) (by omega)).mono ?_
                  rintro e w6 ⟨rfl, hb6⟩
                  have HP6 := Lib.hid (HP5.out.bels hb6)
                  have HV6 := Lib.hid (HV5.out.bel hb6)
                  have HPS6 := Lib.hid (HPS5.out.bel hb6)
                  clear hb6 c0 c1
                  have c0 := HP6.out.c0
                  have c1 := HP6.out.c1
                  cases hs : (setRes ts l (x : Nat) != (v : Nat))
                  · have HU := Lib.hid (And.intro hu hs)
                    go_wp2_with fail
                    exact ⟨⟨j + 1, false, by omega, by go_num, rfl, by rw [HAT.out, ← HBS.out, HU.out.1, HU.out.2]; rfl, HP6.out, HV6.out, HPS6.out⟩, by simp [intOf] <;> omega⟩
                  · have HU := Lib.hid (And.intro hu hs)
                    go_wp2_with fail
                    refine (iLiveAfter_any _ _ ts l (x : Nat) _ _ HP6.out.ht HP6.out.hl (Nat.le_refl _) (by omega)).mono ?_
                    rintro e w7 ⟨v7, rfl, hv7, hb7⟩
                    have HP7 := Lib.hid (HP6.out.bels hb7)
                    have HV7 := Lib.hid (HV6.out.bel hb7)
                    have HPS7 := Lib.hid (HPS6.out.bel hb7)
                    have HL7 := Lib.hid hv7
                    clear hb7 hv7
                    go_wp2_with fail
                    refine (bcIn_any _ _ _ _ _ HL7.out).mono ?_
                    rintro e w8 ⟨rfl, rfl⟩
                    have HB9 : Hid ((nx.take (j + 1)).any (fun j => (useRes ts l (j : Nat) v != 0) || ((setRes ts l (j : Nat) != v) && hasP (liveRes ts l (j : Nat)) v)) = hasP (liveRes ts l (x : Nat)) (v : Nat)) := Lib.hid (by rw [HAT.out, ← HBS.out, HU.out.1, HU.out.2]; rfl)
                    generalize hasP (liveRes ts l (x : Nat)) (v : Nat) = bl at *
                    go_wp2_with fail
                    exact ⟨⟨j + 1, bl, by omega, by go_num, rfl, HB9.out.symm, HP7.out, HV7.out, HPS7.out⟩, by simp [intOf] <;> omega⟩
                · have HU := Lib.hid hu
                  go_wp2_with fail
                  exact ⟨⟨j + 1, true, by omega, by go_num, rfl, by rw [HAT.out, ← HBS.out, HU.out]; rfl, HP5.out, HV5.out, HPS5.out⟩, by simp [intOf] <;> omega⟩
              · go_wp2_with fail
                exact ⟨⟨j + 1, true, by omega, by go_num, rfl, by rw [HAT.out, ← HBS.out]; rfl, HPY.out, HVY.out, HPSY.out⟩, by simp [intOf] <;> omega⟩
            · have hje : j = nx.length := by omega
              have HQ : Hid (hasP (liveRes ts l k) (v : Nat) = bs) := Lib.hid (by rw [HLA.out v hvl, HBS.out, hje, List.take_length])
              clear hje
              go_wp2_with fail
              refine (bcIn_any _ _ _ _ _ HVY.out).mono ?_
              rintro e w7 ⟨rfl, rfl⟩
              rw [HQ.out]
              cases bs
              · go_wp2_with fail
                exact ⟨⟨v + 1, by omega, by go_num, HPY.out, HVY.out, HPSY.out⟩, by simp [intOf] <;> omega⟩
              · go_wp2_with fail
                exact ⟨⟨v + 1, by omega, by go_num, HPY.out, HVY.out, HPSY.out⟩, by simp [intOf] <;> omega⟩
        · go_wp2_with fail
          go_ret
          exact ⟨rfl, HPR.out.bel⟩
    · have HL0 : Hid (liveRes ts l a = []) := Lib.hid (liveRes_no (by rw [← HNP.out]; omega))
      obtain ⟨A2, c2, rfl, -, -, -⟩ := HV5.out
      rw [HL0.out] at HV5 ⊢
      have hlen0 : ([] : List Int).length = 0 := rfl
      rw [hlen0]
      clear hlen0
      have fin : ∀ w6 v6, IntS w6 w6.heap.size v6 (liveRes ts l a) → True := fun _ _ _ => trivial
      clear fin
      by_cases h0 : a < 0
      · go_wp2_with fail
        refine (sLiveAfter_any _ _ ts l a _ _ HP5.out.ht HP5.out.hl (Nat.le_refl _) (by omega)).mono ?_
        rintro e w6 ⟨v6, rfl, hv6, hb6⟩
        have HP6 := Lib.hid (HP5.out.bels hb6)
        have HV6 := Lib.hid (HV5.out.bel hb6)
        rw [HL0.out] at hv6
        have HW6 := Lib.hid hv6
        clear hb6 hv6 c0 c1
        go_wp2_with fail
        refine (bcInts_any _ _ _ _ _ _ HV6.out HW6.out).mono ?_
        rintro e w7 ⟨rfl, n7, rfl⟩
        rw [show eqP ([] : List Int) [] = true from rfl]
        go_wp2_with fail
        go_ret
        exact ⟨rfl, Below.drN HP6.out.bel _⟩
      · have h1 : (np : Int) ≤ a := by omega
        have h2 : ¬ a < (np : Int) := by omega
        go_wp2_with fail
        refine (sLiveAfter_any _ _ ts l a _ _ HP5.out.ht HP5.out.hl (Nat.le_refl _) (by omega)).mono ?_
        rintro e w6 ⟨v6, rfl, hv6, hb6⟩
        have HP6 := Lib.hid (HP5.out.bels hb6)
        have HV6 := Lib.hid (HV5.out.bel hb6)
        rw [HL0.out] at hv6
        have HW6 := Lib.hid hv6
        clear hb6 hv6 c0 c1
        go_wp2_with fail
        refine (bcInts_any _ _ _ _ _ _ HV6.out HW6.out).mono ?_
        rintro e w7 ⟨rfl, n7, rfl⟩
        rw [show eqP ([] : List Int) [] = true from rfl]
        go_wp2_with fail
        go_ret
        exact ⟨rfl, Below.drN HP6.out.bel _⟩
  · have hn1 : (1048576 : Int) < n := by omega
    unfold maxLen at hm
    go_enter Try.func5, Try.ntmps5
    go_wp2_with fail
    go_ret
    exact ⟨rfl, Below.refl _ _⟩

end Go.Proofs.Ytgmipapdcihdpaa
