import Derived.Test.YteaddodjijlpjaaG44
import Derived.Test.YteaddodjijlpjaaG30
import Derived.Test.YteaddodjijlpjaaG38
import Derived.Test.YteaddodjijlpjaaG45
import Derived.Test.YteaddodjijlpjaaG10
set_option linter.unusedVariables false

/- FnAlwaysSet: the plain law, the walk. -/
namespace Go.Proofs.Yteaddodjijlpjaa
open Go.RowKit

theorem always_maybe {ts : List Int} {l : List St} {a : Int} {j : Nat} (hj : j < (alwaysRes ts l a).length) : hasP (maybeRes ts l a) ((alwaysRes ts l a).getD j 0) = true := by
  have hm : (alwaysRes ts l a).getD j 0 ∈ alwaysRes ts l a := by rw [getD_lt hj]; exact List.getElem_mem hj
  generalize (alwaysRes ts l a).getD j 0 = y at *
  unfold alwaysRes at hm
  split at hm
  · rename_i hok
    obtain ⟨hval, k, rfl, hk⟩ := graphOk_one hok
    unfold alwaysAt at hm
    obtain ⟨v, hv, hf, rfl⟩ := lst_mem.1 hm
    unfold maybeRes maybeAt
    rw [if_pos hok, lst_has, decide_eq_true hv, Bool.true_and]
    rw [Int.toNat_natCast] at hf ⊢
    rcases some_way (gv := 0) (ptsP_rch l hk) hv (by simp) with h | h
    · rw [dec_true h] at hf; cases hf
    · exact dec_true h
  · simp at hm
/-- the variables that have a value at a point of the run, as the law counts them -/
def SI (ts : List Int) (l : List St) (r : List Nat) (i : Nat) (S : List Bool) : Prop := i < r.length → ∀ (ev : Bool) (v : Nat), v < ts.length → (S.getD v false != ev) = true → Ac ev ts (ptsP l) 0 (r.getD i 0) v
theorem SI.first {ts : List Int} {l : List St} {r : List Nat} (hr : 0 < r.length → validP ts l = true ∧ IsRun (ptsP l) 0 r) (n : Nat) : SI ts l r 0 (List.replicate n false) := by
  intro hi ev v hv h
  rw [(hr hi).2.first hi]
  cases ev
  · simp [List.getD, List.getElem?_replicate] at h
    split at h <;> simp at h
  · exact .init hv (by simp [accB])
theorem SI.chk {ts : List Int} {l : List St} {r : List Nat} {i : Nat} {S : List Bool} {a : Int} (h : SI ts l r i S) (hi : i < r.length) (hr : 0 < r.length → validP ts l = true ∧ IsRun (ptsP l) 0 r) (ha : ((r.getD i 0 : Nat) : Int) = a) {v : Nat} (hv : v < ts.length) :
    (S.getD v false = true → hasP (maybeRes ts l a) (v : Nat) = true) ∧ (S.getD v false = false → hasP (alwaysRes ts l a) (v : Nat) = false) := by
  obtain ⟨hval, hrun⟩ := hr (by omega)
  have hok := graphOk_at hval (hrun.inn i hi)
  subst ha
  have h1 := h hi false v hv
  have h2 := h hi true v hv
  constructor
  · intro e
    unfold maybeRes maybeAt
    rw [if_pos hok, lst_has, decide_eq_true hv, Bool.true_and, Int.toNat_natCast]
    exact dec_true (h1 (by rw [e]; rfl))
  · intro e
    unfold alwaysRes alwaysAt
    rw [if_pos hok, lst_has, decide_eq_true hv, Bool.true_and, Int.toNat_natCast, dec_true (h2 (by rw [e]; rfl))]
    rfl
theorem SI.next {ts : List Int} {l : List St} {r : List Nat} {i : Nat} {S S2 : List Bool} (h : SI ts l r i S) (hi : i < r.length) (hr : 0 < r.length → validP ts l = true ∧ IsRun (ptsP l) 0 r)
    (h2 : ∀ u : Nat, u < ts.length → S2.getD u false = ((S.getD u false && !(useRes ts l ((r.getD i 0 : Nat) : Int) (u : Nat) == 2)) || decide (setRes ts l ((r.getD i 0 : Nat) : Int) = (u : Nat)))) : SI ts l r (i + 1) S2 := by
  intro hi1 ev v hv ht
  obtain ⟨hval, hrun⟩ := hr (by omega)
  have hk := hrun.inn i hi
  obtain ⟨p, hp, hnx⟩ := hrun.edge i hi1
  have hok := graphOk_at hval hk
  have hpk : (ptsP l)[r.getD i 0] = p := by
    have e := List.getElem?_eq_getElem hk
    rw [hp] at e
    injection e with e
    exact e.symm
  have hu : useRes ts l ((r.getD i 0 : Nat) : Int) (v : Nat) = useP ts p.op p.x p.y (v : Nat) := by
    unfold useRes; rw [if_pos ⟨hok, by simp [withinP]; omega⟩, ptAt_nat hk, hpk]
  have hs : setRes ts l ((r.getD i 0 : Nat) : Int) = setsP p.op p.x := by
    unfold setRes; rw [if_pos hok, ptAt_nat hk, hpk]
  have e : trB ev ts p (S.getD v false != ev) v = true := by
    unfold trB
    rw [taken_bit hv, setBit_bit, ← hu, ← hs]
    have := h2 v hv
    rw [this] at ht
    revert ht
    cases S.getD v false <;> cases ev <;> cases (useRes ts l ((r.getD i 0 : Nat) : Int) (v : Nat) == 2) <;> cases decide (setRes ts l ((r.getD i 0 : Nat) : Int) = (v : Nat)) <;> simp
  rw [trB_mono, Bool.or_eq_true, Bool.and_eq_true] at e
  rcases e with e | ⟨e1, e2⟩
  · exact .gen hp hnx hv e
  · exact .keep hp hnx (h hi ev v hv e1) e2
/-- what the loop over the variables has done to the list after j of them -/
def Upd (ts : List Int) (l : List St) (y : Nat) (S : List Bool) (j : Nat) (cur : List Bool) : Prop := cur.length = S.length ∧ ∀ u : Nat, cur.getD u false = (S.getD u false && !(decide (u < j) && useRes ts l (y : Nat) (u : Nat) == 2))
theorem Upd.zero (ts : List Int) (l : List St) (y : Nat) (S : List Bool) : Upd ts l y S 0 S := ⟨rfl, fun u => by simp⟩
theorem getD_set_b (S : List Bool) (k u : Nat) (b : Bool) (hk : k < S.length) : (S.set k b).getD u false = if u = k then b else S.getD u false := getD_setT hk
theorem Upd.take {ts : List Int} {l : List St} {y : Nat} {S cur : List Bool} {j : Nat} (h : Upd ts l y S j cur) (hj : j < S.length) (hu : useRes ts l (y : Nat) (j : Nat) = 2) : Upd ts l y S (j + 1) (cur.set j false) := by
  refine ⟨by simpa using h.1, fun u => ?_⟩
  rw [getD_set_b _ _ _ _ (by rw [h.1]; exact hj)]
  by_cases e : u = j
  · subst e; simp [hu]
  · rw [if_neg e, h.2 u, show decide (u < j + 1) = decide (u < j) by simp; omega]
theorem Upd.keep {ts : List Int} {l : List St} {y : Nat} {S cur : List Bool} {j : Nat} (h : Upd ts l y S j cur) (hu : useRes ts l (y : Nat) (j : Nat) ≠ 2) : Upd ts l y S (j + 1) cur := by
  refine ⟨h.1, fun u => ?_⟩
  rw [h.2 u]
  by_cases e : u = j
  · subst e
    have : (useRes ts l (y : Nat) (u : Nat) == 2) = false := by simpa using hu
    rw [this]; simp
  · rw [show decide (u < j + 1) = decide (u < j) by simp; omega]

theorem set_lt {ts : List Int} {l : List St} {a : Int} (h : 0 ≤ setRes ts l a) : setRes ts l a < ts.length := by
  unfold setRes at h ⊢
  split at h
  · rename_i hok
    obtain ⟨hval, k, rfl, hk⟩ := graphOk_one hok
    rw [if_pos hok]
    rw [ptAt_nat hk] at h ⊢
    have := ((Good.of_valid hval).ok _ (List.getElem_mem hk)).sets
    omega
  · omega
theorem Upd.done {ts : List Int} {l : List St} {y : Nat} {S cur : List Bool} (h : Upd ts l y S ts.length cur) (u : Nat) (hu : u < ts.length) : cur.getD u false = (S.getD u false && !(useRes ts l (y : Nat) (u : Nat) == 2)) := by
  rw [h.2 u, decide_eq_true hu, Bool.true_and]

set_option maxHeartbeats 8000000
set_option maxRecDepth 100000
theorem fnAlwaysSet_any (A : Option Addr) (n c : Nat) (w : World) (A' : Option Addr) (n' c' : Nat) (hb : Byt w w.heap.size A n) (hm : n ≤ maxLen) (hc : n ≤ c) (hb' : Byt w w.heap.size A' n') (hm' : n' ≤ maxLen) (hc' : n' ≤ c') :
    Calls Try.prog 13 #[.slice A n c, .slice A' n' c'] w (LawRet w) := by
  have HB := Lib.hid hb
  have HB2 := Lib.hid hb'
  clear hb hb'
  by_cases hn : n ≤ 1048576
  · by_cases hn' : n' ≤ 1048576
    · go_enter Try.func13, Try.ntmps13
      go_wp2_with fail
      refine (drawAlwaysSet_any A n c _ HB.out hn hc).mono ?_
      rintro e w1 ⟨vt, vb, ts, l, a, rfl, hit, hst, hts, hsz, hb1⟩
      have HP1 := Lib.hid (PgB.new hit hst hb1)
      obtain ⟨At, ct, rfl, hct⟩ := hit.slice
      obtain ⟨Ab, cb, rfl, hcb⟩ := hst.slice
      clear hit hst hb1
      go_wp2_with fail
      generalize w1.alloc (.cells #[.slice At ts.length ct, .slice Ab l.length cb] 26) = W1 at *
      obtain ⟨g, hg⟩ : ∃ g, g = w1.heap.size := ⟨_, rfl⟩
      rw [← hg] at HP1 ⊢
      clear hg
      refine (iAlwaysSet_any _ _ ts l a _ _ HP1.out.ht HP1.out.hl (Nat.le_refl _) (by omega)).mono ?_
      rintro e w2 ⟨v2, rfl, hv2, hb2⟩
      have HA_2 := Lib.hid hv2
      clear hv2
      have HP2 := Lib.hid (HP1.out.bels hb2)
      have c0 := HP2.out.c0
      have c1 := HP2.out.c1
      clear hb2
      go_wp2_with (at_builtin; fail)
      refine (iMaybeSet_any _ _ ts l a _ _ HP2.out.ht HP2.out.hl (Nat.le_refl _) (by omega)).mono ?_
      rintro e w3 ⟨v3, rfl, hv3, hb3⟩
      have HM_3 := Lib.hid hv3
      clear hv3
      have HA_3 := Lib.hid (HA_2.out.bel hb3)
      have HP3 := Lib.hid (HP2.out.bels hb3)
      clear c0 c1
      have c0 := HP3.out.c0
      have c1 := HP3.out.c1
      clear hb3
      go_wp2_with (at_builtin; fail)
      refine (sAlwaysSet_any _ _ ts l a _ _ HP3.out.ht HP3.out.hl (Nat.le_refl _) (by omega)).mono ?_
      rintro e w4 ⟨v4, rfl, hv4, hb4⟩
      have HS_4 := Lib.hid hv4
      clear hv4
      have HA_4 := Lib.hid (HA_3.out.bel hb4)
      have HM_4 := Lib.hid (HM_3.out.bel hb4)
      have HP4 := Lib.hid (HP3.out.bels hb4)
      clear c0 c1
      have c0 := HP4.out.c0
      have c1 := HP4.out.c1
      clear hb4
      go_wp2_with fail
      refine (bcInts_any _ _ _ _ _ _ HA_4.out HS_4.out).mono ?_
      rintro e w5 ⟨rfl, n5, rfl⟩
      rw [show eqP (alwaysRes ts l a) (alwaysRes ts l a) = true by simp [eqP]]
      have hb5 := below_of_drewN (w := w4) ⟨n5, rfl⟩ w4.heap.size
      have HA_5 := Lib.hid (HA_4.out.bel hb5)
      have HM_5 := Lib.hid (HM_4.out.bel hb5)
      have HS_5 := Lib.hid (HS_4.out.bel hb5)
      have HP5 := Lib.hid (HP4.out.bels hb5)
      clear c0 c1
      have c0 := HP5.out.c0
      have c1 := HP5.out.c1
      clear hb5
      generalize w4.drewN n5 = w5 at *
      go_wp2_with (at_builtin; fail)
      refine (sMaybeSet_any _ _ ts l a _ _ HP5.out.ht HP5.out.hl (Nat.le_refl _) (by omega)).mono ?_
      rintro e w6 ⟨v6, rfl, hv6, hb6⟩
      have HS_6 := Lib.hid hv6
      clear hv6
      have HA_6 := Lib.hid (HA_5.out.bel hb6)
      have HM_6 := Lib.hid (HM_5.out.bel hb6)
      have HP6 := Lib.hid (HP5.out.bels hb6)
      clear c0 c1
      have c0 := HP6.out.c0
      have c1 := HP6.out.c1
      clear hb6
      go_wp2_with fail
      refine (bcInts_any _ _ _ _ _ _ HM_6.out HS_6.out).mono ?_
      rintro e w7 ⟨rfl, n7, rfl⟩
      rw [show eqP (maybeRes ts l a) (maybeRes ts l a) = true by simp [eqP]]
      have hb7 := below_of_drewN (w := w6) ⟨n7, rfl⟩ w6.heap.size
      have HA_7 := Lib.hid (HA_6.out.bel hb7)
      have HM_7 := Lib.hid (HM_6.out.bel hb7)
      have HS_7 := Lib.hid (HS_6.out.bel hb7)
      have HP7 := Lib.hid (HP6.out.bels hb7)
      clear c0 c1
      have c0 := HP7.out.c0
      have c1 := HP7.out.c1
      clear hb7
      generalize w6.drewN n7 = w7 at *
      have HAM := Lib.hid (fun j hj => always_maybe (ts := ts) (l := l) (a := a) (j := j) hj)
      have HCK := Lib.hid (fun r i S (h : SI ts l r i S) hi hr ha v hv => SI.chk (a := a) h hi hr ha (v := v) hv)
      generalize alwaysRes ts l a = ra at *
      generalize maybeRes ts l a = rm at *
      obtain ⟨A2, c2, rfl, hc2, hm2, hr2⟩ := HA_7.out
      have HR2 := Lib.hid hr2
      clear hr2
      go_wp2_with (at_builtin; fail)
      go_loop [9] (fun i => ∃ j : Nat, j ≤ ra.length ∧ i = .int .i64 j) (fun i => ra.length - (intOf i).toNat)
      case atStart => exact ⟨0, Nat.zero_le _, rfl⟩
      case round =>
        obtain ⟨j, hj, rfl⟩ := hrel
        by_cases hjl : j < ra.length
        · have HAJ := Lib.hid (HAM.out j hjl)
          obtain ⟨b2, o2, rfl, -, hcell2⟩ := HR2.out.int_at hjl
          have d2 := hcell2 j hjl
          generalize ra.getD j 0 = y at *
          clear hcell2
          go_wp2_with (at_builtin; fail)
          refine (bcIn_any _ _ _ _ _ HM_7.out).mono ?_
          rintro e w9 ⟨rfl, rfl⟩
          rw [HAJ.out]
          go_wp2_with (at_builtin; fail)
          exact ⟨⟨j + 1, by omega, by go_num⟩, by simp [intOf] <;> omega⟩
        · clear HAM HR2
          go_wp2_with (at_builtin; fail)
          refine (drawRunPath_any A' n' c' _ ((HB2.out.keep fun b o hb => (HP7.out.bel).cell (p := ⟨b, o, none⟩) hb).more HP7.out.bel.size) hn' hc').mono ?_
          rintro e w8 ⟨At', Ab', nt', ct', nb', cb', vc, cs, x', rfl, hci, hcs, hb8⟩
          have HC_8 := Lib.hid hci.toS
          clear hci
          have HA_8 := Lib.hid (HA_7.out.bel hb8)
          have HM_8 := Lib.hid (HM_7.out.bel hb8)
          have HP8 := Lib.hid (HP7.out.bels hb8)
          clear c0 c1
          have c0 := HP8.out.c0
          have c1 := HP8.out.c1
          clear hb8
          have hgl := HP8.out.lt
          go_wp2_with (at_builtin; fail)
          clear hgl
          have hb9 := bel_a w8 (.cells #[.slice At' nt' ct', .slice Ab' nb' cb'] 26)
          generalize w8.alloc (.cells #[.slice At' nt' ct', .slice Ab' nb' cb'] 26) = w9 at *
          have HA_9 := Lib.hid (HA_8.out.bel hb9)
          have HM_9 := Lib.hid (HM_8.out.bel hb9)
          have HC_9 := Lib.hid (HC_8.out.bel hb9)
          have HP9 := Lib.hid (HP8.out.bels hb9)
          clear c0 c1
          have c0 := HP9.out.c0
          have c1 := HP9.out.c1
          clear hb9
          refine (iRunPath_any _ _ _ ts l cs 60 _ _ HP9.out.ht HP9.out.hl HC_9.out (Nat.le_refl _) (by omega)).mono ?_
          rintro e w10 ⟨v10, rfl, hv10, hb10⟩
          have HR_10 := Lib.hid hv10
          clear hv10
          have HA_10 := Lib.hid (HA_9.out.bel hb10)
          have HM_10 := Lib.hid (HM_9.out.bel hb10)
          have HP10 := Lib.hid (HP9.out.bels hb10)
          clear c0 c1
          have c0 := HP10.out.c0
          have c1 := HP10.out.c1
          clear hb10
          obtain ⟨hr61, hrv⟩ := run_ok ts l cs
          have HRV := Lib.hid hrv
          generalize (runRes ts l cs 60).1 = r at *
          generalize (runRes ts l cs 60).2 = rb at *
          obtain ⟨A5, c5, rfl, hc5, -, -⟩ := HR_10.out
          have hml : (msk r).length = r.length := by simp [msk]
          have HSF := Lib.hid (SI.first (ts := ts) hrv ts.length)
          clear hrv
          rw [hml] at hc5 ⊢
          have hmk := make_bools ts.length (by omega)
          go_wp2_with (at_builtin; fail)
          clear hmk c0 c1
          have HB0 := Lib.hid (bel_a w10 (.cells (bv (List.replicate ts.length false)).toArray 4))
          have HRW0 := Lib.hid (RowB.new w10 (bv (List.replicate ts.length false)) 4)
          generalize w10.alloc (.cells (bv (List.replicate ts.length false)).toArray 4) = wM at *
          obtain ⟨rs, hrs⟩ : ∃ rs, rs = w10.heap.size := ⟨_, rfl⟩
          have HRS := Lib.hid hrs
          rw [← hrs] at HRW0 ⊢
          clear hrs
          go_loopw [16] (fun i wr => ∃ (j : Nat) (S : List Bool), j ≤ r.length ∧ i = .int .i64 j ∧ S.length = ts.length ∧ SI ts l r j S ∧ RowB wr rs 4 (bv S) ∧ Below w10.heap.size w10 wr) (fun i _ => r.length - (intOf i).toNat)
          case atStart => exact ⟨0, _, Nat.zero_le _, rfl, by simp, HSF.out, HRW0.out, HB0.out⟩
          case round =>
            obtain ⟨j, S, hj, rfl, hSl, hSI, hRS, hbw⟩ := hrel
            have HBW := Lib.hid hbw
            have HSI := Lib.hid hSI
            have HRSW := Lib.hid hRS
            have HPW := Lib.hid (HP10.out.bels hbw)
            clear hSI hRS
            by_cases hjl : j < r.length
            · have hry := HR_10.out.low hbw (Nat.le_refl _)
              obtain ⟨A3, c3, e3, -, -, hr3⟩ := hry
              injection e3 with e3 e9 e8
              subst e3 e8
              obtain ⟨b2, o2, rfl, hb2, hcell2⟩ := hr3.int_at (k := j) (by rw [hml]; exact hjl)
              have d2 := hcell2 j (by rw [hml]; exact hjl)
              rw [msk_getD] at d2
              have HCJ := Lib.hid (fun ha v hv => HCK.out r j S HSI.out hjl HRV.out ha v hv)
              have HNX := Lib.hid (fun S2 h2 => SI.next (S2 := S2) HSI.out hjl HRV.out h2)
              have HYK := Lib.hid (show ((r.getD j 0 : Nat) : Int) = ((r.getD j 0 : Nat) : Int) from rfl)
              generalize r.getD j 0 = y at *
              have HMW := Lib.hid ((HM_10.out.low hbw (Nat.le_refl _)))
              have HAW := Lib.hid ((HA_10.out.low hbw (Nat.le_refl _)))
              have HPY := HPW
              have c0 := HPW.out.c0
              have c1 := HPW.out.c1
              have hb2r : b2 < w10.heap.size := hb2
              clear e9 hr3 hcell2 hbw HYK
              obtain ⟨wo, rfl⟩ : ∃ wo : World, wo = wr := ⟨_, rfl⟩
              go_wp2_with (at_builtin; fail)
              go_loop [17] (fun i => ∃ v : Nat, v ≤ ts.length ∧ i = .int .i64 v) (fun i => ts.length - (intOf i).toNat)
              case atStart => exact ⟨0, Nat.zero_le _, rfl⟩
              case round =>
                obtain ⟨v, hv, rfl⟩ := hrel
                by_cases hvy : v < ts.length ∧ ((y : Nat) : Int) = a
                · obtain ⟨hvl, hya⟩ := hvy
                  obtain ⟨hq1, hq2⟩ := HCJ.out hya v hvl
                  have HQ1 := Lib.hid hq1
                  have HQ2 := Lib.hid hq2
                  have d7 : wo.cell? ⟨rs, v, none⟩ = some (.bool (S.getD v false)) := by rw [HRSW.out.cell, bv_get (by omega)]
                  clear hq1 hq2
                  rw [hya] at d2
                  cases hbv : S.getD v false
                  · rw [hbv] at d7
                    have HQ := Lib.hid (HQ2.out hbv)
                    clear hbv
                    go_wp2_with (at_builtin; fail)
                    refine (bcIn_any _ _ _ _ _ HAW.out).mono ?_
                    rintro e w9 ⟨rfl, rfl⟩
                    rw [HQ.out]
                    go_wp2_with (at_builtin; fail)
                    exact ⟨⟨v + 1, by omega, by go_num⟩, by simp [intOf] <;> omega⟩
                  · rw [hbv] at d7
                    have HQ := Lib.hid (HQ1.out hbv)
                    clear hbv
                    go_wp2_with (at_builtin; fail)
                    refine (bcIn_any _ _ _ _ _ HMW.out).mono ?_
                    rintro e w9 ⟨rfl, rfl⟩
                    rw [HQ.out]
                    go_wp2_with (at_builtin; fail)
                    exact ⟨⟨v + 1, by omega, by go_num⟩, by simp [intOf] <;> omega⟩
                · have hout : v < ts.length → ((y : Nat) : Int) ≠ a := fun h e => hvy ⟨h, e⟩
                  clear hvy
                  have HDK := Lib.hid ((HBW.out.cell (p := ⟨b2, o2 + j, none⟩) hb2r).symm.trans d2)
                  have hst : (v < ts.length ∧ (((y : Nat) : Int) == a) = false) ∨ ¬ v < ts.length := by
                    by_cases h : v < ts.length
                    · exact .inl ⟨h, by simpa using hout h⟩
                    · exact .inr h
                  rcases hst with ⟨hvl, hne⟩ | hvl
                  all_goals
                    clear hout
                    go_wp2_with (at_builtin; fail)
                    clear hvl
                    try clear hne
                    go_loopw [18] (fun i wr => ∃ (v : Nat) (cur : List Bool), v ≤ ts.length ∧ i = .int .i64 v ∧ Upd ts l y S v cur ∧ RowB wr rs 4 (bv cur) ∧ Below w10.heap.size w10 wr) (fun i _ => ts.length - (intOf i).toNat)
                    case atStart => exact ⟨0, S, Nat.zero_le _, rfl, Upd.zero _ _ _ _, HRSW.out, HBW.out⟩
                    case round =>
                      obtain ⟨v, cur, hv, rfl, hU, hR, hbw⟩ := hrel
                      have HU := Lib.hid hU
                      have HR := Lib.hid hR
                      have HBZ := Lib.hid hbw
                      have HPZ := Lib.hid (HP10.out.bels hbw)
                      have hcl := hU.1
                      clear hU hR c0 c1 d2
                      have c0 := HPZ.out.c0
                      have c1 := HPZ.out.c1
                      have hgl := HPZ.out.lt
                      have d2 := (hbw.cell (p := ⟨b2, o2 + j, none⟩) hb2r).trans HDK.out
                      have hsz9 := hbw.size
                      have hb2z : b2 < wr.heap.size := by omega
                      have BEL : Hid (∀ w', w'.cell? ⟨g, 0, none⟩ = some (.slice At ts.length ct) ∧ w'.cell? ⟨g, 1, none⟩ = some (.slice Ab l.length cb) ∧ w'.cell? ⟨b2, o2 + j, none⟩ = some (.int .i64 (y : Nat)) ∧ Below wr.heap.size wr w' → Below wr.heap.size wr w') := Lib.hid fun _ h => h.2.2.2
                      clear hbw
                      by_cases hvl : v < ts.length
                      · go_wp2_with (at_builtin; fail)
                        refine wp_region_held_drew (S := (fun w' => w'.cell? ⟨g, 0, none⟩ = some (.slice At ts.length ct) ∧ w'.cell? ⟨g, 1, none⟩ = some (.slice Ab l.length cb) ∧ w'.cell? ⟨b2, o2 + j, none⟩ = some (.int .i64 (y : Nat)) ∧ Below wr.heap.size wr w')) (by kernel_rfl) ?_ (fun hHeld => ?_)
                        · exact ⟨c0, c1, d2, (Below.refl _ _).drew⟩
                        refine wpAnyH_take (i := 0) (oi := ⟨some 130, _, _, _, _, _⟩) (v := ?_) rfl (by kernel_rfl) (by kernel_rfl) (by kernel_rfl) (fun _ _ _ h => h) (Or.inl ⟨by rfl, fun w' hSw => ?_⟩) (by assumption) ?_
                        rotate_left
                        · (try dsimp only at hSw); go_simp; (try with_reducible rfl)
                        (try simp only [Act.put, List.setIfInBounds_toArray, List.set_cons_zero, List.set_cons_succ])
                        refine wpAnyH_take (i := 1) (oi := ⟨some 131, _, _, _, _, _⟩) (v := ?_) rfl (by kernel_rfl) (by kernel_rfl) (by kernel_rfl) (fun _ _ _ h => h) (Or.inl ⟨by rfl, fun w' hSw => ?_⟩) (by assumption) ?_
                        rotate_left
                        · (try dsimp only at hSw); go_simp; (try with_reducible rfl)
                        (try simp only [Act.put, List.setIfInBounds_toArray, List.set_cons_zero, List.set_cons_succ])
                        refine wpAnyH_take (i := 2) (oi := ⟨some 132, _, _, _, _, _⟩) (v := ?_) rfl (by kernel_rfl) (by kernel_rfl) (by kernel_rfl) (fun _ _ _ h => h) (Or.inl ⟨by rfl, fun w' hSw => ?_⟩) (by assumption) ?_
                        rotate_left
                        · (try dsimp only at hSw); go_simp; (try with_reducible rfl)
                        (try simp only [Act.put, List.setIfInBounds_toArray, List.set_cons_zero, List.set_cons_succ])
                        refine wpAnyH_take (i := 3) (oi := ⟨some 133, _, _, _, _, _⟩) (v := ?_) rfl (by kernel_rfl) (by kernel_rfl) (by kernel_rfl) (fun _ _ _ h => h) (Or.inl ⟨by rfl, fun w' hSw => ?_⟩) (by assumption) ?_
                        rotate_left
                        · (try dsimp only at hSw); go_simp; (try with_reducible rfl)
                        (try simp only [Act.put, List.setIfInBounds_toArray, List.set_cons_zero, List.set_cons_succ])
                        refine wpAnyH_take (i := 4) (oi := ⟨some 134, _, _, _, _, _⟩) (v := ?_) rfl (by kernel_rfl) (by kernel_rfl) (by kernel_rfl) (fun _ _ _ h => h) (Or.inl ⟨by rfl, fun w' hSw => ?_⟩) (by assumption) ?_
                        rotate_left
                        · (try dsimp only at hSw); go_simp; (try with_reducible rfl)
                        (try simp only [Act.put, List.setIfInBounds_toArray, List.set_cons_zero, List.set_cons_succ])
                        refine wpAnyH_take (i := 5) (oi := ⟨some 135, _, _, _, _, _⟩) (v := ?_) rfl (by kernel_rfl) (by kernel_rfl) (by kernel_rfl) (fun _ _ _ h => h) (Or.inl ⟨by rfl, fun w' hSw => ?_⟩) (by assumption) ?_
                        rotate_left
                        · (try dsimp only at hSw); go_simp; (try with_reducible rfl)
                        (try simp only [Act.put, List.setIfInBounds_toArray, List.set_cons_zero, List.set_cons_succ])
                        refine wpAnyH_ready (rs := [6]) (by kernel_rfl) (by simp) ?_
                        refine AllReadyH.cons (o := ⟨some 136, _, _, _, _, _⟩) rfl (fun K hK => ?_) AllReadyH.nil
                        go_simp
                        (refine (iUseOf_any (.slice At ts.length ct) (.slice Ab l.length cb) ts l (y : Nat) (v : Nat) _ _ (HPZ.out.ht.low (BEL.out _ (by assumption)) (Nat.le_refl _)) (HPZ.out.hl.low (BEL.out _ (by assumption)) (Nat.le_refl _)) (BEL.out _ (by assumption)).size (by omega)).mono ?_)
                        (rintro e w7 ⟨rfl, hb7⟩)
                        (have BX7 := Lib.hid ((BEL.out _ (by assumption)).trans (hb7.mono (BEL.out _ (by assumption)).size)))
                        clear hb7
                        (generalize hus : useRes ts l ((y : Nat) : Int) ((v : Nat) : Int) = u)
                        (have HUS := Lib.hid hus)
                        clear hus
                        go_simp
                        refine hK.out _ _ ?_ (fun hHeld => ?_)
                        · exact ⟨belC BX7.out c0 hgl, belC BX7.out c1 hgl, belC BX7.out d2 hb2z, BX7.out⟩
                        clear hK K
                        (try simp only [Act.put, List.setIfInBounds_toArray, List.set_cons_zero, List.set_cons_succ])
                        refine wpAnyH_take (i := 7) (oi := ⟨some 137, _, _, _, _, _⟩) (v := ?_) rfl (by kernel_rfl) (by kernel_rfl) (by kernel_rfl) (fun _ _ _ h => h) (Or.inl ⟨by rfl, fun w' hSw => ?_⟩) (by assumption) ?_
                        rotate_left
                        · (try dsimp only at hSw); go_simp; (try with_reducible rfl)
                        (try simp only [Act.put, List.setIfInBounds_toArray, List.set_cons_zero, List.set_cons_succ])
                        refine wpAnyH_done (by kernel_rfl) ?_ _
                        have hrow := HR.out.low BX7.out HR.out.lt
                        have hBK := HBZ.out.trans (BX7.out.mono HBZ.out.size)
                        by_cases hu : u = 2
                        · have HUT := Lib.hid (HU.out.take (by omega) (HUS.out.trans hu))
                          have hu1 : (u == 2) = true := by simpa using hu
                          have hcv : w7.cell? ⟨rs, v, none⟩ = some (.bool (cur.getD v false)) := by rw [hrow.cell, bv_get (by omega)]
                          have hfz := hrow.frozen v
                          have HRW := Lib.hid (hrow.set_ v (.bool false))
                          have HBK := Lib.hid (hBK.setCell (p := ⟨rs, v, none⟩) (by show w10.heap.size ≤ rs; rw [HRS.out]; exact Nat.le_refl _) (.bool false))
                          clear hrow hBK hu
                          go_wp2_with (at_builtin; fail)
                          exact ⟨⟨v + 1, _, by omega, by go_num, HUT.out, by rw [← bv_set]; exact HRW.out, HBK.out⟩, by simp [intOf] <;> omega⟩
                        · have HUT := Lib.hid (HU.out.keep (by rw [HUS.out]; exact hu))
                          have hu1 : (u == 2) = false := by simpa using hu
                          have HRW := Lib.hid hrow
                          have HBK := Lib.hid hBK
                          clear hrow hBK hu
                          go_wp2_with (at_builtin; fail)
                          exact ⟨⟨v + 1, _, by omega, by go_num, HUT.out, HRW.out, HBK.out⟩, by simp [intOf] <;> omega⟩
                      · obtain rfl : v = ts.length := by omega
                        go_wp2_with (at_builtin; fail)
                        refine wp_region_held_drew (S := (fun w' => w'.cell? ⟨g, 0, none⟩ = some (.slice At ts.length ct) ∧ w'.cell? ⟨g, 1, none⟩ = some (.slice Ab l.length cb) ∧ w'.cell? ⟨b2, o2 + j, none⟩ = some (.int .i64 (y : Nat)) ∧ Below wr.heap.size wr w')) (by kernel_rfl) ?_ (fun hHeld => ?_)
                        · exact ⟨c0, c1, d2, (Below.refl _ _).drew⟩
                        refine wpAnyH_take (i := 0) (oi := ⟨some 141, _, _, _, _, _⟩) (v := ?_) rfl (by kernel_rfl) (by kernel_rfl) (by kernel_rfl) (fun _ _ _ h => h) (Or.inl ⟨by rfl, fun w' hSw => ?_⟩) (by assumption) ?_
                        rotate_left
                        · (try dsimp only at hSw); go_simp; (try with_reducible rfl)
                        (try simp only [Act.put, List.setIfInBounds_toArray, List.set_cons_zero, List.set_cons_succ])
                        refine wpAnyH_take (i := 1) (oi := ⟨some 142, _, _, _, _, _⟩) (v := ?_) rfl (by kernel_rfl) (by kernel_rfl) (by kernel_rfl) (fun _ _ _ h => h) (Or.inl ⟨by rfl, fun w' hSw => ?_⟩) (by assumption) ?_
                        rotate_left
                        · (try dsimp only at hSw); go_simp; (try with_reducible rfl)
                        (try simp only [Act.put, List.setIfInBounds_toArray, List.set_cons_zero, List.set_cons_succ])
                        refine wpAnyH_take (i := 2) (oi := ⟨some 143, _, _, _, _, _⟩) (v := ?_) rfl (by kernel_rfl) (by kernel_rfl) (by kernel_rfl) (fun _ _ _ h => h) (Or.inl ⟨by rfl, fun w' hSw => ?_⟩) (by assumption) ?_
                        rotate_left
                        · (try dsimp only at hSw); go_simp; (try with_reducible rfl)
                        (try simp only [Act.put, List.setIfInBounds_toArray, List.set_cons_zero, List.set_cons_succ])
                        refine wpAnyH_take (i := 3) (oi := ⟨some 144, _, _, _, _, _⟩) (v := ?_) rfl (by kernel_rfl) (by kernel_rfl) (by kernel_rfl) (fun _ _ _ h => h) (Or.inl ⟨by rfl, fun w' hSw => ?_⟩) (by assumption) ?_
                        rotate_left
                        · (try dsimp only at hSw); go_simp; (try with_reducible rfl)
                        (try simp only [Act.put, List.setIfInBounds_toArray, List.set_cons_zero, List.set_cons_succ])
                        refine wpAnyH_take (i := 4) (oi := ⟨some 145, _, _, _, _, _⟩) (v := ?_) rfl (by kernel_rfl) (by kernel_rfl) (by kernel_rfl) (fun _ _ _ h => h) (Or.inl ⟨by rfl, fun w' hSw => ?_⟩) (by assumption) ?_
                        rotate_left
                        · (try dsimp only at hSw); go_simp; (try with_reducible rfl)
                        (try simp only [Act.put, List.setIfInBounds_toArray, List.set_cons_zero, List.set_cons_succ])
                        refine wpAnyH_ready (rs := [5]) (by kernel_rfl) (by simp) ?_
                        refine AllReadyH.cons (o := ⟨some 146, _, _, _, _, _⟩) rfl (fun K hK => ?_) AllReadyH.nil
                        go_simp
                        (refine (iSetBy_any (.slice At ts.length ct) (.slice Ab l.length cb) ts l (y : Nat) _ _ (HPZ.out.ht.low (BEL.out _ (by assumption)) (Nat.le_refl _)) (HPZ.out.hl.low (BEL.out _ (by assumption)) (Nat.le_refl _)) (BEL.out _ (by assumption)).size (by omega)).mono ?_)
                        (rintro e w7 ⟨rfl, hb7⟩)
                        (have BX7 := Lib.hid ((BEL.out _ (by assumption)).trans (hb7.mono (BEL.out _ (by assumption)).size)))
                        clear hb7
                        (have HSL0 := Lib.hid (fun h => set_lt (ts := ts) (l := l) (a := ((y : Nat) : Int)) h))
                        (generalize hss : setRes ts l ((y : Nat) : Int) = s at *)
                        (have HSS := Lib.hid hss)
                        (have HSL := HSL0)
                        clear hss HSL0
                        go_simp
                        refine hK.out _ _ ?_ (fun hHeld => ?_)
                        · exact ⟨belC BX7.out c0 hgl, belC BX7.out c1 hgl, belC BX7.out d2 hb2z, BX7.out⟩
                        clear hK K
                        (try simp only [Act.put, List.setIfInBounds_toArray, List.set_cons_zero, List.set_cons_succ])
                        refine wpAnyH_take (i := 6) (oi := ⟨some 19, _, _, _, _, _⟩) (v := ?_) rfl (by kernel_rfl) (by kernel_rfl) (by kernel_rfl) (fun _ _ _ h => h) (Or.inl ⟨by rfl, fun w' hSw => ?_⟩) (by assumption) ?_
                        rotate_left
                        · (try dsimp only at hSw); go_simp; (try with_reducible rfl)
                        (try simp only [Act.put, List.setIfInBounds_toArray, List.set_cons_zero, List.set_cons_succ])
                        refine wpAnyH_done (by kernel_rfl) ?_ _
                        have hrow := HR.out.low BX7.out HR.out.lt
                        have hBK := HBZ.out.trans (BX7.out.mono HBZ.out.size)
                        by_cases hs0 : 0 ≤ s
                        · have hs1 : decide (s ≥ 0) = true := by simpa using hs0
                          have hsl := HSL.out hs0
                          obtain ⟨x, rfl⟩ : ∃ x : Nat, s = x := ⟨s.toNat, by omega⟩
                          have HNN := Lib.hid (HNX.out (cur.set x true) (fun u hu => by
                            rw [getD_set_b _ _ _ _ (by omega), HU.out.done u hu]
                            by_cases e : u = x
                            · subst e; simp
                            · rw [if_neg e, show decide (((x : Nat) : Int) = ((u : Nat) : Int)) = false by simp; omega, Bool.or_false]))
                          have hcv : w7.cell? ⟨rs, x, none⟩ = some (.bool (cur.getD x false)) := by rw [hrow.cell, bv_get (by omega)]
                          have hfz := hrow.frozen x
                          have HRW := Lib.hid (hrow.set_ x (.bool true))
                          have HBK := Lib.hid (hBK.setCell (p := ⟨rs, x, none⟩) (by show w10.heap.size ≤ rs; rw [HRS.out]; exact Nat.le_refl _) (.bool true))
                          clear hrow hBK hs0
                          go_wp2_with (at_builtin; fail)
                          exact ⟨⟨j + 1, cur.set x true, by omega, by go_num, by simp; omega, HNN.out, by rw [← bv_set]; exact HRW.out, HBK.out⟩, by simp [intOf] <;> omega⟩
                        · have hs1 : decide (s ≥ 0) = false := by simpa using hs0
                          have HNN := Lib.hid (HNX.out cur (fun u hu => by
                            rw [HU.out.done u hu, show decide (s = ((u : Nat) : Int)) = false by simp; omega, Bool.or_false]))
                          have HRW := Lib.hid hrow
                          have HBK := Lib.hid hBK
                          clear hrow hBK hs0
                          go_wp2_with (at_builtin; fail)
                          exact ⟨⟨j + 1, cur, by omega, by go_num, by omega, HNN.out, HRW.out, HBK.out⟩, by simp [intOf] <;> omega⟩
            · go_wp2_with (at_builtin; fail)
              go_ret
              exact ⟨rfl, HPW.out.bel⟩
    · have hn1 : (1048576 : Int) < n' := by omega
      unfold maxLen at hm hm'
      go_enter Try.func13, Try.ntmps13
      go_wp2_with fail
      go_ret
      exact ⟨rfl, Below.refl _ _⟩
  · have hn1 : (1048576 : Int) < n := by omega
    unfold maxLen at hm hm'
    go_enter Try.func13, Try.ntmps13
    go_wp2_with fail
    go_ret
    exact ⟨rfl, Below.refl _ _⟩

end Go.Proofs.Yteaddodjijlpjaa
