import Derived.Test.YteaddodjijlpjaaG38
import Derived.Test.YteaddodjijlpjaaG43
import Derived.Test.YteaddodjijlpjaaG52
import Derived.Test.YteaddodjijlpjaaG18
import Derived.Test.YteaddodjijlpjaaG53
import Derived.Test.YteaddodjijlpjaaG37
set_option linter.unusedVariables false

/- FnCellMakers: the plain law, the walk. -/
namespace Go.Proofs.Yteaddodjijlpjaa
open Go.RowKit

theorem cell_makers {ts : List Int} {l : List St} {a v : Int} {j : Nat} (hj : j < (flRes ts l Gcell Ccell a v).length) : validP ts l = true ∧ (0 ≤ v ∧ v < ts.length ∧ typeOfP ts v ≠ 1) ∧ ∃ k : Nat, (flRes ts l Gcell Ccell a v).getD j 0 = (k : Nat) ∧ ∃ hk : k < (ptsP l).length, ((ptsP l)[k]).op = 2 := by
  have hm : (flRes ts l Gcell Ccell a v).getD j 0 ∈ flRes ts l Gcell Ccell a v := by rw [getD_lt hj]; exact List.getElem_mem hj
  generalize (flRes ts l Gcell Ccell a v).getD j 0 = y at *
  unfold flRes at hm
  split at hm
  · rename_i hok
    have hv : 0 ≤ v ∧ v < ts.length := by have := hok.2; simp [withinP] at this; omega
    have hval := (graphOk_one hok.1).1
    unfold flS at hm
    obtain ⟨k, hk, hf, rfl⟩ := lst_mem.1 hm
    have hf' := (dec_iff.1 hf).cellBox (Good.of_valid hval)
    obtain ⟨⟨p, hp, ho⟩, ht⟩ := hf'
    rw [show ((v.toNat : Nat) : Int) = v by omega] at ht
    refine ⟨hval, ⟨hv.1, hv.2, ht⟩, k, rfl, hk, ?_⟩
    rw [List.getElem?_eq_getElem hk] at hp
    injection hp with hp
    rw [hp]; exact ho
  · simp at hm

set_option maxHeartbeats 8000000
set_option maxRecDepth 100000
theorem fnCellMakers_any (A : Option Addr) (n c : Nat) (w : World) (hb : Byt w w.heap.size A n) (hm : n ≤ maxLen) (hc : n ≤ c) :
    Calls Try.prog 4 #[.slice A n c] w (LawRet w) := by
  have HB := Lib.hid hb
  clear hb
  by_cases hn : n ≤ 1048576
  · go_enter Try.func4, Try.ntmps4
    go_wp2_with fail
    refine (drawCellsOf_any A n c _ HB.out hn hc).mono ?_
    rintro e w1 ⟨vt, vb, ts, l, a, v, rfl, hit, hst, hts, hsz, hb1⟩
    have HP1 := Lib.hid (PgB.new hit hst hb1)
    obtain ⟨At, ct, rfl, hct⟩ := hit.slice
    obtain ⟨Ab, cb, rfl, hcb⟩ := hst.slice
    clear hit hst hb1
    go_wp2_with fail
    generalize w1.alloc (.cells #[.slice At ts.length ct, .slice Ab l.length cb] 26) = W1 at *
    obtain ⟨g, hg⟩ : ∃ g, g = w1.heap.size := ⟨_, rfl⟩
    rw [← hg] at HP1 ⊢
    clear hg
    refine (iCellsOf_any _ _ ts l a v _ _ HP1.out.ht HP1.out.hl (Nat.le_refl _) (by omega)).mono ?_
    rintro e w2 ⟨v2, rfl, hv2, hb2⟩
    have HV_2 := Lib.hid hv2
    clear hv2
    have HP2 := Lib.hid (HP1.out.bels hb2)
    have c0 := HP2.out.c0
    have c1 := HP2.out.c1
    clear hb2
    go_wp2_with (at_builtin; fail)
    refine (iPointsOf_any _ _ ts l _ _ HP2.out.ht HP2.out.hl (Nat.le_refl _) (by omega)).mono ?_
    rintro e w3 ⟨v3, rfl, hv3, hb3⟩
    have HPT_3 := Lib.hid hv3
    obtain ⟨Ap, cp, rfl, hcp, hpl⟩ := hv3.slice
    clear hv3
    have HV_3 := Lib.hid (HV_2.out.bel hb3)
    have HP3 := Lib.hid (HP2.out.bels hb3)
    clear c0 c1
    have c0 := HP3.out.c0
    have c1 := HP3.out.c1
    clear hb3
    go_wp2_with fail
    refine (sCellsOf_any _ _ ts l a v _ _ HP3.out.ht HP3.out.hl (Nat.le_refl _) (by omega)).mono ?_
    rintro e w4 ⟨v4, rfl, hv4, hb4⟩
    have HS_4 := Lib.hid hv4
    clear hv4
    have HV_4 := Lib.hid (HV_3.out.bel hb4)
    have HPT_4 := Lib.hid (HPT_3.out.bel hb4)
    have HP4 := Lib.hid (HP3.out.bels hb4)
    clear c0 c1
    have c0 := HP4.out.c0
    have c1 := HP4.out.c1
    clear hb4
    go_wp2_with fail
    refine (bcInts_any _ _ _ _ _ _ HV_4.out HS_4.out).mono ?_
    rintro e w5 ⟨rfl, n5, rfl⟩
    rw [show eqP (flRes ts l Gcell Ccell a v) (flRes ts l Gcell Ccell a v) = true by simp [eqP]]
    have hb5 := below_of_drewN (w := w4) ⟨n5, rfl⟩ w4.heap.size
    have HV_5 := Lib.hid (HV_4.out.bel hb5)
    have HPT_5 := Lib.hid (HPT_4.out.bel hb5)
    have HS_5 := Lib.hid (HS_4.out.bel hb5)
    have HP5 := Lib.hid (HP4.out.bels hb5)
    clear c0 c1
    have c0 := HP5.out.c0
    have c1 := HP5.out.c1
    clear hb5
    generalize w4.drewN n5 = w5 at *
    have HMK := Lib.hid (fun j hj => cell_makers (ts := ts) (l := l) (a := a) (v := v) (j := j) hj)
    generalize flRes ts l Gcell Ccell a v = r at *
    obtain ⟨A2, c2, rfl, hc2, hm2, hr2⟩ := HV_5.out
    have HR2 := Lib.hid hr2
    clear hr2
    go_wp2_with (at_builtin; fail)
    go_loop [8] (fun i => ∃ j : Nat, j ≤ r.length ∧ i = .int .i64 j) (fun i => r.length - (intOf i).toNat)
    case atStart => exact ⟨0, Nat.zero_le _, rfl⟩
    case round =>
      obtain ⟨j, hj, rfl⟩ := hrel
      by_cases hjl : j < r.length
      · obtain ⟨hval, ⟨hv0, hv1, hv2⟩, k, hk, hkl, hop⟩ := HMK.out j hjl
        obtain ⟨b2, o2, rfl, -, hcell2⟩ := HR2.out.int_at hjl
        have d2 := hcell2 j hjl
        rw [hk] at d2
        have hpe : pointsP ts l = ptsP l := by unfold pointsP; rw [hval]; rfl
        rw [hpe] at HPT_5 hpl hcp ⊢
        obtain ⟨bp, op, cp', nv, e, hbp, hcp', hlp, hnx, p0, p1, p2, p3, p4⟩ := HPT_5.out.get hkl
        injection e with e1 e9 e2
        subst e1 e2
        rw [hop] at p0
        obtain ⟨x, rfl⟩ : ∃ x : Nat, v = x := ⟨v.toNat, by omega⟩
        have hx : x < ts.length := by omega
        obtain ⟨b8, o8, c8, e8, -, -, -, hcell⟩ := HP5.out.ht.get (i := (x : Nat)) (by omega) hv1
        rw [Int.toNat_natCast] at hcell
        have hty : (typeOfP ts (x : Nat) == 1) = false := by simpa using hv2
        generalize typeOfP ts (x : Nat) = ty at *
        injection e8 with e8 e8l e8c
        subst e8
        clear e9 e8l e8c hv0 hv2 hk hop hcell2 p1 p2 p3 p4 hnx hpe hval
        go_wp2_with (at_builtin; fail)
        exact ⟨⟨j + 1, by omega, by go_num⟩, by simp [intOf] <;> omega⟩
      · go_wp2_with (at_builtin; fail)
        go_ret
        exact ⟨rfl, HP5.out.bel⟩
  · have hn1 : (1048576 : Int) < n := by omega
    unfold maxLen at hm
    go_enter Try.func4, Try.ntmps4
    go_wp2_with fail
    go_ret
    exact ⟨rfl, Below.refl _ _⟩

end Go.Proofs.Yteaddodjijlpjaa
