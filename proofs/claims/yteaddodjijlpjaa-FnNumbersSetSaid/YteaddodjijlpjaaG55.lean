import Derived.Test.YteaddodjijlpjaaG38
import Derived.Test.YteaddodjijlpjaaG43
import Derived.Test.YteaddodjijlpjaaG52
import Derived.Test.YteaddodjijlpjaaG18
import Derived.Test.YteaddodjijlpjaaG53
import Derived.Test.YteaddodjijlpjaaG37
set_option linter.unusedVariables false

/- FnNumbersSet: the plain law, the walk. -/
namespace Go.Proofs.Yteaddodjijlpjaa
open Go.RowKit

theorem numbers_set {ts : List Int} {l : List St} {a v : Int} (h : numRes ts l a v ≠ []) : hasP (maybeRes ts l a) v = true ∧ 0 ≤ v ∧ v < ts.length ∧ typeOfP ts v = 1 := by
  unfold numRes at h
  split at h
  · rename_i hok
    have hv : 0 ≤ v ∧ v < ts.length := by have := hok.2.1; simp [withinP] at this; omega
    obtain ⟨x, hx⟩ := List.exists_mem_of_ne_nil _ h
    unfold flS at hx
    obtain ⟨e, he, hf, rfl⟩ := lst_mem.1 hx
    have := (dec_iff.1 hf).maybe
    refine ⟨?_, hv.1, hv.2, hok.2.2⟩
    unfold maybeRes maybeAt
    rw [if_pos hok.1, show v = ((v.toNat : Nat) : Int) by omega, lst_has, decide_eq_true (by omega), Bool.true_and]
    exact dec_true this
  · exact absurd rfl h

set_option maxHeartbeats 8000000
set_option maxRecDepth 100000
theorem fnNumbersSet_any (A : Option Addr) (n c : Nat) (w : World) (hb : Byt w w.heap.size A n) (hm : n ≤ maxLen) (hc : n ≤ c) :
    Calls Try.prog 6 #[.slice A n c] w (LawRet w) := by
  have HB := Lib.hid hb
  clear hb
  by_cases hn : n ≤ 1048576
  · go_enter Try.func6, Try.ntmps6
    go_wp2_with fail
    refine (drawNumbersOf_any A n c _ HB.out hn hc).mono ?_
    rintro e w1 ⟨vt, vb, ts, l, a, v, rfl, hit, hst, hts, hsz, hb1⟩
    have HP1 := Lib.hid (PgB.new hit hst hb1)
    obtain ⟨At, ct, rfl, hct⟩ := hit.slice
    obtain ⟨Ab, cb, rfl, hcb⟩ := hst.slice
    clear hit hst hb1
    go_wp2_with fail
    generalize w1.alloc (.cells #[.slice At ts.length ct, .slice Ab l.length cb] 26) = W1 at *
    obtain ⟨g, hg⟩ : ∃ g, g = w1.heap.size := ⟨_, rfl⟩
    rw [← hg] at HP1 ⊢
    clear hg
    refine (iNumbersOf_any _ _ ts l a v _ _ HP1.out.ht HP1.out.hl (Nat.le_refl _) (by omega)).mono ?_
    rintro e w2 ⟨v2, rfl, hv2, hb2⟩
    have HV_2 := Lib.hid hv2
    clear hv2
    have HP2 := Lib.hid (HP1.out.bels hb2)
    have c0 := HP2.out.c0
    have c1 := HP2.out.c1
    clear hb2
    go_wp2_with (at_builtin; fail)
    refine (sNumbersOf_any _ _ ts l a v _ _ HP2.out.ht HP2.out.hl (Nat.le_refl _) (by omega)).mono ?_
    rintro e w3 ⟨v3, rfl, hv3, hb3⟩
    have HS_3 := Lib.hid hv3
    clear hv3
    have HV_3 := Lib.hid (HV_2.out.bel hb3)
    have HP3 := Lib.hid (HP2.out.bels hb3)
    clear c0 c1
    have c0 := HP3.out.c0
    have c1 := HP3.out.c1
    clear hb3
    go_wp2_with fail
    refine (bcInts_any _ _ _ _ _ _ HV_3.out HS_3.out).mono ?_
    rintro e w4 ⟨rfl, n4, rfl⟩
    rw [show eqP (numRes ts l a v) (numRes ts l a v) = true by simp [eqP]]
    have hb4 := below_of_drewN (w := w3) ⟨n4, rfl⟩ w3.heap.size
    have HV_4 := Lib.hid (HV_3.out.bel hb4)
    have HS_4 := Lib.hid (HS_3.out.bel hb4)
    have HP4 := Lib.hid (HP3.out.bels hb4)
    clear c0 c1
    have c0 := HP4.out.c0
    have c1 := HP4.out.c1
    clear hb4
    generalize w3.drewN n4 = w4 at *
    obtain ⟨r, hr⟩ : ∃ r, r = numRes ts l a v := ⟨_, rfl⟩
    have HRES := Lib.hid hr
    rw [← hr] at HV_4 HS_4
    obtain ⟨A2, c2, rfl, hc2, -, -⟩ := HV_4.out
    clear hr
    by_cases hz : r = []
    · subst hz
      go_wp2_with (at_builtin; fail)
      refine (sNumbersOf_any _ _ ts l a v _ _ HP4.out.ht HP4.out.hl (Nat.le_refl _) (by omega)).mono ?_
      rintro e w5 ⟨v5, rfl, hv5, hb5⟩
      have HT_5 := Lib.hid hv5
      clear hv5
      have HV_5 := Lib.hid (HV_4.out.bel hb5)
      have HS_5 := Lib.hid (HS_4.out.bel hb5)
      have HP5 := Lib.hid (HP4.out.bels hb5)
      clear c0 c1
      have c0 := HP5.out.c0
      have c1 := HP5.out.c1
      clear hb5
      rw [← HRES.out] at HT_5
      go_wp2_with fail
      refine (bcInts_any _ _ _ _ _ _ HV_5.out HT_5.out).mono ?_
      rintro e w6 ⟨rfl, n6, rfl⟩
      rw [show eqP (([] : List Int)) (([] : List Int)) = true by simp [eqP]]
      have hb6 := below_of_drewN (w := w5) ⟨n6, rfl⟩ w5.heap.size
      have HV_6 := Lib.hid (HV_5.out.bel hb6)
      have HS_6 := Lib.hid (HS_5.out.bel hb6)
      have HT_6 := Lib.hid (HT_5.out.bel hb6)
      have HP6 := Lib.hid (HP5.out.bels hb6)
      clear c0 c1
      have c0 := HP6.out.c0
      have c1 := HP6.out.c1
      clear hb6
      generalize w5.drewN n6 = w6 at *
      go_wp2_with fail
      go_ret
      exact ⟨rfl, HP6.out.bel⟩
    · have hz1 : ((r.length : Int) == 0) = false := by simpa using hz
      have HLAW := Lib.hid (numbers_set (by rw [← HRES.out]; exact hz))
      go_wp2_with (at_builtin; fail)
      refine (iMaybeSet_any _ _ ts l a _ _ HP4.out.ht HP4.out.hl (Nat.le_refl _) (by omega)).mono ?_
      rintro e w5 ⟨v5, rfl, hv5, hb5⟩
      have HM_5 := Lib.hid hv5
      clear hv5
      have HV_5 := Lib.hid (HV_4.out.bel hb5)
      have HS_5 := Lib.hid (HS_4.out.bel hb5)
      have HP5 := Lib.hid (HP4.out.bels hb5)
      clear c0 c1
      have c0 := HP5.out.c0
      have c1 := HP5.out.c1
      clear hb5
      go_wp2_with (at_builtin; fail)
      refine (bcIn_any _ _ _ _ _ HM_5.out).mono ?_
      rintro e w9 ⟨rfl, rfl⟩
      rw [HLAW.out.1]
      have hv0 := HLAW.out.2.1
      have hv1 := HLAW.out.2.2.1
      obtain ⟨x, rfl⟩ : ∃ x : Nat, v = x := ⟨v.toNat, by omega⟩
      have hx : x < ts.length := by omega
      obtain ⟨b8, o8, c8, e8, -, -, -, hcell⟩ := HP5.out.ht.get (i := (x : Nat)) (by omega) hv1
      rw [HLAW.out.2.2.2, Int.toNat_natCast] at hcell
      injection e8 with e8 e8l e8c
      subst e8
      clear e8l e8c hv0 hv1
      go_wp2_with (at_builtin; fail)
      go_ret
      exact ⟨rfl, HP5.out.bel⟩
  · have hn1 : (1048576 : Int) < n := by omega
    unfold maxLen at hm
    go_enter Try.func6, Try.ntmps6
    go_wp2_with fail
    go_ret
    exact ⟨rfl, Below.refl _ _⟩

end Go.Proofs.Yteaddodjijlpjaa
