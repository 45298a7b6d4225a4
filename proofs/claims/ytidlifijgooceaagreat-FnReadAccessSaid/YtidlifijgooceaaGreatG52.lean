import Derived.Test.YtidlifijgooceaaGreatG24
import Derived.Test.YtidlifijgooceaaGreatG49
import Derived.Test.YtidlifijgooceaaGreatG30
import Derived.Test.YtidlifijgooceaaGreatG09
import Derived.Test.YtidlifijgooceaaGreatG10
import Derived.Test.YtidlifijgooceaaGreatG50
import Derived.Test.YtidlifijgooceaaGreatG51
set_option linter.unusedVariables false

/- FnReadAccess: the walk. -/
namespace Go.Proofs.YtidlifijgooceaaGreat
open Go.RowKit

theorem read_of {ts : List Int} {l : List St} {a : Int} (h : ∀ x ∈ accRes ts l a, x.wr = false) {i : Nat} (hi : i < (lnL (pointsP ts l) (pointsP ts l).length).length) (hc : hasP (cfRes ts l a) ((lnL (pointsP ts l) (pointsP ts l).length)[i].pt : Nat) = true) : (lnL (pointsP ts l) (pointsP ts l).length)[i].un = true := by
  obtain ⟨h1, h2, h3, -⟩ := lnL_get hi
  rw [h3]
  generalize (lnL (pointsP ts l) (pointsP ts l).length)[i].pt = e at *
  rw [hasP_iff] at hc
  unfold cfRes at hc
  split at hc
  · rename_i hok
    obtain ⟨hv, -⟩ := graphOk_one hok
    have e2 : pointsP ts l = ptsP l := by unfold pointsP; rw [if_pos hv]
    rw [e2]
    exact read_law h (cfL_mem hc)
  · simp at hc

set_option maxHeartbeats 8000000
set_option maxRecDepth 100000
theorem fnReadAccess_any (A : Option Addr) (n c : Nat) (w : World) (hb : Byt w w.heap.size A n) (hm : n ≤ maxLen) (hc : n ≤ c) :
    Calls Tryz.prog 4 #[.slice A n c] w (LawRet w) := by
  have HB := Lib.hid hb
  clear hb
  by_cases hn : n ≤ 1048576
  · go_enter Tryz.func4, Tryz.ntmps4
    go_wp2_with fail
    refine (drawConflictsAt_any A n c _ HB.out hn hc).mono ?_
    rintro e w1 ⟨vt, vb, ts, l, a, rfl, hit, hst, hts, hsz, hb1⟩
    have HP1 := Lib.hid (PgB.new hit hst hb1)
    obtain ⟨At, ct, rfl, hct⟩ := hit.slice
    obtain ⟨Ab, cb, rfl, hcb⟩ := hst.slice
    clear hit hst hb1
    go_wp2_with fail
    generalize w1.alloc (.cells #[.slice At ts.length ct, .slice Ab l.length cb] 26) = W1 at *
    obtain ⟨g, hg⟩ : ∃ g, g = w1.heap.size := ⟨_, rfl⟩
    rw [← hg] at HP1 ⊢
    clear hg
    refine (iConflictsAt_ret _ _ ts l a _ _ HP1.out.ht HP1.out.hl (Nat.le_refl _) (by omega)).mono ?_
    rintro e w2 ⟨v2, rfl, hv2, hb2⟩
    have HV_2 := Lib.hid hv2
    clear hv2
    have HP2 := Lib.hid (HP1.out.bels hb2)
    have c0 := HP2.out.c0
    have c1 := HP2.out.c1
    clear hb2
    go_wp2_with (at_builtin; fail)
    refine (sConflictsAt_any _ _ ts l a _ _ HP2.out.ht HP2.out.hl (Nat.le_refl _) (by omega)).mono ?_
    rintro e w3 ⟨v3, rfl, hv3, hb3⟩
    have HS_3 := Lib.hid hv3
    clear hv3
    have HV_3 := Lib.hid (HV_2.out.bel hb3)
    have HP3 := Lib.hid (HP2.out.bels hb3)
    clear c0 c1
    have c0 := HP3.out.c0
    have c1 := HP3.out.c1
    clear hb3
    go_wp2_with fail
    refine (bcInts_any _ _ _ _ _ _ HV_3.out HS_3.out).mono ?_
    rintro e w4 ⟨rfl, n4, rfl⟩
    rw [show eqP (cfRes ts l a) (cfRes ts l a) = true by simp [eqP]]
    have hb4 := below_of_drewN (w := w3) ⟨n4, rfl⟩ w3.heap.size
    have HV_4 := Lib.hid (HV_3.out.bel hb4)
    have HS_4 := Lib.hid (HS_3.out.bel hb4)
    have HP4 := Lib.hid (HP3.out.bels hb4)
    clear c0 c1
    have c0 := HP4.out.c0
    have c1 := HP4.out.c1
    clear hb4
    generalize w3.drewN n4 = w4 at *
    go_wp2_with (at_builtin; fail)
    refine (iAccessesOf_any _ _ ts l a _ _ HP4.out.ht HP4.out.hl (Nat.le_refl _) (by omega)).mono ?_
    rintro e w5 ⟨v5, rfl, hv5, hb5⟩
    have HA_5 := Lib.hid hv5
    have hacl : (accRes ts l a).length ≤ 100000 := by obtain ⟨_, _, _, _, h, _⟩ := hv5; exact h
    obtain ⟨A3, k3, rfl, hk3⟩ := hv5.slice
    clear hv5
    have HV_5 := Lib.hid (HV_4.out.bel hb5)
    have HP5 := Lib.hid (HP4.out.bels hb5)
    clear c0 c1
    have c0 := HP5.out.c0
    have c1 := HP5.out.c1
    clear hb5
    have HRD := Lib.hid (fun h i hi hc => read_of (ts := ts) (l := l) (a := a) h (i := i) hi hc)
    generalize accRes ts l a = ac at *
    go_wp2_with (at_builtin; fail)
    go_loopw [7] (fun i wr => ∃ j : Nat, j ≤ ac.length ∧ i = .int .i64 j ∧ (∀ v, ∀ hv : v < ac.length, v < j → (ac[v]'hv).wr = false) ∧ w5 = wr) (fun i _ => ac.length - (intOf i).toNat)
    case atStart => exact ⟨0, Nat.zero_le _, rfl, fun v _ hv => by omega, rfl⟩
    case round =>
      obtain ⟨j, hj, rfl, hno, rfl⟩ := hrel
      have HNO := Lib.hid hno
      clear hno
      by_cases hjl : j < ac.length
      · obtain ⟨ba, oa, rfl, hba, a0, a1⟩ := HA_5.out.get hjl
        have HN4 : Hid ((ac[j]'hjl).wr = false → ∀ v, ∀ hv : v < ac.length, v < j + 1 → (ac[v]'hv).wr = false) := Lib.hid fun h4 v hv hv1 => by
          by_cases hvj : v = j
          · subst hvj; exact h4
          · exact HNO.out v hv (by omega)
        generalize (ac[j]'hjl).wr = wt at *
        cases wt
        · have HN5 := Lib.hid (HN4.out rfl)
          go_wp2_with (at_builtin; fail)
          exact ⟨⟨j + 1, by omega, by go_num, HN5.out, trivial⟩, by simp [intOf] <;> omega⟩
        · go_wp2_with (at_builtin; fail)
          go_ret
          exact ⟨rfl, HP5.out.bel⟩
      · have HALL : Hid (∀ x ∈ ac, x.wr = false) := Lib.hid fun x hx => by
          obtain ⟨v, hv, rfl⟩ := List.getElem_of_mem hx
          exact HNO.out v hv (by omega)
        go_wp2_with (at_builtin; fail)
        refine (iLoansOf_any _ _ ts l _ _ HP5.out.ht HP5.out.hl (Nat.le_refl _) (by omega)).mono ?_
        rintro e w6 ⟨v6, rfl, hv6, hb6⟩
        have HL_6 := Lib.hid hv6
        obtain ⟨A5, k5, rfl, hk5⟩ := hv6.slice
        have HVN := Lib.hid (HV_5.out.bel hb6)
        have HP6 := Lib.hid (HP5.out.bels hb6)
        clear hv6 hb6 c0 c1
        have hln1 := lnL_len (pointsP ts l) (pointsP ts l).length
        have hpp : (pointsP ts l).length ≤ 61 := pointsP_le ts l
        have HRE := Lib.hid (HRD.out HALL.out)
        generalize hLL : lnL (pointsP ts l) (pointsP ts l).length = LL at *
        have hl61 : LL.length ≤ 61 := by omega
        clear hLL hln1 hpp
        go_wp2_with (at_builtin; fail)
        go_loopw [9] (fun i wr => ∃ j : Nat, j ≤ LL.length ∧ i = .int .i64 j ∧ ∃ n, wr = w6.drewN n) (fun i _ => LL.length - (intOf i).toNat)
        case atStart => exact ⟨0, Nat.zero_le _, rfl, 0, rfl⟩
        case round =>
          obtain ⟨i, hi, rfl, n0, rfl⟩ := hrel
          have HBD := Lib.hid (below_of_drewN (w := w6) ⟨n0, rfl⟩ w6.heap.size)
          by_cases hil : i < LL.length
          · obtain ⟨bL, oL, rfl, hbL, l0, l1, l2⟩ := (HL_6.out.bel HBD.out).get hil
            have HC := Lib.hid (HRE.out i hil)
            have HVB := Lib.hid (bcIn_any _ _ ((LL[i]'hil).pt : Nat) _ _ (HVN.out.bel HBD.out))
            generalize (LL[i]'hil).pt = pi at *
            generalize (LL[i]'hil).un = ui at *
            go_wp2_with (at_builtin; fail)
            refine HVB.out.mono ?_
            rintro e w9 ⟨rfl, rfl⟩
            generalize hasP (cfRes ts l a) (pi : Nat) = hb at *
            cases hb
            · go_wp2_with (at_builtin; fail)
              exact ⟨⟨i + 1, by omega, by go_num, n0, rfl⟩, by simp [intOf] <;> omega⟩
            · have hu := HC.out rfl
              subst hu
              go_wp2_with (at_builtin; fail)
              exact ⟨⟨i + 1, by omega, by go_num, n0, rfl⟩, by simp [intOf] <;> omega⟩
          · go_wp2_with (at_builtin; fail)
            go_ret
            exact ⟨rfl, HP6.out.bel.trans (HBD.out.mono HP6.out.bel.size)⟩
  · have hn1 : (1048576 : Int) < n := by omega
    unfold maxLen at hm
    go_enter Tryz.func4, Tryz.ntmps4
    go_wp2_with fail
    go_ret
    exact ⟨rfl, Below.refl _ _⟩

end Go.Proofs.YtidlifijgooceaaGreat
