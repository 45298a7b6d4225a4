import Derived.Test.YtidlifijgooceaaGreatG24
import Derived.Test.YtidlifijgooceaaGreatG49
import Derived.Test.YtidlifijgooceaaGreatG30
import Derived.Test.YtidlifijgooceaaGreatG09
import Derived.Test.YtidlifijgooceaaGreatG10
import Derived.Test.YtidlifijgooceaaGreatG50
set_option linter.unusedVariables false

/- FnSharedLoans: the walk. -/
namespace Go.Proofs.YtidlifijgooceaaGreat
open Go.RowKit

theorem pointsP_le (ts : List Int) (l : List St) : (pointsP ts l).length ≤ 61 := by
  unfold pointsP
  split
  · rename_i h; exact ptsP_le h
  · simp
set_option maxHeartbeats 8000000
set_option maxRecDepth 100000
theorem fnSharedLoans_any (A : Option Addr) (n c : Nat) (w : World) (hb : Byt w w.heap.size A n) (hm : n ≤ maxLen) (hc : n ≤ c) :
    Calls Tryz.prog 3 #[.slice A n c] w (LawRet w) := by
  have HB := Lib.hid hb
  clear hb
  by_cases hn : n ≤ 1048576
  · go_enter Tryz.func3, Tryz.ntmps3
    go_wp2_with fail
    refine (drawConflictsAt_any A n c _ HB.out hn hc).mono ?_
    rintro e w1 ⟨vt, vb, ts, l, a, rfl, hit, hst, hts, hsz, hb1⟩
    have HP1 := Lib.hid (PgB.new hit hst hb1)
    obtain ⟨At, ct, rfl, hct⟩ := hit.slice
    obtain ⟨Ab, cb, rfl, hcb⟩ := hst.slice
    clear hit hst hb1
    go_wp2_with fail
    generalize w1.alloc (.cells #[.slice At ts.length ct, .slice Ab l.length cb] 26) = W1 at *
    obtain ⟨g, hg⟩ : ∃ g, g = w1.heap.size := ⟨_, rfl⟩
    rw [← hg] at HP1 ⊢
    clear hg
    refine (iConflictsAt_ret _ _ ts l a _ _ HP1.out.ht HP1.out.hl (Nat.le_refl _) (by omega)).mono ?_
    rintro e w2 ⟨v2, rfl, hv2, hb2⟩
    have HV_2 := Lib.hid hv2
    clear hv2
    have HP2 := Lib.hid (HP1.out.bels hb2)
    have c0 := HP2.out.c0
    have c1 := HP2.out.c1
    clear hb2
    go_wp2_with (at_builtin; fail)
    refine (sConflictsAt_any _ _ ts l a _ _ HP2.out.ht HP2.out.hl (Nat.le_refl _) (by omega)).mono ?_
    rintro e w3 ⟨v3, rfl, hv3, hb3⟩
    have HS_3 := Lib.hid hv3
    clear hv3
    have HV_3 := Lib.hid (HV_2.out.bel hb3)
    have HP3 := Lib.hid (HP2.out.bels hb3)
    clear c0 c1
    have c0 := HP3.out.c0
    have c1 := HP3.out.c1
    clear hb3
    go_wp2_with fail
    refine (bcInts_any _ _ _ _ _ _ HV_3.out HS_3.out).mono ?_
    rintro e w4 ⟨rfl, n4, rfl⟩
    rw [show eqP (cfRes ts l a) (cfRes ts l a) = true by simp [eqP]]
    have hb4 := below_of_drewN (w := w3) ⟨n4, rfl⟩ w3.heap.size
    have HV_4 := Lib.hid (HV_3.out.bel hb4)
    have HS_4 := Lib.hid (HS_3.out.bel hb4)
    have HP4 := Lib.hid (HP3.out.bels hb4)
    clear c0 c1
    have c0 := HP4.out.c0
    have c1 := HP4.out.c1
    clear hb4
    generalize w3.drewN n4 = w4 at *
    go_wp2_with (at_builtin; fail)
    refine (iLoansOf_any _ _ ts l _ _ HP4.out.ht HP4.out.hl (Nat.le_refl _) (by omega)).mono ?_
    rintro e w5 ⟨v5, rfl, hv5, hb5⟩
    have HL_5 := Lib.hid hv5
    obtain ⟨A3, k3, rfl, hk3⟩ := hv5.slice
    clear hv5
    have HP5 := Lib.hid (HP4.out.bels hb5)
    clear c0 c1
    have c0 := HP5.out.c0
    have c1 := HP5.out.c1
    clear hb5
    have HSL := Lib.hid (fun (h : ∀ v, v < ts.length → ts.getD v 0 ≠ 4) i hi => shared_law (ts := ts) (l := l) h (i := i) hi)
    have hln1 := lnL_len (pointsP ts l) (pointsP ts l).length
    have hpp : (pointsP ts l).length ≤ 61 := pointsP_le ts l
    generalize hLL : lnL (pointsP ts l) (pointsP ts l).length = LL at *
    have hl61 : LL.length ≤ 61 := by omega
    clear hLL hln1 hpp
    have HHT := Lib.hid HP5.out.ht
    go_wp2_with (at_builtin; fail)
    go_loopw [7] (fun i wr => ∃ j : Nat, j ≤ ts.length ∧ i = .int .i64 j ∧ (∀ v, v < j → ts.getD v 0 ≠ 4) ∧ w5 = wr) (fun i _ => ts.length - (intOf i).toNat)
    case atStart => exact ⟨0, Nat.zero_le _, rfl, fun v hv => by omega, rfl⟩
    case round =>
      obtain ⟨j, hj, rfl, hno, rfl⟩ := hrel
      have HNO := Lib.hid hno
      clear hno
      by_cases hjl : j < ts.length
      · obtain ⟨bt, ot, ct2, et, hbt, -, -, hct2⟩ := HHT.out.get (i := (j : Nat)) (by omega) (by omega)
        injection et with e1 e9 e2
        subst e1 e2
        clear e9
        have hty : typeOfP ts (j : Nat) = ts.getD j 0 := by unfold typeOfP; rw [if_pos (by omega), Int.toNat_natCast]
        rw [hty, Int.toNat_natCast] at hct2
        have HT4 := Lib.hid hty
        clear hty
        cases h4 : (ts.getD j 0 == 4)
        · have HN4 : Hid (∀ v, v < j + 1 → ts.getD v 0 ≠ 4) := Lib.hid fun v hv => by
            by_cases hvj : v = j
            · subst hvj; simpa using h4
            · exact HNO.out v (by omega)
          generalize ts.getD j 0 = tj at *
          go_wp2_with (at_builtin; fail)
          exact ⟨⟨j + 1, by omega, by go_num, HN4.out, trivial⟩, by simp [intOf] <;> omega⟩
        · generalize ts.getD j 0 = tj at *
          go_wp2_with (at_builtin; fail)
          go_ret
          exact ⟨rfl, HP5.out.bel⟩
      · have HALL := Lib.hid (HSL.out fun v hv => HNO.out v (by omega))
        go_wp2_with (at_builtin; fail)
        go_loopw [8] (fun i wr => ∃ j : Nat, j ≤ LL.length ∧ i = .int .i64 j ∧ w5 = wr) (fun i _ => LL.length - (intOf i).toNat)
        case atStart => exact ⟨0, Nat.zero_le _, rfl, rfl⟩
        case round =>
          obtain ⟨i, hi, rfl, rfl⟩ := hrel
          by_cases hil : i < LL.length
          · obtain ⟨bL, oL, rfl, hbL, l0, l1, l2⟩ := HL_5.out.get hil
            rw [HALL.out i hil] at l1
            go_wp2_with (at_builtin; fail)
            exact ⟨⟨i + 1, by omega, by go_num, trivial⟩, by simp [intOf] <;> omega⟩
          · go_wp2_with (at_builtin; fail)
            go_ret
            exact ⟨rfl, HP5.out.bel⟩
  · have hn1 : (1048576 : Int) < n := by omega
    unfold maxLen at hm
    go_enter Tryz.func3, Tryz.ntmps3
    go_wp2_with fail
    go_ret
    exact ⟨rfl, Below.refl _ _⟩

end Go.Proofs.YtidlifijgooceaaGreat
