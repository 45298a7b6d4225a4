import Derived.Test.YteaddodjijlpjaaG38
import Derived.Test.YteaddodjijlpjaaG43
import Derived.Test.YteaddodjijlpjaaG50
import Derived.Test.YteaddodjijlpjaaG57
import Derived.Test.YteaddodjijlpjaaG18
import Derived.Test.YteaddodjijlpjaaG37
import Derived.Test.YteaddodjijlpjaaG53
set_option linter.unusedVariables false

/- FnMayAlias: the plain law, the walk. -/
namespace Go.Proofs.Yteaddodjijlpjaa
open Go.RowKit

theorem alias_comm (ts : List Int) (l : List St) (a v u : Int) : aliasRes ts l a u v = aliasRes ts l a v u := by
  unfold aliasRes
  simp only [Bool.and_comm, Bool.and_left_comm, Bool.and_assoc]
theorem alias_any (ts : List Int) (l : List St) (a v u : Int) : ((flRes ts l Gcell Ccell a v).any fun x => hasP (flRes ts l Gcell Ccell a u) x) = aliasRes ts l a v u := by
  rw [Bool.eq_iff_iff]
  unfold aliasRes flRes
  by_cases hg : graphOk ts l [a] = true <;> by_cases h1 : withinP v 0 ((ts.length : Int) - 1) = true <;> by_cases h2 : withinP u 0 ((ts.length : Int) - 1) = true
  · rw [if_pos ⟨hg, h1⟩, if_pos ⟨hg, h2⟩, hg, h1, h2]
    simp only [List.any_eq_true, flS, lst_mem, Bool.true_and, List.mem_range, Bool.and_eq_true]
    constructor
    · rintro ⟨x, ⟨k, hk, hf, rfl⟩, hx⟩
      rw [lst_has] at hx
      simp only [Bool.and_eq_true] at hx
      exact ⟨k, hk, hf, hx.2⟩
    · rintro ⟨k, hk, hf, hf2⟩
      exact ⟨(k : Nat), ⟨k, hk, hf, rfl⟩, by rw [lst_has, hf2, decide_eq_true hk]; rfl⟩
  all_goals simp [hg, h1, h2, hasP]
theorem alias_len (ts : List Int) (l : List St) (a v : Int) : aliasRes ts l a v v = decide ((0 : Int) < (flRes ts l Gcell Ccell a v).length) := by
  rw [← alias_any, Bool.eq_iff_iff, List.any_eq_true, decide_eq_true_eq]
  constructor
  · rintro ⟨x, hx, -⟩
    have := List.length_pos_of_mem hx
    omega
  · intro h
    obtain ⟨x, hx⟩ := List.exists_mem_of_length_pos (show 0 < (flRes ts l Gcell Ccell a v).length by omega)
    exact ⟨x, hx, (hasP_iff _ _).2 hx⟩

set_option maxHeartbeats 8000000
set_option maxRecDepth 100000
theorem fnMayAlias_any (A : Option Addr) (n c : Nat) (w : World) (hb : Byt w w.heap.size A n) (hm : n ≤ maxLen) (hc : n ≤ c) :
    Calls Try.prog 3 #[.slice A n c] w (LawRet w) := by
  have HB := Lib.hid hb
  clear hb
  by_cases hn : n ≤ 1048576
  · go_enter Try.func3, Try.ntmps3
    go_wp2_with fail
    refine (drawMayAlias_any A n c _ HB.out hn hc).mono ?_
    rintro e w1 ⟨vt, vb, ts, l, a, v, u, rfl, hit, hst, hts, hsz, hb1⟩
    have HP1 := Lib.hid (PgB.new hit hst hb1)
    obtain ⟨At, ct, rfl, hct⟩ := hit.slice
    obtain ⟨Ab, cb, rfl, hcb⟩ := hst.slice
    clear hit hst hb1
    go_wp2_with fail
    generalize w1.alloc (.cells #[.slice At ts.length ct, .slice Ab l.length cb] 26) = W1 at *
    obtain ⟨g, hg⟩ : ∃ g, g = w1.heap.size := ⟨_, rfl⟩
    rw [← hg] at HP1 ⊢
    clear hg
    refine (iMayAlias_any _ _ ts l a v u _ _ HP1.out.ht HP1.out.hl (Nat.le_refl _) (by omega)).mono ?_
    rintro e w2 ⟨rfl, hb2⟩
    have HP2 := Lib.hid (HP1.out.bels hb2)
    have c0 := HP2.out.c0
    have c1 := HP2.out.c1
    clear hb2
    go_wp2_with (at_builtin; fail)
    refine (sMayAlias_any _ _ ts l a v u _ _ HP2.out.ht HP2.out.hl (Nat.le_refl _) (by omega)).mono ?_
    rintro e w3 ⟨rfl, hb3⟩
    have HP3 := Lib.hid (HP2.out.bels hb3)
    clear c0 c1
    have c0 := HP3.out.c0
    have c1 := HP3.out.c1
    clear hb3
    have HCM := Lib.hid (alias_comm ts l a v u)
    have HAN := Lib.hid (alias_any ts l a v u)
    have HLE := Lib.hid (alias_len ts l a v)
    obtain ⟨q, hq⟩ : ∃ q, q = aliasRes ts l a v u := ⟨_, rfl⟩
    rw [← hq] at HCM HAN ⊢
    clear hq
    have hqq : (q != q) = false := by cases q <;> rfl
    have hqe : (q == q) = true := by cases q <;> rfl
    go_wp2_with (at_builtin; fail)
    refine (iMayAlias_any _ _ ts l a u v _ _ HP3.out.ht HP3.out.hl (Nat.le_refl _) (by omega)).mono ?_
    rintro e w4 ⟨rfl, hb4⟩
    have HP4 := Lib.hid (HP3.out.bels hb4)
    clear c0 c1
    have c0 := HP4.out.c0
    have c1 := HP4.out.c1
    clear hb4
    rw [HCM.out]
    go_wp2_with (at_builtin; fail)
    refine (iCellsOf_any _ _ ts l a v _ _ HP4.out.ht HP4.out.hl (Nat.le_refl _) (by omega)).mono ?_
    rintro e w5 ⟨v5, rfl, hv5, hb5⟩
    have HA_5 := Lib.hid hv5
    clear hv5
    have HP5 := Lib.hid (HP4.out.bels hb5)
    clear c0 c1
    have c0 := HP5.out.c0
    have c1 := HP5.out.c1
    clear hb5
    go_wp2_with (at_builtin; fail)
    refine (iCellsOf_any _ _ ts l a u _ _ HP5.out.ht HP5.out.hl (Nat.le_refl _) (by omega)).mono ?_
    rintro e w6 ⟨v6, rfl, hv6, hb6⟩
    have HBB_6 := Lib.hid hv6
    clear hv6
    have HA_6 := Lib.hid (HA_5.out.bel hb6)
    have HP6 := Lib.hid (HP5.out.bels hb6)
    clear c0 c1
    have c0 := HP6.out.c0
    have c1 := HP6.out.c1
    clear hb6
    generalize flRes ts l Gcell Ccell a v = r at *
    generalize flRes ts l Gcell Ccell a u = s at *
    obtain ⟨A2, c2, rfl, hc2, hm2, hr2⟩ := HA_6.out
    have HR2 := Lib.hid hr2
    clear hr2
    go_wp2_with (at_builtin; fail)
    go_loop [10, 11] (fun t i => ∃ j : Nat, j ≤ r.length ∧ i = .int .i64 j ∧ t = .bool ((r.take j).any fun x => hasP s x)) (fun _ i => r.length - (intOf i).toNat)
    case atStart => exact ⟨0, Nat.zero_le _, rfl, rfl⟩
    case round =>
      obtain ⟨j, hj, rfl, rfl⟩ := hrel
      by_cases hjl : j < r.length
      · obtain ⟨b2, o2, rfl, -, hcell2⟩ := HR2.out.int_at hjl
        have d2 := hcell2 j hjl
        have HTK : Hid (((r.take (j + 1)).any fun x => hasP s x) = (((r.take j).any fun x => hasP s x) || hasP s (r.getD j 0))) := Lib.hid (by
          rw [List.take_succ_eq_append_getElem hjl, List.any_append, getD_lt hjl]; simp)
        generalize r.getD j 0 = y at *
        cases hb : (r.take j).any fun x => hasP s x
        · have HN : Hid (((r.take (j + 1)).any fun x => hasP s x) = hasP s y) := Lib.hid (by rw [HTK.out, hb]; rfl)
          clear hcell2 hb
          go_wp2_with (at_builtin; fail)
          refine (bcIn_any _ _ _ _ _ HBB_6.out).mono ?_
          rintro e w9 ⟨rfl, rfl⟩
          go_wp2_with (at_builtin; fail)
          exact ⟨⟨j + 1, by omega, by go_num, by rw [HN.out]⟩, by simp [intOf] <;> omega⟩
        · have HN : Hid (((r.take (j + 1)).any fun x => hasP s x) = true) := Lib.hid (by rw [HTK.out, hb]; rfl)
          clear hcell2 hb
          go_wp2_with (at_builtin; fail)
          exact ⟨⟨j + 1, by omega, by go_num, by rw [HN.out]⟩, by simp [intOf] <;> omega⟩
      · have hjr : j = r.length := by omega
        subst hjr
        rw [List.take_length, HAN.out]
        go_wp2_with (at_builtin; fail)
        refine (iMayAlias_any _ _ ts l a v v _ _ HP6.out.ht HP6.out.hl (Nat.le_refl _) (by omega)).mono ?_
        rintro e w7 ⟨rfl, hb7⟩
        have HP7 := Lib.hid (HP6.out.bels hb7)
        clear c0 c1
        have c0 := HP7.out.c0
        have c1 := HP7.out.c1
        clear hb7
        rw [HLE.out]
        by_cases hd : 0 < r.length
        · have hd1 : (decide ((0 : Int) < (r.length : Nat))) = true := by simpa using hd
          rw [hd1]
          go_wp2_with (at_builtin; fail)
          go_ret
          exact ⟨rfl, HP7.out.bel⟩
        · have hd1 : (decide ((0 : Int) < (r.length : Nat))) = false := by simpa using hd
          rw [hd1]
          go_wp2_with (at_builtin; fail)
          go_ret
          exact ⟨rfl, HP7.out.bel⟩
  · have hn1 : (1048576 : Int) < n := by omega
    unfold maxLen at hm
    go_enter Try.func3, Try.ntmps3
    go_wp2_with fail
    go_ret
    exact ⟨rfl, Below.refl _ _⟩

end Go.Proofs.Yteaddodjijlpjaa
