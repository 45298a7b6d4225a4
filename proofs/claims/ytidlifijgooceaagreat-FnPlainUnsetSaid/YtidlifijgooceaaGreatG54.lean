import Derived.Test.YtidlifijgooceaaGreatG53
import Derived.Test.YtidlifijgooceaaGreatG29
set_option linter.unusedVariables false

/- FnPlainUnset: the walk. -/
namespace Go.Proofs.YtidlifijgooceaaGreat
open Go.RowKit

theorem cnt_succ {L : List Iss} {j : Nat} (hj : j < L.length) : (L.take (j + 1)).countP (fun x => x.kd == 1) = (L.take j).countP (fun x => x.kd == 1) + if (L[j]'hj).kd == 1 then 1 else 0 := by
  rw [take_succ_get L j hj, List.countP_append, List.countP_singleton]
theorem plain_count (ts : List Int) (l : List St) : (plainRes ts l).countP (fun x => x.kd == 1) = (chkRes ts l).countP (fun x => x.kd == 1) := by
  unfold plainRes chkRes
  split
  · exact unset_count _ _ _ _ _
  · rfl

set_option maxHeartbeats 8000000
set_option maxRecDepth 100000
theorem fnPlainUnset_any (A : Option Addr) (n c : Nat) (w : World) (hb : Byt w w.heap.size A n) (hm : n ≤ maxLen) (hc : n ≤ c) :
    Calls Tryz.prog 5 #[.slice A n c] w (LawRet w) := by
  have HB := Lib.hid hb
  clear hb
  by_cases hn : n ≤ 1048576
  · go_enter Tryz.func5, Tryz.ntmps5
    go_wp2_with fail
    refine (drawCheckPlain_any A n c _ HB.out hn hc).mono ?_
    rintro e w1 ⟨vt, vb, ts, l, rfl, hit, hst, hts, hsz, hb1⟩
    have HP1 := Lib.hid (PgB.new hit hst hb1)
    obtain ⟨At, ct, rfl, hct⟩ := hit.slice
    obtain ⟨Ab, cb, rfl, hcb⟩ := hst.slice
    clear hit hst hb1
    go_wp2_with fail
    generalize w1.alloc (.cells #[.slice At ts.length ct, .slice Ab l.length cb] 26) = W1 at *
    obtain ⟨g, hg⟩ : ∃ g, g = w1.heap.size := ⟨_, rfl⟩
    rw [← hg] at HP1 ⊢
    clear hg
    refine (iCheckPlain_any _ _ ts l _ _ HP1.out.ht HP1.out.hl (Nat.le_refl _) (by omega)).mono ?_
    rintro e w2 ⟨v2, rfl, hv2, hb2⟩
    have HA_2 := Lib.hid (hv2.toS (by have := plainRes_len ts l; omega))
    clear hv2
    have HP2 := Lib.hid (HP1.out.bels hb2)
    have c0 := HP2.out.c0
    have c1 := HP2.out.c1
    clear hb2
    go_wp2_with (at_builtin; fail)
    refine (iCheckProgram_any _ _ ts l _ _ HP2.out.ht HP2.out.hl (Nat.le_refl _) (by omega)).mono ?_
    rintro e w3 ⟨v3, rfl, hv3, hb3⟩
    have HC_3 := Lib.hid (hv3.toS (by have := chkRes_len ts l; omega))
    clear hv3
    have HA_3 := Lib.hid (HA_2.out.bel hb3)
    have HP3 := Lib.hid (HP2.out.bels hb3)
    clear c0 c1
    have c0 := HP3.out.c0
    have c1 := HP3.out.c1
    clear hb3
    go_wp2_with (at_builtin; fail)
    refine (sCheckPlain_any _ _ ts l _ _ HP3.out.ht HP3.out.hl (Nat.le_refl _) (by omega)).mono ?_
    rintro e w4 ⟨v4, rfl, hv4, hb4⟩
    have HS_4 := Lib.hid (hv4.toS (by have := plainRes_len ts l; omega))
    clear hv4
    have HA_4 := Lib.hid (HA_3.out.bel hb4)
    have HC_4 := Lib.hid (HC_3.out.bel hb4)
    have HP4 := Lib.hid (HP3.out.bels hb4)
    clear c0 c1
    have c0 := HP4.out.c0
    have c1 := HP4.out.c1
    clear hb4
    go_wp2_with fail
    refine (bcIssues_same _ _ _ _ HA_4.out HS_4.out).mono ?_
    rintro e w5 ⟨rfl, hb5⟩
    have HA_5 := Lib.hid (HA_4.out.bel hb5)
    have HC_5 := Lib.hid (HC_4.out.bel hb5)
    have HP5 := Lib.hid (HP4.out.bels hb5)
    clear c0 c1
    have c0 := HP5.out.c0
    have c1 := HP5.out.c1
    clear hb5
    have HCNT := Lib.hid (plain_count ts l)
    have hpl := plainRes_len ts l
    have hcl := chkRes_len ts l
    generalize plainRes ts l = LA at *
    generalize chkRes ts l = LB at *
    obtain ⟨A2, c2, rfl, hc2⟩ := HA_5.out.slice
    obtain ⟨A3, c3, rfl, hc3⟩ := HC_5.out.slice
    go_wp2_with (at_builtin; fail)
    go_loopw [6, 7] (fun a i wr => ∃ (j m : Nat), j ≤ LA.length ∧ i = .int .i64 j ∧ a = .int .i64 (m : Nat) ∧ m = (LA.take j).countP (fun x => x.kd == 1) ∧ m ≤ j ∧ w5 = wr) (fun _ i _ => LA.length - (intOf i).toNat)
    case atStart => exact ⟨0, 0, Nat.zero_le _, rfl, rfl, rfl, Nat.le_refl _, rfl⟩
    case round =>
      obtain ⟨j, m, hj, rfl, rfl, hm0, hmj, rfl⟩ := hrel
      have HM := Lib.hid hm0
      clear hm0
      by_cases hjl : j < LA.length
      · obtain ⟨b2, o2, rfl, hb2, x0, x1, x2⟩ := HA_5.out.get hjl
        have HSU := Lib.hid (cnt_succ hjl)
        generalize LA[j]'hjl = z at *
        cases hk : (z.kd == 1)
        · have HM2 : Hid (m = (LA.take (j + 1)).countP (fun x => x.kd == 1)) := Lib.hid (by rw [HSU.out, hk, ← HM.out]; rfl)
          go_wp2_with (at_builtin; fail)
          exact ⟨⟨j + 1, m, by omega, by go_num, rfl, HM2.out, by omega, trivial⟩, by simp [intOf] <;> omega⟩
        · have HM2 : Hid (m + 1 = (LA.take (j + 1)).countP (fun x => x.kd == 1)) := Lib.hid (by rw [HSU.out, hk, ← HM.out]; rfl)
          go_wp2_with (at_builtin; fail)
          exact ⟨⟨j + 1, m + 1, by omega, by go_num, by go_num, HM2.out, by omega, trivial⟩, by simp [intOf] <;> omega⟩
      · have hje : j = LA.length := by omega
        have HTOT : Hid (m = LB.countP (fun x => x.kd == 1)) := Lib.hid (by rw [← HCNT.out, HM.out, hje, List.take_length])
        clear hje
        go_wp2_with (at_builtin; fail)
        go_loopw [6, 8] (fun a i wr => ∃ (j q : Nat), j ≤ LB.length ∧ i = .int .i64 j ∧ a = .int .i64 ((m : Int) - (q : Int)) ∧ q = (LB.take j).countP (fun x => x.kd == 1) ∧ q ≤ j ∧ w5 = wr) (fun _ i _ => LB.length - (intOf i).toNat)
        case atStart => exact ⟨0, 0, Nat.zero_le _, rfl, by simp, rfl, Nat.le_refl _, rfl⟩
        case round =>
          obtain ⟨i, q, hi, rfl, rfl, hq0, hqi, rfl⟩ := hrel
          have HQ := Lib.hid hq0
          clear hq0
          by_cases hil : i < LB.length
          · obtain ⟨b3, o3, rfl, hb3, y0, y1, y2⟩ := HC_5.out.get hil
            have HSU := Lib.hid (cnt_succ hil)
            generalize LB[i]'hil = z at *
            cases hk : (z.kd == 1)
            · have HM2 : Hid (q = (LB.take (i + 1)).countP (fun x => x.kd == 1)) := Lib.hid (by rw [HSU.out, hk, ← HQ.out]; rfl)
              go_wp2_with (at_builtin; fail)
              exact ⟨⟨i + 1, q, by omega, by go_num, rfl, HM2.out, by omega, trivial⟩, by simp [intOf] <;> omega⟩
            · have HM2 : Hid (q + 1 = (LB.take (i + 1)).countP (fun x => x.kd == 1)) := Lib.hid (by rw [HSU.out, hk, ← HQ.out]; rfl)
              go_wp2_with (at_builtin; fail)
              exact ⟨⟨i + 1, q + 1, by omega, by go_num, by go_num, HM2.out, by omega, trivial⟩, by simp [intOf] <;> omega⟩
          · have hie : i = LB.length := by omega
            have hqm : q = m := by rw [HTOT.out, HQ.out, hie, List.take_length]
            subst hqm
            clear hie
            have hz : ((q : Int) - (q : Int) == 0) = true := by simp
            go_wp2_with (at_builtin; fail)
            go_ret
            exact ⟨ret_bool (by simp), HP5.out.bel⟩
  · have hn1 : (1048576 : Int) < n := by omega
    unfold maxLen at hm
    go_enter Tryz.func5, Tryz.ntmps5
    go_wp2_with fail
    go_ret
    exact ⟨rfl, Below.refl _ _⟩

end Go.Proofs.YtidlifijgooceaaGreat
