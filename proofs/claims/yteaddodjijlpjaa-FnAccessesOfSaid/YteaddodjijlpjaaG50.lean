import Derived.Test.YteaddodjijlpjaaG42
import Derived.Test.YteaddodjijlpjaaG49
import Derived.Test.YteaddodjijlpjaaG10
import Derived.Test.YteaddodjijlpjaaG24
import Derived.Test.YteaddodjijlpjaaG34
set_option linter.unusedVariables false

/- FnAccessesOf: the plain law, the walk. -/
namespace Go.Proofs.Yteaddodjijlpjaa
open Go.RowKit

theorem acc_len (ts : List Int) (l : List St) (a : Int) : (accRes ts l a).length ≤ 2 := by
  unfold accRes accL acc1 acc2
  repeat' split
  all_goals simp
theorem acc_use (ts : List Int) (l : List St) (a : Int) (v : Int) : (useRes ts l a v = 3 → ((accRes ts l a).any fun x => x.vr == v) = true) ∧ (useRes ts l a v = 2 → ((accRes ts l a).any fun x => x.vr == v && x.wr) = true) := by
  unfold useRes accRes
  by_cases h : graphOk ts l [a] = true ∧ withinP v 0 ((ts.length : Int) - 1) = true
  · rw [if_pos h, if_pos h.1]
    generalize ptAt (ptsP l) a = p
    unfold accL
    constructor
    · intro hu
      have h4 : (p.op = 4 ∨ p.op = 5 ∨ p.op = 6) ∧ v = p.y ∨ p.op = 7 ∧ v = p.x := by
        unfold useP at hu
        repeat' split at hu
        all_goals first | omega | simp_all
      have : ((acc1 ts p.op p.x p.y).any fun x => x.vr == v) = true := by
        rcases h4 with ⟨ho | ho | ho, rfl⟩ | ⟨ho, rfl⟩ <;> (unfold acc1; rw [ho]; simp)
      rw [List.any_append, this]; rfl
    · intro hu
      have h4 : p.op = 3 ∧ v = p.y ∧ takesP ts v = true ∨ p.op = 8 ∧ v = p.x := by
        unfold useP at hu
        unfold takesP
        repeat' split at hu
        all_goals first | omega | simp_all
      have : ((acc1 ts p.op p.x p.y).any fun x => x.vr == v && x.wr) = true := by
        rcases h4 with ⟨ho, rfl, ht⟩ | ⟨ho, rfl⟩
        · unfold acc1; rw [ho, ht]; simp
        · unfold acc1; rw [ho]; simp
      rw [List.any_append, this]; rfl
  · rw [if_neg h]
    exact ⟨fun h => by omega, fun h => by omega⟩

set_option maxHeartbeats 8000000
set_option maxRecDepth 100000
theorem fnAccessesOf_any (A : Option Addr) (n c : Nat) (w : World) (hb : Byt w w.heap.size A n) (hm : n ≤ maxLen) (hc : n ≤ c) :
    Calls Try.prog 14 #[.slice A n c] w (LawRet w) := by
  have HB := Lib.hid hb
  clear hb
  by_cases hn : n ≤ 1048576
  · go_enter Try.func14, Try.ntmps14
    go_wp2_with fail
    refine (drawAccessesOf_any A n c _ HB.out hn hc).mono ?_
    rintro e w1 ⟨vt, vb, ts, l, a, rfl, hit, hst, hts, hsz, hb1⟩
    have HP1 := Lib.hid (PgB.new hit hst hb1)
    obtain ⟨At, ct, rfl, hct⟩ := hit.slice
    obtain ⟨Ab, cb, rfl, hcb⟩ := hst.slice
    clear hit hst hb1
    go_wp2_with fail
    generalize w1.alloc (.cells #[.slice At ts.length ct, .slice Ab l.length cb] 26) = W1 at *
    obtain ⟨g, hg⟩ : ∃ g, g = w1.heap.size := ⟨_, rfl⟩
    rw [← hg] at HP1 ⊢
    clear hg
    refine (iAccessesOf_any _ _ ts l a _ _ HP1.out.ht HP1.out.hl (Nat.le_refl _) (by omega)).mono ?_
    rintro e w2 ⟨v2, rfl, hv2, hb2⟩
    have HA_2 := Lib.hid hv2
    have HP2 := Lib.hid (HP1.out.bels hb2)
    have c0 := HP2.out.c0
    have c1 := HP2.out.c1
    clear hv2 hb2
    go_wp2_with (at_builtin; fail)
    refine (sAccessesOf_any _ _ ts l a _ _ HP2.out.ht HP2.out.hl (Nat.le_refl _) (by omega)).mono ?_
    rintro e w3 ⟨v3, rfl, hv3, hb3⟩
    have HA_3 := Lib.hid (HA_2.out.bel hb3)
    have HS_3 := Lib.hid hv3
    have HP3 := Lib.hid (HP2.out.bels hb3)
    clear hv3 hb3 c0 c1
    have HLE := Lib.hid (acc_len ts l a)
    have HUS := Lib.hid (acc_use ts l a)
    generalize accRes ts l a = r at *
    obtain ⟨A2, c2, rfl, hc2⟩ := HA_3.out.slice
    obtain ⟨A3, c3, rfl, hc3⟩ := HS_3.out.slice
    have hr2 : r.length ≤ 2 := HLE.out
    have hll : ((r.length : Int) != (r.length : Int)) = false := by simp
    go_wp2_with (at_builtin; fail)
    clear hll
    go_loopw [7] (fun i wr => ∃ j : Nat, j ≤ r.length ∧ i = .int .i64 j ∧ Below w3.heap.size w3 wr) (fun i _ => r.length - (intOf i).toNat)
    case atStart => exact ⟨0, Nat.zero_le _, rfl, Below.refl _ _⟩
    case round =>
      obtain ⟨j, hj, rfl, hbw⟩ := hrel
      have HBW := Lib.hid hbw
      by_cases hjl : j < r.length
      · obtain ⟨b2, o2, rfl, hb2, x0, x1⟩ := (HA_3.out.bel hbw).get hjl
        obtain ⟨b3, o3, rfl, hb3, y0, y1⟩ := (HS_3.out.bel hbw).get hjl
        generalize r[j] = z at *
        clear hbw
        go_wp2_with (at_builtin; fail)
        refine wp_region_seq (Below wr.heap.size wr) (by kernel_rfl) (by kernel_rfl) (Below.refl _ _).drew ?_
        repeat (first
          | (refine SeqS.skip (by rfl) ?_; (try simp only [Act.put, List.setIfInBounds_toArray, List.set_cons_zero, List.set_cons_succ]))
          | (refine SeqS.pure (v := ?_) (by rfl) (fun w' hSw => ?_) ?_; rotate_left; (obtain ⟨hc9, hf9⟩ := bcell hSw; go_simp; with_reducible rfl); (try simp only [Act.put, List.setIfInBounds_toArray, List.set_cons_zero, List.set_cons_succ]))
          | fail)
        intro w5 hb2'
        go_wp2_with (at_builtin; fail)
        exact ⟨⟨j + 1, by omega, by go_num, HBW.out.trans (hb2'.mono HBW.out.size)⟩, by simp [intOf] <;> omega⟩
      · clear hbw
        have HPW := Lib.hid (HP3.out.bels HBW.out)
        have HAW := Lib.hid (HA_3.out.bel HBW.out)
        clear HBW HP3 HA_3 HS_3
        have c0 := HPW.out.c0
        have c1 := HPW.out.c1
        obtain ⟨wo, rfl⟩ : ∃ wo : World, wo = wr := ⟨_, rfl⟩
        go_wp2_with (at_builtin; fail)
        go_loopw [8] (fun i wr => ∃ v : Nat, v ≤ ts.length ∧ i = .int .i64 v ∧ Below wo.heap.size wo wr) (fun i _ => ts.length - (intOf i).toNat)
        case atStart => exact ⟨0, Nat.zero_le _, rfl, Below.refl _ _⟩
        case round =>
          obtain ⟨v, hv, rfl, hbw⟩ := hrel
          have HBW := Lib.hid hbw
          have HPY := Lib.hid (HPW.out.bels hbw)
          clear hbw c0 c1
          have c0 := HPY.out.c0
          have c1 := HPY.out.c1
          by_cases hvl : v < ts.length
          · go_wp2_with (at_builtin; fail)
            refine (iUseOf_any _ _ ts l a (v : Nat) _ _ HPY.out.ht HPY.out.hl (Nat.le_refl _) (by omega)).mono ?_
            rintro e w5 ⟨rfl, hb5⟩
            have HB5 := Lib.hid (HBW.out.trans (hb5.mono HBW.out.size))
            have hav := HAW.out.bel HB5.out
            have HAV := Lib.hid hav
            clear hb5 hav c0 c1
            have HU2 := Lib.hid (HUS.out (v : Nat))
            generalize useRes ts l a ((v : Nat) : Int) = u at *
            go_wp2_with (at_builtin; fail)
            go_loop [10, 11, 12] (fun f g i => ∃ j : Nat, j ≤ r.length ∧ i = .int .i64 j ∧ f = .bool ((r.take j).any fun x => x.vr == (v : Nat)) ∧ g = .bool ((r.take j).any fun x => x.vr == (v : Nat) && x.wr)) (fun _ _ i => r.length - (intOf i).toNat)
            case atStart => exact ⟨0, Nat.zero_le _, rfl, rfl, rfl⟩
            case round =>
              obtain ⟨j, hj, rfl, rfl, rfl⟩ := hrel
              by_cases hjl : j < r.length
              · obtain ⟨b2, o2, rfl, hb2, x0, x1⟩ := HAV.out.get hjl
                have HT1 : Hid (((r.take (j + 1)).any fun x => x.vr == ((v : Nat) : Int)) = (((r.take j).any fun x => x.vr == ((v : Nat) : Int)) || (r[j].vr == ((v : Nat) : Int)))) := Lib.hid (by
                  rw [List.take_succ_eq_append_getElem hjl, List.any_append]; simp)
                have HT2 : Hid (((r.take (j + 1)).any fun x => x.vr == ((v : Nat) : Int) && x.wr) = (((r.take j).any fun x => x.vr == ((v : Nat) : Int) && x.wr) || (r[j].vr == ((v : Nat) : Int) && r[j].wr))) := Lib.hid (by
                  rw [List.take_succ_eq_append_getElem hjl, List.any_append]; simp)
                generalize ((r.take j).any fun x => x.vr == ((v : Nat) : Int)) = f at *
                generalize ((r.take j).any fun x => x.vr == ((v : Nat) : Int) && x.wr) = g at *
                generalize r[j].wr = zw at *
                cases hz : (r[j].vr == ((v : Nat) : Int))
                all_goals
                  rw [hz] at HT1 HT2
                  generalize r[j].vr = zv at *
                  cases f <;> cases g
                  all_goals
                    go_wp2_with (at_builtin; fail)
                    exact ⟨⟨j + 1, by omega, by go_num, by rw [HT1.out]; rfl, by rw [HT2.out]; rfl⟩, by simp [intOf] <;> omega⟩
              · have hje : r.take j = r := by rw [List.take_of_length_le (by omega)]
                rw [hje]
                have HF := Lib.hid HU2.out.1
                have HG := Lib.hid HU2.out.2
                generalize (r.any fun x => x.vr == ((v : Nat) : Int)) = f at *
                generalize (r.any fun x => x.vr == ((v : Nat) : Int) && x.wr) = g at *
                clear HU2 hje
                by_cases hu3 : u = 3
                · have hf := HF.out hu3
                  subst hf hu3
                  go_wp2_with (at_builtin; fail)
                  exact ⟨⟨v + 1, by omega, by go_num, HB5.out⟩, by simp [intOf] <;> omega⟩
                · have k3 : (u == 3) = false := by simpa using hu3
                  by_cases hu2 : u = 2
                  · have hg := HG.out hu2
                    subst hg hu2
                    go_wp2_with (at_builtin; fail)
                    exact ⟨⟨v + 1, by omega, by go_num, HB5.out⟩, by simp [intOf] <;> omega⟩
                  · have k2 : (u == 2) = false := by simpa using hu2
                    clear hu3 hu2
                    go_wp2_with (at_builtin; fail)
                    exact ⟨⟨v + 1, by omega, by go_num, HB5.out⟩, by simp [intOf] <;> omega⟩
          · have hr3 : decide ((r.length : Int) ≤ 2) = true := by simp; omega
            go_wp2_with (at_builtin; fail)
            go_ret
            exact ⟨by simp <;> omega, HPY.out.bel⟩
  · have hn1 : (1048576 : Int) < n := by omega
    unfold maxLen at hm
    go_enter Try.func14, Try.ntmps14
    go_wp2_with fail
    go_ret
    exact ⟨rfl, Below.refl _ _⟩

end Go.Proofs.Yteaddodjijlpjaa
