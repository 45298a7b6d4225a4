import Derived.Test.YteaddodjijlpjaaG42
import Derived.Test.YteaddodjijlpjaaG37
import Derived.Test.YteaddodjijlpjaaG43
import Derived.Test.YteaddodjijlpjaaG23
import Derived.Test.YteaddodjijlpjaaG09
import Derived.Test.YteaddodjijlpjaaG10
import Derived.Test.YteaddodjijlpjaaG07
import Derived.Test.YteaddodjijlpjaaG24
import Derived.Test.YteaddodjijlpjaaG38
import Derived.Test.YteaddodjijlpjaaG34
set_option linter.unusedVariables false

/- FnLiveAfter: the plain law, the walk. -/
namespace Go.Proofs.Yteaddodjijlpjaa
open Go.RowKit

theorem msk_getD (r : List Nat) (i : Nat) : (msk r).getD i 0 = ((r.getD i 0 : Nat) : Int) := by
  unfold msk
  rw [List.getD_eq_getElem?_getD, List.getD_eq_getElem?_getD, List.getElem?_map]
  cases r[i]? <;> rfl
/-- a run leads from point to point, or is empty -/
theorem run_ok (ts : List Int) (l : List St) (cs : List Int) : (runRes ts l cs 60).1.length ≤ 61 ∧ (0 < (runRes ts l cs 60).1.length → validP ts l = true ∧ IsRun (ptsP l) 0 (runRes ts l cs 60).1) := by
  unfold runRes
  split
  · rename_i h
    have G := Good.of_valid h.1
    refine ⟨runF_len _ _ _ _, fun _ => ⟨h.1, runF_run (fun p hp k hk => G.next p hp k hk) (ptsP_next1 l) _ _ _ G.pos⟩⟩
  · exact ⟨by simp, fun h => by simp at h⟩
/-- while the value of a is open: what the run's point needs is live after a -/
def LvJ (ts : List Int) (l : List St) (a : Int) (v : Nat) (r : List Nat) (i : Nat) (b : Bool) : Prop := b = true → i < r.length → Nd ts (ptsP l) (r.getD i 0) v → hasP (liveRes ts l a) (v : Nat) = true
theorem LvJ.use {ts : List Int} {l : List St} {a : Int} {v : Nat} {r : List Nat} {i : Nat} (h : LvJ ts l a v r i true) (hi : i < r.length) (hr : 0 < r.length → validP ts l = true ∧ IsRun (ptsP l) 0 r) (hv : v < ts.length) (hu : (useRes ts l ((r.getD i 0 : Nat) : Int) (v : Nat) != 0) = true) : hasP (liveRes ts l a) (v : Nat) = true := by
  obtain ⟨hval, hrun⟩ := hr (by omega)
  have hk := hrun.inn i hi
  refine h rfl hi (.use (List.getElem?_eq_getElem hk) hv ?_)
  unfold useRes at hu
  rw [if_pos ⟨graphOk_at hval hk, by simp [withinP]; omega⟩, ptAt_nat hk] at hu
  simpa using hu
theorem LvJ.step {ts : List Int} {l : List St} {a : Int} {v : Nat} {r : List Nat} {i : Nat} {b b' : Bool} (h : LvJ ts l a v r i b) (hi : i < r.length) (hr : 0 < r.length → validP ts l = true ∧ IsRun (ptsP l) 0 r)
    (hb : b' = true → ((r.getD i 0 : Nat) : Int) = a ∨ (b = true ∧ setRes ts l ((r.getD i 0 : Nat) : Int) ≠ (v : Nat))) : LvJ ts l a v r (i + 1) b' := by
  intro hb1 hi1 hn
  obtain ⟨hval, hrun⟩ := hr (by omega)
  have hk := hrun.inn i hi
  obtain ⟨p, hp, hnx⟩ := hrun.edge i hi1
  rcases hb hb1 with e | ⟨e, hs⟩
  · subst e
    unfold liveRes liveAt
    rw [if_pos (graphOk_at hval hk), Int.toNat_natCast, lst_has, decide_eq_true hn.lt, Bool.true_and, hp]
    exact List.any_eq_true.2 ⟨_, hnx, dec_true hn⟩
  · refine h e hi (.flow hp hnx hn ?_)
    unfold setRes at hs
    rw [if_pos (graphOk_at hval hk), ptAt_nat hk] at hs
    rw [List.getElem?_eq_getElem hk] at hp
    injection hp with hp
    rw [← hp]; exact hs

set_option maxHeartbeats 8000000
set_option maxRecDepth 100000
theorem fnLiveAfter_any (A : Option Addr) (n c : Nat) (w : World) (A' : Option Addr) (n' c' : Nat) (hb : Byt w w.heap.size A n) (hm : n ≤ maxLen) (hc : n ≤ c) (hb' : Byt w w.heap.size A' n') (hm' : n' ≤ maxLen) (hc' : n' ≤ c') :
    Calls Try.prog 12 #[.slice A n c, .slice A' n' c'] w (LawRet w) := by
  have HB := Lib.hid hb
  have HB2 := Lib.hid hb'
  clear hb hb'
  by_cases hn : n ≤ 1048576
  · by_cases hn' : n' ≤ 1048576
    · go_enter Try.func12, Try.ntmps12
      go_wp2_with fail
      refine (drawLiveAfter_any A n c _ HB.out hn hc).mono ?_
      rintro e w1 ⟨vt, vb, ts, l, a, rfl, hit, hst, hts, hsz, hb1⟩
      have HP1 := Lib.hid (PgB.new hit hst hb1)
      obtain ⟨At, ct, rfl, hct⟩ := hit.slice
      obtain ⟨Ab, cb, rfl, hcb⟩ := hst.slice
      clear hit hst hb1
      go_wp2_with fail
      generalize w1.alloc (.cells #[.slice At ts.length ct, .slice Ab l.length cb] 26) = W1 at *
      obtain ⟨g, hg⟩ : ∃ g, g = w1.heap.size := ⟨_, rfl⟩
      rw [← hg] at HP1 ⊢
      clear hg
      refine (iLiveAfter_any _ _ ts l a _ _ HP1.out.ht HP1.out.hl (Nat.le_refl _) (by omega)).mono ?_
      rintro e w2 ⟨v2, rfl, hv2, hb2⟩
      have HV_2 := Lib.hid hv2
      clear hv2
      have HP2 := Lib.hid (HP1.out.bels hb2)
      have c0 := HP2.out.c0
      have c1 := HP2.out.c1
      clear hb2
      go_wp2_with (at_builtin; fail)
      refine (sLiveAfter_any _ _ ts l a _ _ HP2.out.ht HP2.out.hl (Nat.le_refl _) (by omega)).mono ?_
      rintro e w3 ⟨v3, rfl, hv3, hb3⟩
      have HS_3 := Lib.hid hv3
      clear hv3
      have HV_3 := Lib.hid (HV_2.out.bel hb3)
      have HP3 := Lib.hid (HP2.out.bels hb3)
      clear c0 c1
      have c0 := HP3.out.c0
      have c1 := HP3.out.c1
      clear hb3
      go_wp2_with fail
      refine (bcInts_any _ _ _ _ _ _ HV_3.out HS_3.out).mono ?_
      rintro e w4 ⟨rfl, n4, rfl⟩
      rw [show eqP (liveRes ts l a) (liveRes ts l a) = true by simp [eqP]]
      have hb4 := below_of_drewN (w := w3) ⟨n4, rfl⟩ w3.heap.size
      have HV_4 := Lib.hid (HV_3.out.bel hb4)
      have HS_4 := Lib.hid (HS_3.out.bel hb4)
      have HP4 := Lib.hid (HP3.out.bels hb4)
      clear c0 c1
      have c0 := HP4.out.c0
      have c1 := HP4.out.c1
      clear hb4
      generalize w3.drewN n4 = w4 at *
      go_wp2_with (at_builtin; fail)
      refine (drawRunPath_any A' n' c' _ ((HB2.out.keep fun b o hb => (HP4.out.bel).cell (p := ⟨b, o, none⟩) hb).more HP4.out.bel.size) hn' hc').mono ?_
      rintro e w5 ⟨At', Ab', nt', ct', nb', cb', vc, cs, x', rfl, hci, hcs, hb5⟩
      have HC_5 := Lib.hid hci.toS
      clear hci
      have HV_5 := Lib.hid (HV_4.out.bel hb5)
      have HP5 := Lib.hid (HP4.out.bels hb5)
      clear c0 c1
      have c0 := HP5.out.c0
      have c1 := HP5.out.c1
      clear hb5
      have hgl := HP5.out.lt
      go_wp2_with (at_builtin; fail)
      clear hgl
      have hb6 := bel_a w5 (.cells #[.slice At' nt' ct', .slice Ab' nb' cb'] 26)
      generalize w5.alloc (.cells #[.slice At' nt' ct', .slice Ab' nb' cb'] 26) = w6 at *
      have HV_6 := Lib.hid (HV_5.out.bel hb6)
      have HC_6 := Lib.hid (HC_5.out.bel hb6)
      have HP6 := Lib.hid (HP5.out.bels hb6)
      clear c0 c1
      have c0 := HP6.out.c0
      have c1 := HP6.out.c1
      clear hb6
      refine (iRunPath_any _ _ _ ts l cs 60 _ _ HP6.out.ht HP6.out.hl HC_6.out (Nat.le_refl _) (by omega)).mono ?_
      rintro e w7 ⟨v7, rfl, hv7, hb7⟩
      have HR_7 := Lib.hid hv7
      clear hv7
      have HV_7 := Lib.hid (HV_6.out.bel hb7)
      have HP7 := Lib.hid (HP6.out.bels hb7)
      clear c0 c1
      have c0 := HP7.out.c0
      have c1 := HP7.out.c1
      clear hb7
      obtain ⟨hr61, hrv⟩ := run_ok ts l cs
      have HRV := Lib.hid hrv
      generalize (runRes ts l cs 60).1 = r at *
      generalize (runRes ts l cs 60).2 = rb at *
      obtain ⟨A5, c5, rfl, hc5, -, -⟩ := HR_7.out
      have hml : (msk r).length = r.length := by simp [msk]
      clear hrv
      rw [hml] at hc5 ⊢
      go_wp2_with (at_builtin; fail)
      go_loopw [13] (fun i wr => ∃ v : Nat, v ≤ ts.length ∧ i = .int .i64 v ∧ Below w7.heap.size w7 wr) (fun i _ => ts.length - (intOf i).toNat)
      case atStart => exact ⟨0, Nat.zero_le _, rfl, Below.refl _ _⟩
      case round =>
        obtain ⟨v, hv, rfl, hbw⟩ := hrel
        have HBW := Lib.hid hbw
        have HPW := Lib.hid (HP7.out.bels hbw)
        have HVW := Lib.hid (HV_7.out.bel hbw)
        have HRW := Lib.hid (HR_7.out.bel hbw)
        clear hbw c0 c1
        have c0 := HPW.out.c0
        have c1 := HPW.out.c1
        by_cases hvl : v < ts.length
        · obtain ⟨wo, rfl⟩ : ∃ wo : World, wo = wr := ⟨_, rfl⟩
          go_wp2_with (at_builtin; fail)
          go_loopw [14, 15] (fun o i wr => ∃ (j : Nat) (bo : Bool), j ≤ r.length ∧ i = .int .i64 j ∧ o = .bool bo ∧ LvJ ts l a v r j bo ∧ Below wo.heap.size wo wr) (fun _ i _ => r.length - (intOf i).toNat)
          case atStart => exact ⟨0, false, Nat.zero_le _, rfl, rfl, (fun h => by cases h), Below.refl _ _⟩
          case round =>
            obtain ⟨j, bo, hj, rfl, rfl, hJ, hbw⟩ := hrel
            have HBY := Lib.hid hbw
            have HPY := Lib.hid (HPW.out.bels hbw)
            have HVY := Lib.hid (HVW.out.bel hbw)
            have hry := HRW.out.bel hbw
            have HJ := Lib.hid hJ
            clear hbw c0 c1 hJ
            have c0 := HPY.out.c0
            have c1 := HPY.out.c1
            have hgl := HPY.out.lt
            by_cases hjl : j < r.length
            · obtain ⟨A3, c3, e3, -, -, hr3⟩ := hry
              injection e3 with e3 e9 e8
              subst e3 e8
              obtain ⟨b2, o2, rfl, hb2, hcell2⟩ := hr3.int_at (k := j) (by rw [hml]; exact hjl)
              have d2 := hcell2 j (by rw [hml]; exact hjl)
              rw [msk_getD] at d2
              have HUSE := Lib.hid (fun (h : bo = true) hu => LvJ.use (h ▸ HJ.out) hjl HRV.out hvl hu)
              have HST := Lib.hid (fun b' hb => LvJ.step (b' := b') HJ.out hjl HRV.out hb)
              generalize r.getD j 0 = y at *
              have BEL : Hid (∀ w', w'.cell? ⟨g, 0, none⟩ = some (.slice At ts.length ct) ∧ w'.cell? ⟨g, 1, none⟩ = some (.slice Ab l.length cb) ∧ w'.cell? ⟨b2, o2 + j, none⟩ = some (.int .i64 (y : Nat)) ∧ Below wr.heap.size wr w' → Below wr.heap.size wr w') := Lib.hid fun _ h => h.2.2.2
              clear e9 hr3 hcell2
              have HNXT : Hid (∀ b' : Bool, (b' = true → ((y : Nat) : Int) = a ∨ (bo = true ∧ setRes ts l ((y : Nat) : Int) ≠ (v : Nat))) → ∀ w2, Below wr.heap.size wr w2 → ∃ (j_1 : Nat) (bo_1 : Bool), j_1 ≤ r.length ∧ Value.int .i64 ((j : Int) + 1) = .int .i64 j_1 ∧ Value.bool b' = .bool bo_1 ∧ LvJ ts l a v r j_1 bo_1 ∧ Below wo.heap.size wo w2) := Lib.hid fun b' hb w2 h2 => ⟨j + 1, b', by omega, by simp, rfl, HST.out b' hb, HBY.out.trans (h2.mono HBY.out.size)⟩
              cases bo
              · go_wp2_with (at_builtin; fail)
                refine wp_region_held_drew (S := (fun w' => w'.cell? ⟨g, 0, none⟩ = some (.slice At ts.length ct) ∧ w'.cell? ⟨g, 1, none⟩ = some (.slice Ab l.length cb) ∧ w'.cell? ⟨b2, o2 + j, none⟩ = some (.int .i64 (y : Nat)) ∧ Below wr.heap.size wr w')) (by kernel_rfl) ?_ (fun hHeld => ?_)
                · exact ⟨c0, c1, d2, (Below.refl _ _).drew⟩
                refine wpAnyH_take (i := 0) (oi := ⟨some 63, _, _, _, _, _⟩) (v := ?_) rfl (by kernel_rfl) (by kernel_rfl) (by kernel_rfl) (fun _ _ _ h => h) (Or.inl ⟨by rfl, fun w' hSw => ?_⟩) (by assumption) ?_
                rotate_left
                · (try dsimp only at hSw); go_simp; (try with_reducible rfl)
                (try simp only [Act.put, List.setIfInBounds_toArray, List.set_cons_zero, List.set_cons_succ])
                refine wpAnyH_take (i := 1) (oi := ⟨some 64, _, _, _, _, _⟩) (v := ?_) rfl (by kernel_rfl) (by kernel_rfl) (by kernel_rfl) (fun _ _ _ h => h) (Or.inl ⟨by rfl, fun w' hSw => ?_⟩) (by assumption) ?_
                rotate_left
                · (try dsimp only at hSw); go_simp; (try with_reducible rfl)
                (try simp only [Act.put, List.setIfInBounds_toArray, List.set_cons_zero, List.set_cons_succ])
                refine wpAnyH_take (i := 2) (oi := ⟨some 65, _, _, _, _, _⟩) (v := undef) rfl (by kernel_rfl) (by kernel_rfl) (by kernel_rfl) (fun _ _ _ h => h) (Or.inr ⟨by rfl, rfl⟩) (by assumption) ?_
                (try simp only [Act.put, List.setIfInBounds_toArray, List.set_cons_zero, List.set_cons_succ])
                refine wpAnyH_take (i := 3) (oi := ⟨some 66, _, _, _, _, _⟩) (v := undef) rfl (by kernel_rfl) (by kernel_rfl) (by kernel_rfl) (fun _ _ _ h => h) (Or.inr ⟨by rfl, rfl⟩) (by assumption) ?_
                (try simp only [Act.put, List.setIfInBounds_toArray, List.set_cons_zero, List.set_cons_succ])
                refine wpAnyH_take (i := 4) (oi := ⟨some 67, _, _, _, _, _⟩) (v := undef) rfl (by kernel_rfl) (by kernel_rfl) (by kernel_rfl) (fun _ _ _ h => h) (Or.inr ⟨by rfl, rfl⟩) (by assumption) ?_
                (try simp only [Act.put, List.setIfInBounds_toArray, List.set_cons_zero, List.set_cons_succ])
                refine wpAnyH_take (i := 5) (oi := ⟨some 68, _, _, _, _, _⟩) (v := undef) rfl (by kernel_rfl) (by kernel_rfl) (by kernel_rfl) (fun _ _ _ h => h) (Or.inr ⟨by rfl, rfl⟩) (by assumption) ?_
                (try simp only [Act.put, List.setIfInBounds_toArray, List.set_cons_zero, List.set_cons_succ])
                refine wpAnyH_take (i := 6) (oi := ⟨some 69, _, _, _, _, _⟩) (v := undef) rfl (by kernel_rfl) (by kernel_rfl) (by kernel_rfl) (fun _ _ _ h => h) (Or.inr ⟨by rfl, rfl⟩) (by assumption) ?_
                (try simp only [Act.put, List.setIfInBounds_toArray, List.set_cons_zero, List.set_cons_succ])
                refine wpAnyH_take (i := 7) (oi := ⟨some 70, _, _, _, _, _⟩) (v := undef) rfl (by kernel_rfl) (by kernel_rfl) (by kernel_rfl) (fun _ _ _ h => h) (Or.inr ⟨by rfl, rfl⟩) (by assumption) ?_
                (try simp only [Act.put, List.setIfInBounds_toArray, List.set_cons_zero, List.set_cons_succ])
                refine wpAnyH_take (i := 8) (oi := ⟨some 71, _, _, _, _, _⟩) (v := undef) rfl (by kernel_rfl) (by kernel_rfl) (by kernel_rfl) (fun _ _ _ h => h) (Or.inr ⟨by rfl, rfl⟩) (by assumption) ?_
                (try simp only [Act.put, List.setIfInBounds_toArray, List.set_cons_zero, List.set_cons_succ])
                refine wpAnyH_take (i := 9) (oi := ⟨some 72, _, _, _, _, _⟩) (v := undef) rfl (by kernel_rfl) (by kernel_rfl) (by kernel_rfl) (fun _ _ _ h => h) (Or.inr ⟨by rfl, rfl⟩) (by assumption) ?_
                (try simp only [Act.put, List.setIfInBounds_toArray, List.set_cons_zero, List.set_cons_succ])
                refine wpAnyH_take (i := 10) (oi := ⟨some 73, _, _, _, _, _⟩) (v := ?_) rfl (by kernel_rfl) (by kernel_rfl) (by kernel_rfl) (fun _ _ _ h => h) (Or.inl ⟨by rfl, fun w' hSw => ?_⟩) (by assumption) ?_
                rotate_left
                · (try dsimp only at hSw); go_simp; (try with_reducible rfl)
                (try simp only [Act.put, List.setIfInBounds_toArray, List.set_cons_zero, List.set_cons_succ])
                refine wpAnyH_take (i := 11) (oi := ⟨some 74, _, _, _, _, _⟩) (v := ?_) rfl (by kernel_rfl) (by kernel_rfl) (by kernel_rfl) (fun _ _ _ h => h) (Or.inl ⟨by rfl, fun w' hSw => ?_⟩) (by assumption) ?_
                rotate_left
                · (try dsimp only at hSw); go_simp; (try with_reducible rfl)
                (try simp only [Act.put, List.setIfInBounds_toArray, List.set_cons_zero, List.set_cons_succ])
                refine wpAnyH_take (i := 12) (oi := ⟨some 75, _, _, _, _, _⟩) (v := undef) rfl (by kernel_rfl) (by kernel_rfl) (by kernel_rfl) (fun _ _ _ h => h) (Or.inr ⟨by rfl, rfl⟩) (by assumption) ?_
                (try simp only [Act.put, List.setIfInBounds_toArray, List.set_cons_zero, List.set_cons_succ])
                refine wpAnyH_take (i := 13) (oi := ⟨some 76, _, _, _, _, _⟩) (v := undef) rfl (by kernel_rfl) (by kernel_rfl) (by kernel_rfl) (fun _ _ _ h => h) (Or.inr ⟨by rfl, rfl⟩) (by assumption) ?_
                (try simp only [Act.put, List.setIfInBounds_toArray, List.set_cons_zero, List.set_cons_succ])
                refine wpAnyH_take (i := 14) (oi := ⟨some 77, _, _, _, _, _⟩) (v := undef) rfl (by kernel_rfl) (by kernel_rfl) (by kernel_rfl) (fun _ _ _ h => h) (Or.inr ⟨by rfl, rfl⟩) (by assumption) ?_
                (try simp only [Act.put, List.setIfInBounds_toArray, List.set_cons_zero, List.set_cons_succ])
                refine wpAnyH_take (i := 15) (oi := ⟨some 78, _, _, _, _, _⟩) (v := undef) rfl (by kernel_rfl) (by kernel_rfl) (by kernel_rfl) (fun _ _ _ h => h) (Or.inr ⟨by rfl, rfl⟩) (by assumption) ?_
                (try simp only [Act.put, List.setIfInBounds_toArray, List.set_cons_zero, List.set_cons_succ])
                refine wpAnyH_take (i := 16) (oi := ⟨some 79, _, _, _, _, _⟩) (v := ?_) rfl (by kernel_rfl) (by kernel_rfl) (by kernel_rfl) (fun _ _ _ h => h) (Or.inl ⟨by rfl, fun w' hSw => ?_⟩) (by assumption) ?_
                rotate_left
                · (try dsimp only at hSw); go_simp; (try with_reducible rfl)
                (try simp only [Act.put, List.setIfInBounds_toArray, List.set_cons_zero, List.set_cons_succ])
                refine wpAnyH_done (by kernel_rfl) ?_ _
                go_wp2_with (at_builtin; fail)
                refine wp_region_held_drew (S := (fun w' => w'.cell? ⟨g, 0, none⟩ = some (.slice At ts.length ct) ∧ w'.cell? ⟨g, 1, none⟩ = some (.slice Ab l.length cb) ∧ w'.cell? ⟨b2, o2 + j, none⟩ = some (.int .i64 (y : Nat)) ∧ Below wr.heap.size wr w')) (by kernel_rfl) ?_ (fun hHeld => ?_)
                · exact ⟨belC ((Below.refl wr.heap.size wr).drew).drew c0 hgl, belC ((Below.refl wr.heap.size wr).drew).drew c1 hgl, belC ((Below.refl wr.heap.size wr).drew).drew d2 hb2, ((Below.refl wr.heap.size wr).drew).drew⟩
                refine wpAnyH_take (i := 0) (oi := ⟨some 80, _, _, _, _, _⟩) (v := ?_) rfl (by kernel_rfl) (by kernel_rfl) (by kernel_rfl) (fun _ _ _ h => h) (Or.inl ⟨by rfl, fun w' hSw => ?_⟩) (by assumption) ?_
                rotate_left
                · (try dsimp only at hSw); go_simp; (try with_reducible rfl)
                (try simp only [Act.put, List.setIfInBounds_toArray, List.set_cons_zero, List.set_cons_succ])
                refine wpAnyH_take (i := 1) (oi := ⟨some 81, _, _, _, _, _⟩) (v := ?_) rfl (by kernel_rfl) (by kernel_rfl) (by kernel_rfl) (fun _ _ _ h => h) (Or.inl ⟨by rfl, fun w' hSw => ?_⟩) (by assumption) ?_
                rotate_left
                · (try dsimp only at hSw); go_simp; (try with_reducible rfl)
                (try simp only [Act.put, List.setIfInBounds_toArray, List.set_cons_zero, List.set_cons_succ])
                refine wpAnyH_take (i := 2) (oi := ⟨some 82, _, _, _, _, _⟩) (v := ?_) rfl (by kernel_rfl) (by kernel_rfl) (by kernel_rfl) (fun _ _ _ h => h) (Or.inl ⟨by rfl, fun w' hSw => ?_⟩) (by assumption) ?_
                rotate_left
                · (try dsimp only at hSw); go_simp; (try with_reducible rfl)
                (try simp only [Act.put, List.setIfInBounds_toArray, List.set_cons_zero, List.set_cons_succ])
                refine wpAnyH_take (i := 3) (oi := ⟨some 83, _, _, _, _, _⟩) (v := ?_) rfl (by kernel_rfl) (by kernel_rfl) (by kernel_rfl) (fun _ _ _ h => h) (Or.inl ⟨by rfl, fun w' hSw => ?_⟩) (by assumption) ?_
                rotate_left
                · (try dsimp only at hSw); go_simp; (try with_reducible rfl)
                (try simp only [Act.put, List.setIfInBounds_toArray, List.set_cons_zero, List.set_cons_succ])
                refine wpAnyH_take (i := 4) (oi := ⟨some 84, _, _, _, _, _⟩) (v := ?_) rfl (by kernel_rfl) (by kernel_rfl) (by kernel_rfl) (fun _ _ _ h => h) (Or.inl ⟨by rfl, fun w' hSw => ?_⟩) (by assumption) ?_
                rotate_left
                · (try dsimp only at hSw); go_simp; (try with_reducible rfl)
                (try simp only [Act.put, List.setIfInBounds_toArray, List.set_cons_zero, List.set_cons_succ])
                refine wpAnyH_take (i := 6) (oi := ⟨some 86, _, _, _, _, _⟩) (v := ?_) rfl (by kernel_rfl) (by kernel_rfl) (by kernel_rfl) (fun _ _ _ h => h) (Or.inl ⟨by rfl, fun w' hSw => ?_⟩) (by assumption) ?_
                rotate_left
                · (try dsimp only at hSw); go_simp; (try with_reducible rfl)
                (try simp only [Act.put, List.setIfInBounds_toArray, List.set_cons_zero, List.set_cons_succ])
                refine wpAnyH_ready (rs := [5]) (by kernel_rfl) (by simp) ?_
                refine AllReadyH.cons (o := ⟨some 85, _, _, _, _, _⟩) rfl (fun K hK => ?_) AllReadyH.nil
                go_simp
                (refine (iSetBy_any (.slice At ts.length ct) (.slice Ab l.length cb) ts l (y : Nat) _ _ (HPY.out.ht.low (BEL.out _ (by assumption)) (Nat.le_refl _)) (HPY.out.hl.low (BEL.out _ (by assumption)) (Nat.le_refl _)) (BEL.out _ (by assumption)).size (by omega)).mono ?_)
                (rintro e w9 ⟨rfl, hb9⟩)
                (have BX9 := Lib.hid ((BEL.out _ (by assumption)).trans (hb9.mono (BEL.out _ (by assumption)).size)))
                clear hb9
                (generalize hsg : setRes ts l ((y : Nat) : Int) = sg)
                (have HSG := Lib.hid hsg)
                clear hsg
                go_simp
                refine hK.out _ _ ?_ (fun hHeld => ?_)
                · exact ⟨belC BX9.out c0 hgl, belC BX9.out c1 hgl, belC BX9.out d2 hb2, BX9.out⟩
                clear hK K
                (try simp only [Act.put, List.setIfInBounds_toArray, List.set_cons_zero, List.set_cons_succ])
                refine wpAnyH_take (i := 7) (oi := ⟨some 87, _, _, _, _, _⟩) (v := ?_) rfl (by kernel_rfl) (by kernel_rfl) (by kernel_rfl) (fun _ _ _ h => h) (Or.inl ⟨by rfl, fun w' hSw => ?_⟩) (by assumption) ?_
                rotate_left
                · (try dsimp only at hSw); go_simp; (try with_reducible rfl)
                (try simp only [Act.put, List.setIfInBounds_toArray, List.set_cons_zero, List.set_cons_succ])
                refine wpAnyH_done (by kernel_rfl) ?_ _
                by_cases hs : sg = (v : Nat)
                · by_cases hy : ((y : Nat) : Int) = a
                  · go_wp2_with (at_builtin; fail)
                    exact ⟨HNXT.out true (fun _ => .inl hy) _ BX9.out, by simp [intOf] <;> omega⟩
                  · go_wp2_with (at_builtin; fail)
                    exact ⟨HNXT.out false (fun h => by cases h) _ BX9.out, by simp [intOf] <;> omega⟩
                · by_cases hy : ((y : Nat) : Int) = a
                  · go_wp2_with (at_builtin; fail)
                    exact ⟨HNXT.out true (fun _ => .inl hy) _ BX9.out, by simp [intOf] <;> omega⟩
                  · go_wp2_with (at_builtin; fail)
                    exact ⟨HNXT.out false (fun h => by cases h) _ BX9.out, by simp [intOf] <;> omega⟩
              · have HU := Lib.hid (HUSE.out rfl)
                cases hu : (useRes ts l ((y : Nat) : Int) (v : Nat) != 0)
                · have HUV := Lib.hid hu
                  go_wp2_with (at_builtin; fail)
                  refine wp_region_held_drew (S := (fun w' => w'.cell? ⟨g, 0, none⟩ = some (.slice At ts.length ct) ∧ w'.cell? ⟨g, 1, none⟩ = some (.slice Ab l.length cb) ∧ w'.cell? ⟨b2, o2 + j, none⟩ = some (.int .i64 (y : Nat)) ∧ Below wr.heap.size wr w')) (by kernel_rfl) ?_ (fun hHeld => ?_)
                  · exact ⟨c0, c1, d2, (Below.refl _ _).drew⟩
                  refine wpAnyH_take (i := 0) (oi := ⟨some 63, _, _, _, _, _⟩) (v := ?_) rfl (by kernel_rfl) (by kernel_rfl) (by kernel_rfl) (fun _ _ _ h => h) (Or.inl ⟨by rfl, fun w' hSw => ?_⟩) (by assumption) ?_
                  rotate_left
                  · (try dsimp only at hSw); go_simp; (try with_reducible rfl)
                  (try simp only [Act.put, List.setIfInBounds_toArray, List.set_cons_zero, List.set_cons_succ])
                  refine wpAnyH_take (i := 1) (oi := ⟨some 64, _, _, _, _, _⟩) (v := ?_) rfl (by kernel_rfl) (by kernel_rfl) (by kernel_rfl) (fun _ _ _ h => h) (Or.inl ⟨by rfl, fun w' hSw => ?_⟩) (by assumption) ?_
                  rotate_left
                  · (try dsimp only at hSw); go_simp; (try with_reducible rfl)
                  (try simp only [Act.put, List.setIfInBounds_toArray, List.set_cons_zero, List.set_cons_succ])
                  refine wpAnyH_take (i := 2) (oi := ⟨some 65, _, _, _, _, _⟩) (v := ?_) rfl (by kernel_rfl) (by kernel_rfl) (by kernel_rfl) (fun _ _ _ h => h) (Or.inl ⟨by rfl, fun w' hSw => ?_⟩) (by assumption) ?_
                  rotate_left
                  · (try dsimp only at hSw); go_simp; (try with_reducible rfl)
                  (try simp only [Act.put, List.setIfInBounds_toArray, List.set_cons_zero, List.set_cons_succ])
                  refine wpAnyH_take (i := 3) (oi := ⟨some 66, _, _, _, _, _⟩) (v := ?_) rfl (by kernel_rfl) (by kernel_rfl) (by kernel_rfl) (fun _ _ _ h => h) (Or.inl ⟨by rfl, fun w' hSw => ?_⟩) (by assumption) ?_
                  rotate_left
                  · (try dsimp only at hSw); go_simp; (try with_reducible rfl)
                  (try simp only [Act.put, List.setIfInBounds_toArray, List.set_cons_zero, List.set_cons_succ])
                  refine wpAnyH_take (i := 4) (oi := ⟨some 67, _, _, _, _, _⟩) (v := ?_) rfl (by kernel_rfl) (by kernel_rfl) (by kernel_rfl) (fun _ _ _ h => h) (Or.inl ⟨by rfl, fun w' hSw => ?_⟩) (by assumption) ?_
                  rotate_left
                  · (try dsimp only at hSw); go_simp; (try with_reducible rfl)
                  (try simp only [Act.put, List.setIfInBounds_toArray, List.set_cons_zero, List.set_cons_succ])
                  refine wpAnyH_take (i := 5) (oi := ⟨some 68, _, _, _, _, _⟩) (v := ?_) rfl (by kernel_rfl) (by kernel_rfl) (by kernel_rfl) (fun _ _ _ h => h) (Or.inl ⟨by rfl, fun w' hSw => ?_⟩) (by assumption) ?_
                  rotate_left
                  · (try dsimp only at hSw); go_simp; (try with_reducible rfl)
                  (try simp only [Act.put, List.setIfInBounds_toArray, List.set_cons_zero, List.set_cons_succ])
                  refine wpAnyH_take (i := 6) (oi := ⟨some 69, _, _, _, _, _⟩) (v := ?_) rfl (by kernel_rfl) (by kernel_rfl) (by kernel_rfl) (fun _ _ _ h => h) (Or.inl ⟨by rfl, fun w' hSw => ?_⟩) (by assumption) ?_
                  rotate_left
                  · (try dsimp only at hSw); go_simp; (try with_reducible rfl)
                  (try simp only [Act.put, List.setIfInBounds_toArray, List.set_cons_zero, List.set_cons_succ])
                  refine wpAnyH_take (i := 7) (oi := ⟨some 70, _, _, _, _, _⟩) (v := ?_) rfl (by kernel_rfl) (by kernel_rfl) (by kernel_rfl) (fun _ _ _ h => h) (Or.inl ⟨by rfl, fun w' hSw => ?_⟩) (by assumption) ?_
                  rotate_left
                  · (try dsimp only at hSw); go_simp; (try with_reducible rfl)
                  (try simp only [Act.put, List.setIfInBounds_toArray, List.set_cons_zero, List.set_cons_succ])
                  refine wpAnyH_ready (rs := [8]) (by kernel_rfl) (by simp) ?_
                  refine AllReadyH.cons (o := ⟨some 71, _, _, _, _, _⟩) rfl (fun K hK => ?_) AllReadyH.nil
                  go_simp
                  (refine (iUseOf_any (.slice At ts.length ct) (.slice Ab l.length cb) ts l (y : Nat) (v : Nat) _ _ (HPY.out.ht.low (BEL.out _ (by assumption)) (Nat.le_refl _)) (HPY.out.hl.low (BEL.out _ (by assumption)) (Nat.le_refl _)) (BEL.out _ (by assumption)).size (by omega)).mono ?_)
                  (rintro e w7 ⟨rfl, hb7⟩)
                  (have BX7 := Lib.hid ((BEL.out _ (by assumption)).trans (hb7.mono (BEL.out _ (by assumption)).size)))
                  clear hb7
                  skip
                  go_simp
                  refine hK.out _ _ ?_ (fun hHeld => ?_)
                  · exact ⟨belC BX7.out c0 hgl, belC BX7.out c1 hgl, belC BX7.out d2 hb2, BX7.out⟩
                  clear hK K
                  (try simp only [Act.put, List.setIfInBounds_toArray, List.set_cons_zero, List.set_cons_succ])
                  refine wpAnyH_take (i := 9) (oi := ⟨some 72, _, _, _, _, _⟩) (v := ?_) rfl (by kernel_rfl) (by kernel_rfl) (by kernel_rfl) (fun _ _ _ h => h) (Or.inl ⟨by rfl, fun w' hSw => ?_⟩) (by assumption) ?_
                  rotate_left
                  · (try dsimp only at hSw); go_simp; (try with_reducible rfl)
                  (try simp only [Act.put, List.setIfInBounds_toArray, List.set_cons_zero, List.set_cons_succ])
                  refine wpAnyH_take (i := 10) (oi := ⟨some 73, _, _, _, _, _⟩) (v := ?_) rfl (by kernel_rfl) (by kernel_rfl) (by kernel_rfl) (fun _ _ _ h => h) (Or.inl ⟨by rfl, fun w' hSw => ?_⟩) (by assumption) ?_
                  rotate_left
                  · (try dsimp only at hSw); go_simp; (try with_reducible rfl)
                  (try simp only [Act.put, List.setIfInBounds_toArray, List.set_cons_zero, List.set_cons_succ])
                  refine wpAnyH_take (i := 11) (oi := ⟨some 74, _, _, _, _, _⟩) (v := ?_) rfl (by kernel_rfl) (by kernel_rfl) (by kernel_rfl) (fun _ _ _ h => h) (Or.inl ⟨by rfl, fun w' hSw => ?_⟩) (by assumption) ?_
                  rotate_left
                  · (try dsimp only at hSw); go_simp; (try with_reducible rfl)
                  (try simp only [Act.put, List.setIfInBounds_toArray, List.set_cons_zero, List.set_cons_succ])
                  refine wpAnyH_take (i := 12) (oi := ⟨some 75, _, _, _, _, _⟩) (v := undef) rfl (by kernel_rfl) (by kernel_rfl) (by kernel_rfl) (fun _ _ _ h => h) (Or.inr ⟨by rfl, rfl⟩) (by assumption) ?_
                  (try simp only [Act.put, List.setIfInBounds_toArray, List.set_cons_zero, List.set_cons_succ])
                  refine wpAnyH_take (i := 13) (oi := ⟨some 76, _, _, _, _, _⟩) (v := undef) rfl (by kernel_rfl) (by kernel_rfl) (by kernel_rfl) (fun _ _ _ h => h) (Or.inr ⟨by rfl, rfl⟩) (by assumption) ?_
                  (try simp only [Act.put, List.setIfInBounds_toArray, List.set_cons_zero, List.set_cons_succ])
                  refine wpAnyH_take (i := 14) (oi := ⟨some 77, _, _, _, _, _⟩) (v := undef) rfl (by kernel_rfl) (by kernel_rfl) (by kernel_rfl) (fun _ _ _ h => h) (Or.inr ⟨by rfl, rfl⟩) (by assumption) ?_
                  (try simp only [Act.put, List.setIfInBounds_toArray, List.set_cons_zero, List.set_cons_succ])
                  refine wpAnyH_take (i := 15) (oi := ⟨some 78, _, _, _, _, _⟩) (v := undef) rfl (by kernel_rfl) (by kernel_rfl) (by kernel_rfl) (fun _ _ _ h => h) (Or.inr ⟨by rfl, rfl⟩) (by assumption) ?_
                  (try simp only [Act.put, List.setIfInBounds_toArray, List.set_cons_zero, List.set_cons_succ])
                  refine wpAnyH_take (i := 16) (oi := ⟨some 79, _, _, _, _, _⟩) (v := ?_) rfl (by kernel_rfl) (by kernel_rfl) (by kernel_rfl) (fun _ _ _ h => h) (Or.inl ⟨by rfl, fun w' hSw => ?_⟩) (by assumption) ?_
                  rotate_left
                  · (try dsimp only at hSw); go_simp; (try with_reducible rfl)
                  (try simp only [Act.put, List.setIfInBounds_toArray, List.set_cons_zero, List.set_cons_succ])
                  refine wpAnyH_done (by kernel_rfl) ?_ _
                  go_wp2_with (at_builtin; fail)
                  refine wp_region_held_drew (S := (fun w' => w'.cell? ⟨g, 0, none⟩ = some (.slice At ts.length ct) ∧ w'.cell? ⟨g, 1, none⟩ = some (.slice Ab l.length cb) ∧ w'.cell? ⟨b2, o2 + j, none⟩ = some (.int .i64 (y : Nat)) ∧ Below wr.heap.size wr w')) (by kernel_rfl) ?_ (fun hHeld => ?_)
                  · exact ⟨belC (BX7.out).drew c0 hgl, belC (BX7.out).drew c1 hgl, belC (BX7.out).drew d2 hb2, (BX7.out).drew⟩
                  refine wpAnyH_take (i := 0) (oi := ⟨some 80, _, _, _, _, _⟩) (v := ?_) rfl (by kernel_rfl) (by kernel_rfl) (by kernel_rfl) (fun _ _ _ h => h) (Or.inl ⟨by rfl, fun w' hSw => ?_⟩) (by assumption) ?_
                  rotate_left
                  · (try dsimp only at hSw); go_simp; (try with_reducible rfl)
                  (try simp only [Act.put, List.setIfInBounds_toArray, List.set_cons_zero, List.set_cons_succ])
                  refine wpAnyH_take (i := 1) (oi := ⟨some 81, _, _, _, _, _⟩) (v := ?_) rfl (by kernel_rfl) (by kernel_rfl) (by kernel_rfl) (fun _ _ _ h => h) (Or.inl ⟨by rfl, fun w' hSw => ?_⟩) (by assumption) ?_
                  rotate_left
                  · (try dsimp only at hSw); go_simp; (try with_reducible rfl)
                  (try simp only [Act.put, List.setIfInBounds_toArray, List.set_cons_zero, List.set_cons_succ])
                  refine wpAnyH_take (i := 2) (oi := ⟨some 82, _, _, _, _, _⟩) (v := ?_) rfl (by kernel_rfl) (by kernel_rfl) (by kernel_rfl) (fun _ _ _ h => h) (Or.inl ⟨by rfl, fun w' hSw => ?_⟩) (by assumption) ?_
                  rotate_left
                  · (try dsimp only at hSw); go_simp; (try with_reducible rfl)
                  (try simp only [Act.put, List.setIfInBounds_toArray, List.set_cons_zero, List.set_cons_succ])
                  refine wpAnyH_take (i := 3) (oi := ⟨some 83, _, _, _, _, _⟩) (v := ?_) rfl (by kernel_rfl) (by kernel_rfl) (by kernel_rfl) (fun _ _ _ h => h) (Or.inl ⟨by rfl, fun w' hSw => ?_⟩) (by assumption) ?_
                  rotate_left
                  · (try dsimp only at hSw); go_simp; (try with_reducible rfl)
                  (try simp only [Act.put, List.setIfInBounds_toArray, List.set_cons_zero, List.set_cons_succ])
                  refine wpAnyH_take (i := 4) (oi := ⟨some 84, _, _, _, _, _⟩) (v := ?_) rfl (by kernel_rfl) (by kernel_rfl) (by kernel_rfl) (fun _ _ _ h => h) (Or.inl ⟨by rfl, fun w' hSw => ?_⟩) (by assumption) ?_
                  rotate_left
                  · (try dsimp only at hSw); go_simp; (try with_reducible rfl)
                  (try simp only [Act.put, List.setIfInBounds_toArray, List.set_cons_zero, List.set_cons_succ])
                  refine wpAnyH_take (i := 6) (oi := ⟨some 86, _, _, _, _, _⟩) (v := ?_) rfl (by kernel_rfl) (by kernel_rfl) (by kernel_rfl) (fun _ _ _ h => h) (Or.inl ⟨by rfl, fun w' hSw => ?_⟩) (by assumption) ?_
                  rotate_left
                  · (try dsimp only at hSw); go_simp; (try with_reducible rfl)
                  (try simp only [Act.put, List.setIfInBounds_toArray, List.set_cons_zero, List.set_cons_succ])
                  refine wpAnyH_ready (rs := [5]) (by kernel_rfl) (by simp) ?_
                  refine AllReadyH.cons (o := ⟨some 85, _, _, _, _, _⟩) rfl (fun K hK => ?_) AllReadyH.nil
                  go_simp
                  (refine (iSetBy_any (.slice At ts.length ct) (.slice Ab l.length cb) ts l (y : Nat) _ _ (HPY.out.ht.low (BEL.out _ (by assumption)) (Nat.le_refl _)) (HPY.out.hl.low (BEL.out _ (by assumption)) (Nat.le_refl _)) (BEL.out _ (by assumption)).size (by omega)).mono ?_)
                  (rintro e w9 ⟨rfl, hb9⟩)
                  (have BX9 := Lib.hid ((BEL.out _ (by assumption)).trans (hb9.mono (BEL.out _ (by assumption)).size)))
                  clear hb9
                  (generalize hsg : setRes ts l ((y : Nat) : Int) = sg)
                  (have HSG := Lib.hid hsg)
                  clear hsg
                  go_simp
                  refine hK.out _ _ ?_ (fun hHeld => ?_)
                  · exact ⟨belC BX9.out c0 hgl, belC BX9.out c1 hgl, belC BX9.out d2 hb2, BX9.out⟩
                  clear hK K
                  (try simp only [Act.put, List.setIfInBounds_toArray, List.set_cons_zero, List.set_cons_succ])
                  refine wpAnyH_take (i := 7) (oi := ⟨some 87, _, _, _, _, _⟩) (v := ?_) rfl (by kernel_rfl) (by kernel_rfl) (by kernel_rfl) (fun _ _ _ h => h) (Or.inl ⟨by rfl, fun w' hSw => ?_⟩) (by assumption) ?_
                  rotate_left
                  · (try dsimp only at hSw); go_simp; (try with_reducible rfl)
                  (try simp only [Act.put, List.setIfInBounds_toArray, List.set_cons_zero, List.set_cons_succ])
                  refine wpAnyH_done (by kernel_rfl) ?_ _
                  by_cases hs : sg = (v : Nat)
                  · by_cases hy : ((y : Nat) : Int) = a
                    · go_wp2_with (at_builtin; fail)
                      exact ⟨HNXT.out true (fun _ => .inl hy) _ BX9.out, by simp [intOf] <;> omega⟩
                    · go_wp2_with (at_builtin; fail)
                      exact ⟨HNXT.out false (fun h => by cases h) _ BX9.out, by simp [intOf] <;> omega⟩
                  · by_cases hy : ((y : Nat) : Int) = a
                    · go_wp2_with (at_builtin; fail)
                      exact ⟨HNXT.out true (fun _ => .inl hy) _ BX9.out, by simp [intOf] <;> omega⟩
                    · go_wp2_with (at_builtin; fail)
                      exact ⟨HNXT.out true (fun h => .inr ⟨by trivial, by rw [HSG.out]; exact hs⟩) _ BX9.out, by simp [intOf] <;> omega⟩
                · have HLV := Lib.hid (HU.out hu)
                  go_wp2_with (at_builtin; fail)
                  refine wp_region_held_drew (S := (fun w' => w'.cell? ⟨g, 0, none⟩ = some (.slice At ts.length ct) ∧ w'.cell? ⟨g, 1, none⟩ = some (.slice Ab l.length cb) ∧ w'.cell? ⟨b2, o2 + j, none⟩ = some (.int .i64 (y : Nat)) ∧ Below wr.heap.size wr w')) (by kernel_rfl) ?_ (fun hHeld => ?_)
                  · exact ⟨c0, c1, d2, (Below.refl _ _).drew⟩
                  refine wpAnyH_take (i := 0) (oi := ⟨some 63, _, _, _, _, _⟩) (v := ?_) rfl (by kernel_rfl) (by kernel_rfl) (by kernel_rfl) (fun _ _ _ h => h) (Or.inl ⟨by rfl, fun w' hSw => ?_⟩) (by assumption) ?_
                  rotate_left
                  · (try dsimp only at hSw); go_simp; (try with_reducible rfl)
                  (try simp only [Act.put, List.setIfInBounds_toArray, List.set_cons_zero, List.set_cons_succ])
                  refine wpAnyH_take (i := 1) (oi := ⟨some 64, _, _, _, _, _⟩) (v := ?_) rfl (by kernel_rfl) (by kernel_rfl) (by kernel_rfl) (fun _ _ _ h => h) (Or.inl ⟨by rfl, fun w' hSw => ?_⟩) (by assumption) ?_
                  rotate_left
                  · (try dsimp only at hSw); go_simp; (try with_reducible rfl)
                  (try simp only [Act.put, List.setIfInBounds_toArray, List.set_cons_zero, List.set_cons_succ])
                  refine wpAnyH_take (i := 2) (oi := ⟨some 65, _, _, _, _, _⟩) (v := ?_) rfl (by kernel_rfl) (by kernel_rfl) (by kernel_rfl) (fun _ _ _ h => h) (Or.inl ⟨by rfl, fun w' hSw => ?_⟩) (by assumption) ?_
                  rotate_left
                  · (try dsimp only at hSw); go_simp; (try with_reducible rfl)
                  (try simp only [Act.put, List.setIfInBounds_toArray, List.set_cons_zero, List.set_cons_succ])
                  refine wpAnyH_take (i := 3) (oi := ⟨some 66, _, _, _, _, _⟩) (v := ?_) rfl (by kernel_rfl) (by kernel_rfl) (by kernel_rfl) (fun _ _ _ h => h) (Or.inl ⟨by rfl, fun w' hSw => ?_⟩) (by assumption) ?_
                  rotate_left
                  · (try dsimp only at hSw); go_simp; (try with_reducible rfl)
                  (try simp only [Act.put, List.setIfInBounds_toArray, List.set_cons_zero, List.set_cons_succ])
                  refine wpAnyH_take (i := 4) (oi := ⟨some 67, _, _, _, _, _⟩) (v := ?_) rfl (by kernel_rfl) (by kernel_rfl) (by kernel_rfl) (fun _ _ _ h => h) (Or.inl ⟨by rfl, fun w' hSw => ?_⟩) (by assumption) ?_
                  rotate_left
                  · (try dsimp only at hSw); go_simp; (try with_reducible rfl)
                  (try simp only [Act.put, List.setIfInBounds_toArray, List.set_cons_zero, List.set_cons_succ])
                  refine wpAnyH_take (i := 5) (oi := ⟨some 68, _, _, _, _, _⟩) (v := ?_) rfl (by kernel_rfl) (by kernel_rfl) (by kernel_rfl) (fun _ _ _ h => h) (Or.inl ⟨by rfl, fun w' hSw => ?_⟩) (by assumption) ?_
                  rotate_left
                  · (try dsimp only at hSw); go_simp; (try with_reducible rfl)
                  (try simp only [Act.put, List.setIfInBounds_toArray, List.set_cons_zero, List.set_cons_succ])
                  refine wpAnyH_take (i := 6) (oi := ⟨some 69, _, _, _, _, _⟩) (v := ?_) rfl (by kernel_rfl) (by kernel_rfl) (by kernel_rfl) (fun _ _ _ h => h) (Or.inl ⟨by rfl, fun w' hSw => ?_⟩) (by assumption) ?_
                  rotate_left
                  · (try dsimp only at hSw); go_simp; (try with_reducible rfl)
                  (try simp only [Act.put, List.setIfInBounds_toArray, List.set_cons_zero, List.set_cons_succ])
                  refine wpAnyH_take (i := 7) (oi := ⟨some 70, _, _, _, _, _⟩) (v := ?_) rfl (by kernel_rfl) (by kernel_rfl) (by kernel_rfl) (fun _ _ _ h => h) (Or.inl ⟨by rfl, fun w' hSw => ?_⟩) (by assumption) ?_
                  rotate_left
                  · (try dsimp only at hSw); go_simp; (try with_reducible rfl)
                  (try simp only [Act.put, List.setIfInBounds_toArray, List.set_cons_zero, List.set_cons_succ])
                  refine wpAnyH_ready (rs := [8]) (by kernel_rfl) (by simp) ?_
                  refine AllReadyH.cons (o := ⟨some 71, _, _, _, _, _⟩) rfl (fun K hK => ?_) AllReadyH.nil
                  go_simp
                  (refine (iUseOf_any (.slice At ts.length ct) (.slice Ab l.length cb) ts l (y : Nat) (v : Nat) _ _ (HPY.out.ht.low (BEL.out _ (by assumption)) (Nat.le_refl _)) (HPY.out.hl.low (BEL.out _ (by assumption)) (Nat.le_refl _)) (BEL.out _ (by assumption)).size (by omega)).mono ?_)
                  (rintro e w7 ⟨rfl, hb7⟩)
                  (have BX7 := Lib.hid ((BEL.out _ (by assumption)).trans (hb7.mono (BEL.out _ (by assumption)).size)))
                  clear hb7
                  skip
                  go_simp
                  refine hK.out _ _ ?_ (fun hHeld => ?_)
                  · exact ⟨belC BX7.out c0 hgl, belC BX7.out c1 hgl, belC BX7.out d2 hb2, BX7.out⟩
                  clear hK K
                  (try simp only [Act.put, List.setIfInBounds_toArray, List.set_cons_zero, List.set_cons_succ])
                  refine wpAnyH_take (i := 9) (oi := ⟨some 72, _, _, _, _, _⟩) (v := ?_) rfl (by kernel_rfl) (by kernel_rfl) (by kernel_rfl) (fun _ _ _ h => h) (Or.inl ⟨by rfl, fun w' hSw => ?_⟩) (by assumption) ?_
                  rotate_left
                  · (try dsimp only at hSw); go_simp; (try with_reducible rfl)
                  (try simp only [Act.put, List.setIfInBounds_toArray, List.set_cons_zero, List.set_cons_succ])
                  refine wpAnyH_take (i := 10) (oi := ⟨some 73, _, _, _, _, _⟩) (v := ?_) rfl (by kernel_rfl) (by kernel_rfl) (by kernel_rfl) (fun _ _ _ h => h) (Or.inl ⟨by rfl, fun w' hSw => ?_⟩) (by assumption) ?_
                  rotate_left
                  · (try dsimp only at hSw); go_simp; (try with_reducible rfl)
                  (try simp only [Act.put, List.setIfInBounds_toArray, List.set_cons_zero, List.set_cons_succ])
                  refine wpAnyH_take (i := 11) (oi := ⟨some 74, _, _, _, _, _⟩) (v := ?_) rfl (by kernel_rfl) (by kernel_rfl) (by kernel_rfl) (fun _ _ _ h => h) (Or.inl ⟨by rfl, fun w' hSw => ?_⟩) (by assumption) ?_
                  rotate_left
                  · (try dsimp only at hSw); go_simp; (try with_reducible rfl)
                  (try simp only [Act.put, List.setIfInBounds_toArray, List.set_cons_zero, List.set_cons_succ])
                  refine wpAnyH_take (i := 12) (oi := ⟨some 75, _, _, _, _, _⟩) (v := ?_) rfl (by kernel_rfl) (by kernel_rfl) (by kernel_rfl) (fun _ _ _ h => h) (Or.inl ⟨by rfl, fun w' hSw => ?_⟩) (by assumption) ?_
                  rotate_left
                  · (try dsimp only at hSw); go_simp; (try with_reducible rfl)
                  (try simp only [Act.put, List.setIfInBounds_toArray, List.set_cons_zero, List.set_cons_succ])
                  refine wpAnyH_take (i := 13) (oi := ⟨some 76, _, _, _, _, _⟩) (v := ?_) rfl (by kernel_rfl) (by kernel_rfl) (by kernel_rfl) (fun _ _ _ h => h) (Or.inl ⟨by rfl, fun w' hSw => ?_⟩) (by assumption) ?_
                  rotate_left
                  · (try dsimp only at hSw); go_simp; (try with_reducible rfl)
                  (try simp only [Act.put, List.setIfInBounds_toArray, List.set_cons_zero, List.set_cons_succ])
                  refine wpAnyH_ready (rs := [14]) (by kernel_rfl) (by simp) ?_
                  refine AllReadyH.cons (o := ⟨some 77, _, _, _, _, _⟩) rfl (fun K hK => ?_) AllReadyH.nil
                  go_simp
                  (refine (bcIn_any _ (liveRes ts l a) _ _ _ (HVY.out.bel BX7.out)).mono ?_)
                  (rintro e w8 ⟨rfl, rfl⟩)
                  (rw [HLV.out])
                  go_simp
                  refine hK.out _ _ ?_ (fun hHeld => ?_)
                  · exact ⟨belC BX7.out c0 hgl, belC BX7.out c1 hgl, belC BX7.out d2 hb2, BX7.out⟩
                  clear hK K
                  (try simp only [Act.put, List.setIfInBounds_toArray, List.set_cons_zero, List.set_cons_succ])
                  refine wpAnyH_take (i := 15) (oi := ⟨some 78, _, _, _, _, _⟩) (v := ?_) rfl (by kernel_rfl) (by kernel_rfl) (by kernel_rfl) (fun _ _ _ h => h) (Or.inl ⟨by rfl, fun w' hSw => ?_⟩) (by assumption) ?_
                  rotate_left
                  · (try dsimp only at hSw); go_simp; (try with_reducible rfl)
                  (try simp only [Act.put, List.setIfInBounds_toArray, List.set_cons_zero, List.set_cons_succ])
                  refine wpAnyH_take (i := 16) (oi := ⟨some 79, _, _, _, _, _⟩) (v := ?_) rfl (by kernel_rfl) (by kernel_rfl) (by kernel_rfl) (fun _ _ _ h => h) (Or.inl ⟨by rfl, fun w' hSw => ?_⟩) (by assumption) ?_
                  rotate_left
                  · (try dsimp only at hSw); go_simp; (try with_reducible rfl)
                  (try simp only [Act.put, List.setIfInBounds_toArray, List.set_cons_zero, List.set_cons_succ])
                  refine wpAnyH_done (by kernel_rfl) ?_ _
                  go_wp2_with (at_builtin; fail)
                  refine wp_region_held_drew (S := (fun w' => w'.cell? ⟨g, 0, none⟩ = some (.slice At ts.length ct) ∧ w'.cell? ⟨g, 1, none⟩ = some (.slice Ab l.length cb) ∧ w'.cell? ⟨b2, o2 + j, none⟩ = some (.int .i64 (y : Nat)) ∧ Below wr.heap.size wr w')) (by kernel_rfl) ?_ (fun hHeld => ?_)
                  · exact ⟨belC (BX7.out).drew c0 hgl, belC (BX7.out).drew c1 hgl, belC (BX7.out).drew d2 hb2, (BX7.out).drew⟩
                  refine wpAnyH_take (i := 0) (oi := ⟨some 80, _, _, _, _, _⟩) (v := ?_) rfl (by kernel_rfl) (by kernel_rfl) (by kernel_rfl) (fun _ _ _ h => h) (Or.inl ⟨by rfl, fun w' hSw => ?_⟩) (by assumption) ?_
                  rotate_left
                  · (try dsimp only at hSw); go_simp; (try with_reducible rfl)
                  (try simp only [Act.put, List.setIfInBounds_toArray, List.set_cons_zero, List.set_cons_succ])
                  refine wpAnyH_take (i := 1) (oi := ⟨some 81, _, _, _, _, _⟩) (v := ?_) rfl (by kernel_rfl) (by kernel_rfl) (by kernel_rfl) (fun _ _ _ h => h) (Or.inl ⟨by rfl, fun w' hSw => ?_⟩) (by assumption) ?_
                  rotate_left
                  · (try dsimp only at hSw); go_simp; (try with_reducible rfl)
                  (try simp only [Act.put, List.setIfInBounds_toArray, List.set_cons_zero, List.set_cons_succ])
                  refine wpAnyH_take (i := 2) (oi := ⟨some 82, _, _, _, _, _⟩) (v := ?_) rfl (by kernel_rfl) (by kernel_rfl) (by kernel_rfl) (fun _ _ _ h => h) (Or.inl ⟨by rfl, fun w' hSw => ?_⟩) (by assumption) ?_
                  rotate_left
                  · (try dsimp only at hSw); go_simp; (try with_reducible rfl)
                  (try simp only [Act.put, List.setIfInBounds_toArray, List.set_cons_zero, List.set_cons_succ])
                  refine wpAnyH_take (i := 3) (oi := ⟨some 83, _, _, _, _, _⟩) (v := ?_) rfl (by kernel_rfl) (by kernel_rfl) (by kernel_rfl) (fun _ _ _ h => h) (Or.inl ⟨by rfl, fun w' hSw => ?_⟩) (by assumption) ?_
                  rotate_left
                  · (try dsimp only at hSw); go_simp; (try with_reducible rfl)
                  (try simp only [Act.put, List.setIfInBounds_toArray, List.set_cons_zero, List.set_cons_succ])
                  refine wpAnyH_take (i := 4) (oi := ⟨some 84, _, _, _, _, _⟩) (v := ?_) rfl (by kernel_rfl) (by kernel_rfl) (by kernel_rfl) (fun _ _ _ h => h) (Or.inl ⟨by rfl, fun w' hSw => ?_⟩) (by assumption) ?_
                  rotate_left
                  · (try dsimp only at hSw); go_simp; (try with_reducible rfl)
                  (try simp only [Act.put, List.setIfInBounds_toArray, List.set_cons_zero, List.set_cons_succ])
                  refine wpAnyH_take (i := 6) (oi := ⟨some 86, _, _, _, _, _⟩) (v := ?_) rfl (by kernel_rfl) (by kernel_rfl) (by kernel_rfl) (fun _ _ _ h => h) (Or.inl ⟨by rfl, fun w' hSw => ?_⟩) (by assumption) ?_
                  rotate_left
                  · (try dsimp only at hSw); go_simp; (try with_reducible rfl)
                  (try simp only [Act.put, List.setIfInBounds_toArray, List.set_cons_zero, List.set_cons_succ])
                  refine wpAnyH_ready (rs := [5]) (by kernel_rfl) (by simp) ?_
                  refine AllReadyH.cons (o := ⟨some 85, _, _, _, _, _⟩) rfl (fun K hK => ?_) AllReadyH.nil
                  go_simp
                  (refine (iSetBy_any (.slice At ts.length ct) (.slice Ab l.length cb) ts l (y : Nat) _ _ (HPY.out.ht.low (BEL.out _ (by assumption)) (Nat.le_refl _)) (HPY.out.hl.low (BEL.out _ (by assumption)) (Nat.le_refl _)) (BEL.out _ (by assumption)).size (by omega)).mono ?_)
                  (rintro e w9 ⟨rfl, hb9⟩)
                  (have BX9 := Lib.hid ((BEL.out _ (by assumption)).trans (hb9.mono (BEL.out _ (by assumption)).size)))
                  clear hb9
                  (generalize hsg : setRes ts l ((y : Nat) : Int) = sg)
                  (have HSG := Lib.hid hsg)
                  clear hsg
                  go_simp
                  refine hK.out _ _ ?_ (fun hHeld => ?_)
                  · exact ⟨belC BX9.out c0 hgl, belC BX9.out c1 hgl, belC BX9.out d2 hb2, BX9.out⟩
                  clear hK K
                  (try simp only [Act.put, List.setIfInBounds_toArray, List.set_cons_zero, List.set_cons_succ])
                  refine wpAnyH_take (i := 7) (oi := ⟨some 87, _, _, _, _, _⟩) (v := ?_) rfl (by kernel_rfl) (by kernel_rfl) (by kernel_rfl) (fun _ _ _ h => h) (Or.inl ⟨by rfl, fun w' hSw => ?_⟩) (by assumption) ?_
                  rotate_left
                  · (try dsimp only at hSw); go_simp; (try with_reducible rfl)
                  (try simp only [Act.put, List.setIfInBounds_toArray, List.set_cons_zero, List.set_cons_succ])
                  refine wpAnyH_done (by kernel_rfl) ?_ _
                  by_cases hs : sg = (v : Nat)
                  · by_cases hy : ((y : Nat) : Int) = a
                    · go_wp2_with (at_builtin; fail)
                      exact ⟨HNXT.out true (fun _ => .inl hy) _ BX9.out, by simp [intOf] <;> omega⟩
                    · go_wp2_with (at_builtin; fail)
                      exact ⟨HNXT.out false (fun h => by cases h) _ BX9.out, by simp [intOf] <;> omega⟩
                  · by_cases hy : ((y : Nat) : Int) = a
                    · go_wp2_with (at_builtin; fail)
                      exact ⟨HNXT.out true (fun _ => .inl hy) _ BX9.out, by simp [intOf] <;> omega⟩
                    · go_wp2_with (at_builtin; fail)
                      exact ⟨HNXT.out true (fun h => .inr ⟨by trivial, by rw [HSG.out]; exact hs⟩) _ BX9.out, by simp [intOf] <;> omega⟩
            · clear hry
              go_wp2_with (at_builtin; fail)
              exact ⟨⟨v + 1, by omega, by go_num, HBW.out.trans (HBY.out.mono HBW.out.size)⟩, by simp [intOf] <;> omega⟩
        · go_wp2_with (at_builtin; fail)
          go_ret
          exact ⟨rfl, HPW.out.bel⟩
    · have hn1 : (1048576 : Int) < n' := by omega
      unfold maxLen at hm hm'
      go_enter Try.func12, Try.ntmps12
      go_wp2_with fail
      go_ret
      exact ⟨rfl, Below.refl _ _⟩
  · have hn1 : (1048576 : Int) < n := by omega
    unfold maxLen at hm hm'
    go_enter Try.func12, Try.ntmps12
    go_wp2_with fail
    go_ret
    exact ⟨rfl, Below.refl _ _⟩

end Go.Proofs.Yteaddodjijlpjaa
