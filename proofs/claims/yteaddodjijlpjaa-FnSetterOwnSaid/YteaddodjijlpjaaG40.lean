import Derived.Test.YteaddodjijlpjaaG25
import Derived.Test.YteaddodjijlpjaaG29
import Derived.Test.YteaddodjijlpjaaG35
import Derived.Test.YteaddodjijlpjaaG10
import Derived.Test.YteaddodjijlpjaaG38
import Derived.Test.YteaddodjijlpjaaG24
import Derived.Test.YteaddodjijlpjaaG34
set_option linter.unusedVariables false

/- FnSetterOwn: the plain law, the walk. -/
namespace Go.Proofs.Yteaddodjijlpjaa
open Go.RowKit

theorem setter_own {ts : List Int} {l : List St} {a : Int} (h : 0 ≤ setRes ts l a) : ∃ k : Nat, a = (k : Nat) ∧ validP ts l = true ∧ ∃ hk : k < (ptsP l).length, ∃ m nr, ((ptsP l)[k]).next = m :: nr ∧ hasP (flRes ts l Gset Cset (m : Nat) (setRes ts l a)) (k : Nat) = true := by
  unfold setRes at h
  split at h
  · rename_i hok
    obtain ⟨hv, k, rfl, hk⟩ := graphOk_one hok
    have G := Good.of_valid hv
    have hsr : setRes ts l (k : Nat) = setsP (ptsP l)[k].op (ptsP l)[k].x := by unfold setRes; rw [if_pos hok, ptAt_nat hk]
    rw [hsr]
    rw [ptAt_nat hk] at h
    have hmem := List.getElem_mem hk
    have hlt := (G.ok _ hmem).sets
    have hn1 := ptsP_next1 l _ hmem (by intro h9; rw [h9] at h; simp [setsP] at h)
    refine ⟨k, rfl, hv, hk, ?_⟩
    obtain ⟨m, nr, hnx⟩ : ∃ m nr, ((ptsP l)[k]).next = m :: nr := by
      cases hnx : ((ptsP l)[k]).next with
      | nil => rw [hnx] at hn1; simp at hn1
      | cons m nr => exact ⟨m, nr, rfl⟩
    refine ⟨m, nr, hnx, ?_⟩
    have hin : m ∈ ((ptsP l)[k]).next := by rw [hnx]; simp
    have hml := G.next _ hmem m hin
    obtain ⟨x, hx⟩ : ∃ x : Nat, setsP (ptsP l)[k].op (ptsP l)[k].x = x := ⟨(setsP (ptsP l)[k].op (ptsP l)[k].x).toNat, by omega⟩
    rw [hx] at hlt ⊢
    have hokm : graphOk ts l [((m : Nat) : Int)] = true := by
      simp only [graphOk, hv, Bool.true_and, List.all_cons, List.all_nil, Bool.and_true, withinP, Bool.and_eq_true, decide_eq_true_eq]; omega
    unfold flRes
    rw [if_pos ⟨hokm, by simp [withinP]; omega⟩]
    unfold flS
    rw [lst_has, decide_eq_true hk, Bool.true_and]
    exact dec_true (.gen (List.getElem?_eq_getElem hk) hin (by omega) hx (by simp [Gset]))
  · omega

set_option maxHeartbeats 8000000
set_option maxRecDepth 100000
theorem fnSetterOwn_any (A : Option Addr) (n c : Nat) (w : World) (hb : Byt w w.heap.size A n) (hm : n ≤ maxLen) (hc : n ≤ c) :
    Calls Try.prog 7 #[.slice A n c] w (LawRet w) := by
  have HB := Lib.hid hb
  clear hb
  by_cases hn : n ≤ 1048576
  · go_enter Try.func7, Try.ntmps7
    go_wp2_with fail
    refine (drawUsersOf_any A n c _ HB.out hn hc).mono ?_
    rintro e w1 ⟨vt, vb, ts, l, a, rfl, hit, hst, hts, hsz, hb1⟩
    have HP1 := Lib.hid (PgB.new hit hst hb1)
    obtain ⟨At, ct, rfl, hct⟩ := hit.slice
    obtain ⟨Ab, cb, rfl, hcb⟩ := hst.slice
    clear hit hst hb1
    go_wp2_with fail
    generalize w1.alloc (.cells #[.slice At ts.length ct, .slice Ab l.length cb] 26) = W1 at *
    obtain ⟨g, hg⟩ : ∃ g, g = w1.heap.size := ⟨_, rfl⟩
    rw [← hg] at HP1 ⊢
    clear hg
    refine (iUsersOf_any _ _ ts l a _ _ HP1.out.ht HP1.out.hl (Nat.le_refl _) (by omega)).mono ?_
    rintro e w2 ⟨v2, rfl, hv2, hb2⟩
    have HV_2 := Lib.hid hv2
    clear hv2
    have HP2 := Lib.hid (HP1.out.bels hb2)
    have c0 := HP2.out.c0
    have c1 := HP2.out.c1
    clear hb2
    go_wp2_with (at_builtin; fail)
    refine (iPointsOf_any _ _ ts l _ _ HP2.out.ht HP2.out.hl (Nat.le_refl _) (by omega)).mono ?_
    rintro e w3 ⟨v3, rfl, hv3, hb3⟩
    have HPT_3 := Lib.hid hv3
    obtain ⟨Ap, cp, rfl, hcp, hpl⟩ := hv3.slice
    clear hv3
    have HV_3 := Lib.hid (HV_2.out.bel hb3)
    have HP3 := Lib.hid (HP2.out.bels hb3)
    clear c0 c1
    have c0 := HP3.out.c0
    have c1 := HP3.out.c1
    clear hb3
    go_wp2_with (at_builtin; fail)
    refine (iSetBy_any _ _ ts l a _ _ HP3.out.ht HP3.out.hl (Nat.le_refl _) (by omega)).mono ?_
    rintro e w4 ⟨rfl, hb4⟩
    have HV_4 := Lib.hid (HV_3.out.bel hb4)
    have HPT_4 := Lib.hid (HPT_3.out.bel hb4)
    have HP4 := Lib.hid (HP3.out.bels hb4)
    clear c0 c1
    have c0 := HP4.out.c0
    have c1 := HP4.out.c1
    clear hb4
    have HLAW := Lib.hid (fun h => setter_own (ts := ts) (l := l) (a := a) h)
    generalize setRes ts l a = v at *
    go_wp2_with (at_builtin; fail)
    refine (sUsersOf_any _ _ ts l a _ _ HP4.out.ht HP4.out.hl (Nat.le_refl _) (by omega)).mono ?_
    rintro e w5 ⟨v5, rfl, hv5, hb5⟩
    have HS_5 := Lib.hid hv5
    clear hv5
    have HV_5 := Lib.hid (HV_4.out.bel hb5)
    have HPT_5 := Lib.hid (HPT_4.out.bel hb5)
    have HP5 := Lib.hid (HP4.out.bels hb5)
    clear c0 c1
    have c0 := HP5.out.c0
    have c1 := HP5.out.c1
    clear hb5
    go_wp2_with (at_builtin; fail)
    refine (bcInts_any _ _ _ _ _ _ HV_5.out HS_5.out).mono ?_
    rintro e w6 ⟨rfl, n6, rfl⟩
    rw [show eqP (userRes ts l a) (userRes ts l a) = true by simp [eqP]]
    have hb6 := below_of_drewN (w := w5) ⟨n6, rfl⟩ w5.heap.size
    have HV_6 := Lib.hid (HV_5.out.bel hb6)
    have HPT_6 := Lib.hid (HPT_5.out.bel hb6)
    have HS_6 := Lib.hid (HS_5.out.bel hb6)
    have HP6 := Lib.hid (HP5.out.bels hb6)
    clear c0 c1
    have c0 := HP6.out.c0
    have c1 := HP6.out.c1
    clear hb6
    generalize w5.drewN n6 = w6 at *
    by_cases hv0 : v < 0
    · have hv1 : decide (v < 0) = true := by simpa using hv0
      go_wp2_with (at_builtin; fail)
      refine (sUsersOf_any _ _ ts l a _ _ HP6.out.ht HP6.out.hl (Nat.le_refl _) (by omega)).mono ?_
      rintro e w7 ⟨v7, rfl, hv7, hb7⟩
      have HT_7 := Lib.hid hv7
      clear hv7
      have HV_7 := Lib.hid (HV_6.out.bel hb7)
      have HPT_7 := Lib.hid (HPT_6.out.bel hb7)
      have HS_7 := Lib.hid (HS_6.out.bel hb7)
      have HP7 := Lib.hid (HP6.out.bels hb7)
      clear c0 c1
      have c0 := HP7.out.c0
      have c1 := HP7.out.c1
      clear hb7
      go_wp2_with fail
      refine (bcInts_any _ _ _ _ _ _ HV_7.out HT_7.out).mono ?_
      rintro e w8 ⟨rfl, n8, rfl⟩
      rw [show eqP (userRes ts l a) (userRes ts l a) = true by simp [eqP]]
      have hb8 := below_of_drewN (w := w7) ⟨n8, rfl⟩ w7.heap.size
      have HV_8 := Lib.hid (HV_7.out.bel hb8)
      have HPT_8 := Lib.hid (HPT_7.out.bel hb8)
      have HS_8 := Lib.hid (HS_7.out.bel hb8)
      have HT_8 := Lib.hid (HT_7.out.bel hb8)
      have HP8 := Lib.hid (HP7.out.bels hb8)
      clear c0 c1
      have c0 := HP8.out.c0
      have c1 := HP8.out.c1
      clear hb8
      generalize w7.drewN n8 = w8 at *
      go_wp2_with fail
      go_ret
      exact ⟨rfl, HP8.out.bel⟩
    · have hv1 : decide (v < 0) = false := by simpa using hv0
      obtain ⟨k, rfl, hval, hkl, m, nr, hnx1, hfl⟩ := HLAW.out (by omega)
      have hpe : pointsP ts l = ptsP l := by unfold pointsP; rw [hval]; rfl
      have HPX := HPT_6.out
      rw [hpe] at HPX hpl hcp ⊢
      obtain ⟨bp, op, cp', nv, e, hbp, hcp', hlp, hnx, -, -, -, -, p4⟩ := HPX.get hkl
      injection e with e1 e9 e2
      subst e1 e2
      rw [hnx1] at hnx
      obtain ⟨An, cn, rfl, hcn, hln, hrn⟩ := hnx
      simp only [List.length_map] at hcn hln p4
      obtain ⟨bn, on, rfl, hbn, hcell⟩ := Rd.int_at (l := (m :: nr).map fun k => ((k : Nat) : Int)) (by simpa using hrn) (k := 0) (by simp)
      have hcm : w6.cell? ⟨bn, on, none⟩ = some (.int .i64 (m : Nat)) := by simpa using hcell 0 (by simp)
      have hnn1 : 0 < (m :: nr).length := by simp
      generalize (m :: nr).length = nn at *
      have HFL := Lib.hid hfl
      clear hcell hrn hnx1 hfl HPX e9 HLAW hv0 hval hpe
      generalize (ptsP l).length = np at *
      have hgl := HP6.out.lt
      have BEL : Hid (∀ w', w'.cell? ⟨g, 0, none⟩ = some (.slice At ts.length ct) ∧ w'.cell? ⟨g, 1, none⟩ = some (.slice Ab l.length cb) ∧ w'.cell? ⟨bp, op + k * 5 + 4, none⟩ = some (.slice (some ⟨bn, on, none⟩) nn cn) ∧ w'.cell? ⟨bn, on, none⟩ = some (.int .i64 (m : Nat)) ∧ Below w6.heap.size w6 w' → Below w6.heap.size w6 w') := Lib.hid fun _ h => h.2.2.2.2
      go_wp2_with (at_builtin; fail)
      refine wp_region_held_drew (S := (fun w' => w'.cell? ⟨g, 0, none⟩ = some (.slice At ts.length ct) ∧ w'.cell? ⟨g, 1, none⟩ = some (.slice Ab l.length cb) ∧ w'.cell? ⟨bp, op + k * 5 + 4, none⟩ = some (.slice (some ⟨bn, on, none⟩) nn cn) ∧ w'.cell? ⟨bn, on, none⟩ = some (.int .i64 (m : Nat)) ∧ Below w6.heap.size w6 w')) (by kernel_rfl) ?_ (fun hHeld => ?_)
      · exact ⟨c0, c1, p4, hcm, (Below.refl _ _).drew⟩
      refine wpAnyH_take (i := 0) (oi := ⟨some 39, _, _, _, _, _⟩) (v := ?_) rfl (by kernel_rfl) (by kernel_rfl) (by kernel_rfl) (fun _ _ _ h => h) (Or.inl ⟨by rfl, fun w' hSw => ?_⟩) (by assumption) ?_
      rotate_left
      · (try dsimp only at hSw); go_simp; (try with_reducible rfl)
      (try simp only [Act.put, List.setIfInBounds_toArray, List.set_cons_zero, List.set_cons_succ])
      refine wpAnyH_take (i := 1) (oi := ⟨some 40, _, _, _, _, _⟩) (v := ?_) rfl (by kernel_rfl) (by kernel_rfl) (by kernel_rfl) (fun _ _ _ h => h) (Or.inl ⟨by rfl, fun w' hSw => ?_⟩) (by assumption) ?_
      rotate_left
      · (try dsimp only at hSw); go_simp; (try with_reducible rfl)
      (try simp only [Act.put, List.setIfInBounds_toArray, List.set_cons_zero, List.set_cons_succ])
      refine wpAnyH_take (i := 2) (oi := ⟨some 41, _, _, _, _, _⟩) (v := ?_) rfl (by kernel_rfl) (by kernel_rfl) (by kernel_rfl) (fun _ _ _ h => h) (Or.inl ⟨by rfl, fun w' hSw => ?_⟩) (by assumption) ?_
      rotate_left
      · (try dsimp only at hSw); go_simp; (try with_reducible rfl)
      (try simp only [Act.put, List.setIfInBounds_toArray, List.set_cons_zero, List.set_cons_succ])
      refine wpAnyH_take (i := 3) (oi := ⟨some 42, _, _, _, _, _⟩) (v := ?_) rfl (by kernel_rfl) (by kernel_rfl) (by kernel_rfl) (fun _ _ _ h => h) (Or.inl ⟨by rfl, fun w' hSw => ?_⟩) (by assumption) ?_
      rotate_left
      · (try dsimp only at hSw); go_simp; (try with_reducible rfl)
      (try simp only [Act.put, List.setIfInBounds_toArray, List.set_cons_zero, List.set_cons_succ])
      refine wpAnyH_take (i := 4) (oi := ⟨some 43, _, _, _, _, _⟩) (v := ?_) rfl (by kernel_rfl) (by kernel_rfl) (by kernel_rfl) (fun _ _ _ h => h) (Or.inl ⟨by rfl, fun w' hSw => ?_⟩) (by assumption) ?_
      rotate_left
      · (try dsimp only at hSw); go_simp; (try with_reducible rfl)
      (try simp only [Act.put, List.setIfInBounds_toArray, List.set_cons_zero, List.set_cons_succ])
      refine wpAnyH_take (i := 5) (oi := ⟨some 44, _, _, _, _, _⟩) (v := ?_) rfl (by kernel_rfl) (by kernel_rfl) (by kernel_rfl) (fun _ _ _ h => h) (Or.inl ⟨by rfl, fun w' hSw => ?_⟩) (by assumption) ?_
      rotate_left
      · (try dsimp only at hSw); go_simp; (try with_reducible rfl)
      (try simp only [Act.put, List.setIfInBounds_toArray, List.set_cons_zero, List.set_cons_succ])
      refine wpAnyH_take (i := 6) (oi := ⟨some 45, _, _, _, _, _⟩) (v := ?_) rfl (by kernel_rfl) (by kernel_rfl) (by kernel_rfl) (fun _ _ _ h => h) (Or.inl ⟨by rfl, fun w' hSw => ?_⟩) (by assumption) ?_
      rotate_left
      · (try dsimp only at hSw); go_simp; (try with_reducible rfl)
      (try simp only [Act.put, List.setIfInBounds_toArray, List.set_cons_zero, List.set_cons_succ])
      refine wpAnyH_take (i := 7) (oi := ⟨some 46, _, _, _, _, _⟩) (v := ?_) rfl (by kernel_rfl) (by kernel_rfl) (by kernel_rfl) (fun _ _ _ h => h) (Or.inl ⟨by rfl, fun w' hSw => ?_⟩) (by assumption) ?_
      rotate_left
      · (try dsimp only at hSw); go_simp; (try with_reducible rfl)
      (try simp only [Act.put, List.setIfInBounds_toArray, List.set_cons_zero, List.set_cons_succ])
      refine wpAnyH_take (i := 8) (oi := ⟨some 47, _, _, _, _, _⟩) (v := ?_) rfl (by kernel_rfl) (by kernel_rfl) (by kernel_rfl) (fun _ _ _ h => h) (Or.inl ⟨by rfl, fun w' hSw => ?_⟩) (by assumption) ?_
      rotate_left
      · (try dsimp only at hSw); go_simp; (try with_reducible rfl)
      (try simp only [Act.put, List.setIfInBounds_toArray, List.set_cons_zero, List.set_cons_succ])
      refine wpAnyH_take (i := 10) (oi := ⟨some 49, _, _, _, _, _⟩) (v := ?_) rfl (by kernel_rfl) (by kernel_rfl) (by kernel_rfl) (fun _ _ _ h => h) (Or.inl ⟨by rfl, fun w' hSw => ?_⟩) (by assumption) ?_
      rotate_left
      · (try dsimp only at hSw); go_simp; (try with_reducible rfl)
      (try simp only [Act.put, List.setIfInBounds_toArray, List.set_cons_zero, List.set_cons_succ])
      refine wpAnyH_ready (rs := [9]) (by kernel_rfl) (by simp) ?_
      refine AllReadyH.cons (o := ⟨some 48, _, _, _, _, _⟩) rfl (fun K hK => ?_) AllReadyH.nil
      go_simp
      (refine (iSettersOf_any (.slice At ts.length ct) (.slice Ab l.length cb) ts l (m : Nat) v _ _ (HP6.out.ht.low (BEL.out _ (by assumption)) (Nat.le_refl _)) (HP6.out.hl.low (BEL.out _ (by assumption)) (Nat.le_refl _)) (BEL.out _ (by assumption)).size (by omega)).mono ?_)
      (rintro e w8 ⟨v8, rfl, hv8, hb8⟩)
      (have BX8 := Lib.hid ((BEL.out _ (by assumption)).trans (hb8.mono (BEL.out _ (by assumption)).size)))
      (have HV8 := Lib.hid hv8)
      clear hv8 hb8
      go_simp
      refine hK.out _ _ ?_ (fun hHeld => ?_)
      · exact ⟨belC BX8.out c0 hgl, belC BX8.out c1 hgl, belC BX8.out p4 hbp, belC BX8.out hcm hbn, BX8.out⟩
      clear hK K
      (try simp only [Act.put, List.setIfInBounds_toArray, List.set_cons_zero, List.set_cons_succ])
      refine wpAnyH_ready (rs := [11]) (by kernel_rfl) (by simp) ?_
      refine AllReadyH.cons (o := ⟨some 50, _, _, _, _, _⟩) rfl (fun K hK => ?_) AllReadyH.nil
      go_simp
      (refine (bcIn_any _ _ _ _ _ HV8.out).mono ?_)
      (rintro e w9 ⟨rfl, rfl⟩)
      (rw [HFL.out])
      go_simp
      refine hK.out _ _ ?_ (fun hHeld => ?_)
      · exact ⟨belC BX8.out c0 hgl, belC BX8.out c1 hgl, belC BX8.out p4 hbp, belC BX8.out hcm hbn, BX8.out⟩
      clear hK K
      (try simp only [Act.put, List.setIfInBounds_toArray, List.set_cons_zero, List.set_cons_succ])
      refine wpAnyH_take (i := 12) (oi := ⟨some 2, _, _, _, _, _⟩) (v := ?_) rfl (by kernel_rfl) (by kernel_rfl) (by kernel_rfl) (fun _ _ _ h => h) (Or.inl ⟨by rfl, fun w' hSw => ?_⟩) (by assumption) ?_
      rotate_left
      · (try dsimp only at hSw); go_simp; (try with_reducible rfl)
      (try simp only [Act.put, List.setIfInBounds_toArray, List.set_cons_zero, List.set_cons_succ])
      refine wpAnyH_done (by kernel_rfl) ?_ _
      go_wp2_with fail
      go_ret
      exact ⟨rfl, HP6.out.bel.trans (BX8.out.mono HP6.out.bel.size)⟩
  · have hn1 : (1048576 : Int) < n := by omega
    unfold maxLen at hm
    go_enter Try.func7, Try.ntmps7
    go_wp2_with fail
    go_ret
    exact ⟨rfl, Below.refl _ _⟩

end Go.Proofs.Yteaddodjijlpjaa
