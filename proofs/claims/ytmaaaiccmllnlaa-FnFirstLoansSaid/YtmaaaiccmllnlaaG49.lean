import Derived.Test.YtmaaaiccmllnlaaG25
import Derived.Test.YtmaaaiccmllnlaaG44
import Derived.Test.YtmaaaiccmllnlaaG48
import Derived.Test.YtmaaaiccmllnlaaG09
import Derived.Test.YtmaaaiccmllnlaaG10
import Derived.Test.YtmaaaiccmllnlaaG32
import Derived.Test.YtmaaaiccmllnlaaG24
import Derived.Test.YtmaaaiccmllnlaaG38
set_option linter.unusedVariables false

/- FnFirstLoans: the plain law, the walk. -/
namespace Go.Proofs.Ytmaaaiccmllnlaa
open Go.RowKit

theorem first_loans {ts : List Int} {l : List St} {j : Nat} (hj : j < (pldRes ts l 0).length) : hasP (frRes l ts ((pldRes ts l 0).getD j 0)) 0 = true := by
  have hm : (pldRes ts l 0).getD j 0 ∈ pldRes ts l 0 := by rw [getD_lt hj]; exact List.getElem_mem hj
  generalize (pldRes ts l 0).getD j 0 = y at *
  unfold pldRes at hm
  split at hm
  · rename_i hok
    obtain ⟨hv, k0, hk0, hk⟩ := graphOk_one hok
    unfold pldL at hm
    obtain ⟨k, hkl, hf, rfl⟩ := lst_mem.1 hm
    have hl := (dec_iff.1 hf).loan.2
    have hoky : graphOk ts l [((k : Nat) : Int)] = true := by
      simp only [graphOk, hv, Bool.true_and, List.all_cons, List.all_nil, Bool.and_true, withinP, Bool.and_eq_true, decide_eq_true_eq]; omega
    have hz : k0 = 0 := by omega
    subst hz
    unfold frRes
    rw [if_pos hoky, show (0 : Int) = ((0 : Nat) : Int) by rfl, lst_has, decide_eq_true hk, Bool.true_and]
    exact dec_true hl
  · simp at hm

set_option maxHeartbeats 8000000
set_option maxRecDepth 100000
theorem fnFirstLoans_any (A : Option Addr) (n c : Nat) (w : World) (hb : Byt w w.heap.size A n) (hm : n ≤ maxLen) (hc : n ≤ c) :
    Calls Try.prog 12 #[.slice A n c] w (LawRet w) := by
  have HB := Lib.hid hb
  clear hb
  by_cases hn : n ≤ 1048576
  · go_enter Try.func12, Try.ntmps12
    go_wp2_with fail
    refine (drawPlacedLoans_any A n c _ HB.out hn hc).mono ?_
    rintro e w1 ⟨vt, vb, ts, l, a, rfl, hit, hst, hts, hsz, hb1⟩
    have HP1 := Lib.hid (PgB.new hit hst hb1)
    obtain ⟨At, ct, rfl, hct⟩ := hit.slice
    obtain ⟨Ab, cb, rfl, hcb⟩ := hst.slice
    clear hit hst hb1
    go_wp2_with fail
    generalize w1.alloc (.cells #[.slice At ts.length ct, .slice Ab l.length cb] 26) = W1 at *
    obtain ⟨g, hg⟩ : ∃ g, g = w1.heap.size := ⟨_, rfl⟩
    rw [← hg] at HP1 ⊢
    clear hg
    refine (iPlacedLoans_any _ _ ts l a _ _ HP1.out.ht HP1.out.hl (Nat.le_refl _) (by omega)).mono ?_
    rintro e w2 ⟨v2, rfl, hv2, hb2⟩
    have HV_2 := Lib.hid hv2
    clear hv2
    have HP2 := Lib.hid (HP1.out.bels hb2)
    have c0 := HP2.out.c0
    have c1 := HP2.out.c1
    clear hb2
    go_wp2_with (at_builtin; fail)
    refine (sPlacedLoans_any _ _ ts l a _ _ HP2.out.ht HP2.out.hl (Nat.le_refl _) (by omega)).mono ?_
    rintro e w3 ⟨v3, rfl, hv3, hb3⟩
    have HS_3 := Lib.hid hv3
    clear hv3
    have HV_3 := Lib.hid (HV_2.out.bel hb3)
    have HP3 := Lib.hid (HP2.out.bels hb3)
    clear c0 c1
    have c0 := HP3.out.c0
    have c1 := HP3.out.c1
    clear hb3
    go_wp2_with fail
    refine (bcInts_any _ _ _ _ _ _ HV_3.out HS_3.out).mono ?_
    rintro e w4 ⟨rfl, n4, rfl⟩
    rw [show eqP (pldRes ts l a) (pldRes ts l a) = true by simp [eqP]]
    have hb4 := below_of_drewN (w := w3) ⟨n4, rfl⟩ w3.heap.size
    have HV_4 := Lib.hid (HV_3.out.bel hb4)
    have HS_4 := Lib.hid (HS_3.out.bel hb4)
    have HP4 := Lib.hid (HP3.out.bels hb4)
    clear c0 c1
    have c0 := HP4.out.c0
    have c1 := HP4.out.c1
    clear hb4
    generalize w3.drewN n4 = w4 at *
    go_wp2_with (at_builtin; fail)
    refine (iPlacedLoans_any _ _ ts l 0 _ _ HP4.out.ht HP4.out.hl (Nat.le_refl _) (by omega)).mono ?_
    rintro e w5 ⟨v5, rfl, hv5, hb5⟩
    have HF_5 := Lib.hid hv5
    clear hv5
    have HP5 := Lib.hid (HP4.out.bels hb5)
    clear c0 c1
    have c0 := HP5.out.c0
    have c1 := HP5.out.c1
    clear hb5
    have HMK := Lib.hid (fun j hj => first_loans (ts := ts) (l := l) (j := j) hj)
    generalize pldRes ts l 0 = r at *
    obtain ⟨A2, c2, rfl, hc2, hm2, -⟩ := HF_5.out
    go_wp2_with (at_builtin; fail)
    go_loopw [7] (fun i wr => ∃ j : Nat, j ≤ r.length ∧ i = .int .i64 j ∧ Below w5.heap.size w5 wr) (fun i _ => r.length - (intOf i).toNat)
    case atStart => exact ⟨0, Nat.zero_le _, rfl, Below.refl _ _⟩
    case round =>
      obtain ⟨j, hj, rfl, hbw⟩ := hrel
      have HBW := Lib.hid hbw
      have HPW := Lib.hid (HP5.out.bels hbw)
      have hvw := HF_5.out.bel hbw
      clear hbw c0 c1
      have c0 := HPW.out.c0
      have c1 := HPW.out.c1
      have hgl := HPW.out.lt
      by_cases hjl : j < r.length
      · have hs1 := HMK.out j hjl
        obtain ⟨A3, c3, e3, -, -, hr3⟩ := hvw
        injection e3 with e3 e9 e8
        subst e3 e8
        obtain ⟨b2, o2, rfl, hb2, hcell2⟩ := hr3.int_at hjl
        have d2 := hcell2 j hjl
        generalize r.getD j 0 = y at *
        have HS1 := Lib.hid hs1
        have BEL : Hid (∀ w', w'.cell? ⟨g, 0, none⟩ = some (.slice At ts.length ct) ∧ w'.cell? ⟨g, 1, none⟩ = some (.slice Ab l.length cb) ∧ w'.cell? ⟨b2, o2 + j, none⟩ = some (.int .i64 y) ∧ Below wr.heap.size wr w' → Below wr.heap.size wr w') := Lib.hid fun _ h => h.2.2.2
        clear e9 hs1 hr3 hcell2
        go_wp2_with (at_builtin; fail)
        refine wp_region_held_drew (S := (fun w' => w'.cell? ⟨g, 0, none⟩ = some (.slice At ts.length ct) ∧ w'.cell? ⟨g, 1, none⟩ = some (.slice Ab l.length cb) ∧ w'.cell? ⟨b2, o2 + j, none⟩ = some (.int .i64 y) ∧ Below wr.heap.size wr w')) (by kernel_rfl) ?_ (fun hHeld => ?_)
        · exact ⟨c0, c1, d2, (Below.refl _ _).drew⟩
        refine wpAnyH_take (i := 0) (oi := ⟨some 33, _, _, _, _, _⟩) (v := ?_) rfl (by kernel_rfl) (by kernel_rfl) (by kernel_rfl) (fun _ _ _ h => h) (Or.inl ⟨by rfl, fun w' hSw => ?_⟩) (by assumption) ?_
        rotate_left
        · (try dsimp only at hSw); go_simp; (try with_reducible rfl)
        (try simp only [Act.put, List.setIfInBounds_toArray, List.set_cons_zero, List.set_cons_succ])
        refine wpAnyH_take (i := 1) (oi := ⟨some 34, _, _, _, _, _⟩) (v := ?_) rfl (by kernel_rfl) (by kernel_rfl) (by kernel_rfl) (fun _ _ _ h => h) (Or.inl ⟨by rfl, fun w' hSw => ?_⟩) (by assumption) ?_
        rotate_left
        · (try dsimp only at hSw); go_simp; (try with_reducible rfl)
        (try simp only [Act.put, List.setIfInBounds_toArray, List.set_cons_zero, List.set_cons_succ])
        refine wpAnyH_take (i := 2) (oi := ⟨some 35, _, _, _, _, _⟩) (v := ?_) rfl (by kernel_rfl) (by kernel_rfl) (by kernel_rfl) (fun _ _ _ h => h) (Or.inl ⟨by rfl, fun w' hSw => ?_⟩) (by assumption) ?_
        rotate_left
        · (try dsimp only at hSw); go_simp; (try with_reducible rfl)
        (try simp only [Act.put, List.setIfInBounds_toArray, List.set_cons_zero, List.set_cons_succ])
        refine wpAnyH_take (i := 3) (oi := ⟨some 36, _, _, _, _, _⟩) (v := ?_) rfl (by kernel_rfl) (by kernel_rfl) (by kernel_rfl) (fun _ _ _ h => h) (Or.inl ⟨by rfl, fun w' hSw => ?_⟩) (by assumption) ?_
        rotate_left
        · (try dsimp only at hSw); go_simp; (try with_reducible rfl)
        (try simp only [Act.put, List.setIfInBounds_toArray, List.set_cons_zero, List.set_cons_succ])
        refine wpAnyH_take (i := 4) (oi := ⟨some 37, _, _, _, _, _⟩) (v := ?_) rfl (by kernel_rfl) (by kernel_rfl) (by kernel_rfl) (fun _ _ _ h => h) (Or.inl ⟨by rfl, fun w' hSw => ?_⟩) (by assumption) ?_
        rotate_left
        · (try dsimp only at hSw); go_simp; (try with_reducible rfl)
        (try simp only [Act.put, List.setIfInBounds_toArray, List.set_cons_zero, List.set_cons_succ])
        refine wpAnyH_ready (rs := [5]) (by kernel_rfl) (by simp) ?_
        refine AllReadyH.cons (o := ⟨some 38, _, _, _, _, _⟩) rfl (fun K hK => ?_) AllReadyH.nil
        go_simp
        (refine (iPathsFrom_any (.slice At ts.length ct) (.slice Ab l.length cb) ts l y _ _ (HPW.out.ht.low (BEL.out _ (by assumption)) (Nat.le_refl _)) (HPW.out.hl.low (BEL.out _ (by assumption)) (Nat.le_refl _)) (BEL.out _ (by assumption)).size (by omega)).mono ?_)
        (rintro e w8 ⟨v8, rfl, hv8, hb8⟩)
        (have BX8 := Lib.hid ((BEL.out _ (by assumption)).trans (hb8.mono (BEL.out _ (by assumption)).size)))
        (have HV8 := Lib.hid hv8)
        clear hv8 hb8
        go_simp
        refine hK.out _ _ ?_ (fun hHeld => ?_)
        · exact ⟨belC BX8.out c0 hgl, belC BX8.out c1 hgl, belC BX8.out d2 hb2, BX8.out⟩
        clear hK K
        (try simp only [Act.put, List.setIfInBounds_toArray, List.set_cons_zero, List.set_cons_succ])
        refine wpAnyH_ready (rs := [6]) (by kernel_rfl) (by simp) ?_
        refine AllReadyH.cons (o := ⟨some 39, _, _, _, _, _⟩) rfl (fun K hK => ?_) AllReadyH.nil
        go_simp
        (refine (bcIn_any _ _ _ _ _ HV8.out).mono ?_)
        (rintro e w9 ⟨rfl, rfl⟩)
        (rw [HS1.out])
        go_simp
        refine hK.out _ _ ?_ (fun hHeld => ?_)
        · exact ⟨belC BX8.out c0 hgl, belC BX8.out c1 hgl, belC BX8.out d2 hb2, BX8.out⟩
        clear hK K
        (try simp only [Act.put, List.setIfInBounds_toArray, List.set_cons_zero, List.set_cons_succ])
        refine wpAnyH_take (i := 7) (oi := ⟨some 40, _, _, _, _, _⟩) (v := ?_) rfl (by kernel_rfl) (by kernel_rfl) (by kernel_rfl) (fun _ _ _ h => h) (Or.inl ⟨by rfl, fun w' hSw => ?_⟩) (by assumption) ?_
        rotate_left
        · (try dsimp only at hSw); go_simp; (try with_reducible rfl)
        (try simp only [Act.put, List.setIfInBounds_toArray, List.set_cons_zero, List.set_cons_succ])
        refine wpAnyH_done (by kernel_rfl) ?_ _
        go_wp2_with fail
        exact ⟨⟨j + 1, by omega, by go_num, HBW.out.trans (BX8.out.mono HBW.out.size)⟩, by simp [intOf] <;> omega⟩
      · clear hvw
        go_wp2_with (at_builtin; fail)
        go_ret
        exact ⟨rfl, HPW.out.bel⟩
  · have hn1 : (1048576 : Int) < n := by omega
    unfold maxLen at hm
    go_enter Try.func12, Try.ntmps12
    go_wp2_with fail
    go_ret
    exact ⟨rfl, Below.refl _ _⟩

end Go.Proofs.Ytmaaaiccmllnlaa
