import Derived.Test.YtmaaaiccmllnlaaG25
import Derived.Test.YtmaaaiccmllnlaaG50
import Derived.Test.YtmaaaiccmllnlaaG43
import Derived.Test.YtmaaaiccmllnlaaG09
import Derived.Test.YtmaaaiccmllnlaaG10
import Derived.Test.YtmaaaiccmllnlaaG32
import Derived.Test.YtmaaaiccmllnlaaG24
import Derived.Test.YtmaaaiccmllnlaaG44
import Derived.Test.YtmaaaiccmllnlaaG38
set_option linter.unusedVariables false

/- FnLiveLoans: the plain law, the walk. -/
namespace Go.Proofs.Ytmaaaiccmllnlaa
open Go.RowKit

theorem live_ref {ts : List Int} {l : List St} {a : Int} (h : liveLnRes ts l a ≠ []) : ∃ j, j < (liveRes ts l a).length ∧ isRefP (ts.getD ((liveRes ts l a).getD j 0).toNat 0) = true := by
  unfold liveLnRes at h
  split at h
  · rename_i hok
    obtain ⟨hval, k, rfl, hk⟩ := graphOk_one hok
    obtain ⟨y, hm⟩ := List.exists_mem_of_ne_nil _ h
    unfold liveLn at hm
    obtain ⟨e, he, hf, rfl⟩ := lst_mem.1 hm
    obtain ⟨p, v, hp, hv, ⟨i, hi, hn⟩, hs, hu, hfl⟩ := dec_iff.1 hf
    have hr := (hfl.loanOf (Good.of_valid hval)).2.2
    have hmem : ((v : Nat) : Int) ∈ liveRes ts l (k : Nat) := by
      unfold liveRes liveAt
      rw [if_pos hok]
      refine lst_mem.2 ⟨v, hv, ?_, rfl⟩
      rw [hp]
      exact List.any_eq_true.2 ⟨i, hi, dec_true hn⟩
    obtain ⟨j, hj, hje⟩ := List.getElem_of_mem hmem
    refine ⟨j, hj, ?_⟩
    rw [getD_lt hj, hje, Int.toNat_natCast]
    unfold typeOfP at hr
    rw [if_pos (by omega), Int.toNat_natCast] at hr
    exact hr
  · exact absurd rfl h
theorem live_in {ts : List Int} {l : List St} {a : Int} {j : Nat} (hj : j < (liveRes ts l a).length) : ∃ x : Nat, (liveRes ts l a).getD j 0 = x ∧ x < ts.length := by
  have hm : (liveRes ts l a).getD j 0 ∈ liveRes ts l a := by rw [getD_lt hj]; exact List.getElem_mem hj
  generalize (liveRes ts l a).getD j 0 = y at *
  unfold liveRes at hm
  split at hm
  · unfold liveAt at hm
    obtain ⟨x, hx, -, rfl⟩ := lst_mem.1 hm
    exact ⟨x, rfl, hx⟩
  · simp at hm

set_option maxHeartbeats 8000000
set_option maxRecDepth 100000
theorem fnLiveLoans_any (A : Option Addr) (n c : Nat) (w : World) (hb : Byt w w.heap.size A n) (hm : n ≤ maxLen) (hc : n ≤ c) :
    Calls Try.prog 13 #[.slice A n c] w (LawRet w) := by
  have HB := Lib.hid hb
  clear hb
  by_cases hn : n ≤ 1048576
  · go_enter Try.func13, Try.ntmps13
    go_wp2_with fail
    refine (drawLiveLoans_any A n c _ HB.out hn hc).mono ?_
    rintro e w1 ⟨vt, vb, ts, l, a, rfl, hit, hst, hts, hsz, hb1⟩
    have HP1 := Lib.hid (PgB.new hit hst hb1)
    obtain ⟨At, ct, rfl, hct⟩ := hit.slice
    obtain ⟨Ab, cb, rfl, hcb⟩ := hst.slice
    clear hit hst hb1
    go_wp2_with fail
    generalize w1.alloc (.cells #[.slice At ts.length ct, .slice Ab l.length cb] 26) = W1 at *
    obtain ⟨g, hg⟩ : ∃ g, g = w1.heap.size := ⟨_, rfl⟩
    rw [← hg] at HP1 ⊢
    clear hg
    refine (iLiveLoans_any _ _ ts l a _ _ HP1.out.ht HP1.out.hl (Nat.le_refl _) (by omega)).mono ?_
    rintro e w2 ⟨v2, rfl, hv2, hb2⟩
    have HV_2 := Lib.hid hv2
    clear hv2
    have HP2 := Lib.hid (HP1.out.bels hb2)
    have c0 := HP2.out.c0
    have c1 := HP2.out.c1
    clear hb2
    go_wp2_with (at_builtin; fail)
    refine (sLiveLoans_any _ _ ts l a _ _ HP2.out.ht HP2.out.hl (Nat.le_refl _) (by omega)).mono ?_
    rintro e w3 ⟨v3, rfl, hv3, hb3⟩
    have HS_3 := Lib.hid hv3
    clear hv3
    have HV_3 := Lib.hid (HV_2.out.bel hb3)
    have HP3 := Lib.hid (HP2.out.bels hb3)
    clear c0 c1
    have c0 := HP3.out.c0
    have c1 := HP3.out.c1
    clear hb3
    go_wp2_with (at_builtin; fail)
    refine (bcInts_any _ _ _ _ _ _ HV_3.out HS_3.out).mono ?_
    rintro e w4 ⟨rfl, n4, rfl⟩
    rw [show eqP (liveLnRes ts l a) (liveLnRes ts l a) = true by simp [eqP]]
    have hb4 := below_of_drewN (w := w3) ⟨n4, rfl⟩ w3.heap.size
    have HV_4 := Lib.hid (HV_3.out.bel hb4)
    have HS_4 := Lib.hid (HS_3.out.bel hb4)
    have HP4 := Lib.hid (HP3.out.bels hb4)
    clear c0 c1
    have c0 := HP4.out.c0
    have c1 := HP4.out.c1
    clear hb4
    generalize w3.drewN n4 = w4 at *
    have HMK := Lib.hid (fun h => live_ref (ts := ts) (l := l) (a := a) h)
    have HIN := Lib.hid (fun j hj => live_in (ts := ts) (l := l) (a := a) (j := j) hj)
    obtain ⟨R, hR⟩ : ∃ R, R = liveLnRes ts l a := ⟨_, rfl⟩
    have HRE := Lib.hid hR
    rw [← hR] at HV_4 HMK
    clear hR
    obtain ⟨A2, c2, rfl, hc2, hm2, -⟩ := HV_4.out
    by_cases hz : R.length = 0
    · rw [hz]
      go_wp2_with (at_builtin; fail)
      refine (sLiveLoans_any _ _ ts l a _ _ HP4.out.ht HP4.out.hl (Nat.le_refl _) (by omega)).mono ?_
      rintro e w5 ⟨v5, rfl, hv5, hb5⟩
      have HT_5 := Lib.hid hv5
      clear hv5
      have HV_5 := Lib.hid (HV_4.out.bel hb5)
      have HP5 := Lib.hid (HP4.out.bels hb5)
      clear c0 c1
      have c0 := HP5.out.c0
      have c1 := HP5.out.c1
      clear hb5
      rw [← HRE.out] at HT_5
      have HVZ := HV_5.out
      rw [hz] at HVZ
      go_wp2_with (at_builtin; fail)
      refine (bcInts_any _ _ _ _ _ _ HVZ HT_5.out).mono ?_
      rintro e w6 ⟨rfl, n6, rfl⟩
      rw [show eqP R R = true by simp [eqP]]
      have hb6 := below_of_drewN (w := w5) ⟨n6, rfl⟩ w5.heap.size
      have HV_6 := Lib.hid (HV_5.out.bel hb6)
      have HT_6 := Lib.hid (HT_5.out.bel hb6)
      have HP6 := Lib.hid (HP5.out.bels hb6)
      clear c0 c1
      have c0 := HP6.out.c0
      have c1 := HP6.out.c1
      clear hb6
      generalize w5.drewN n6 = w6 at *
      go_wp2_with (at_builtin; fail)
      go_ret
      exact ⟨rfl, HP6.out.bel⟩
    · obtain ⟨q0, hq0, hq1⟩ := HMK.out (fun h => hz (by rw [h]; rfl))
      have hz1 : ((R.length : Int) == 0) = false := by rw [beq_eq_false_iff_ne]; omega
      clear hz
      go_wp2_with (at_builtin; fail)
      refine (iLiveAfter_any _ _ ts l a _ _ HP4.out.ht HP4.out.hl (Nat.le_refl _) (by omega)).mono ?_
      rintro e w5 ⟨v5, rfl, hv5, hb5⟩
      have HF_5 := Lib.hid hv5
      clear hv5
      have HV_5 := Lib.hid (HV_4.out.bel hb5)
      have HP5 := Lib.hid (HP4.out.bels hb5)
      clear c0 c1
      have c0 := HP5.out.c0
      have c1 := HP5.out.c1
      clear hb5
      have HQ := Lib.hid hq1
      have HQ0 := Lib.hid hq0
      generalize liveRes ts l a = r at *
      obtain ⟨A7, c7, rfl, hc7, hm7, -⟩ := HF_5.out
      clear hq1
      go_wp2_with (at_builtin; fail)
      go_loopw [7] (fun i wr => ∃ j : Nat, j ≤ r.length ∧ i = .int .i64 j ∧ (∀ i, i < j → isRefP (ts.getD (r.getD i 0).toNat 0) = false) ∧ Below w5.heap.size w5 wr) (fun i _ => r.length - (intOf i).toNat)
      case atStart => exact ⟨0, Nat.zero_le _, rfl, fun i hi => absurd hi (Nat.not_lt_zero i), Below.refl _ _⟩
      case round =>
        obtain ⟨j, hj, rfl, hno, hbw⟩ := hrel
        have HNO := Lib.hid hno
        have HBW := Lib.hid hbw
        have HPW := Lib.hid (HP5.out.bels hbw)
        have hvw := HF_5.out.bel hbw
        clear hno hbw c0 c1
        have c0 := HPW.out.c0
        have hgl := HPW.out.lt
        by_cases hjl : j < r.length
        · obtain ⟨x, hxe, hx⟩ := HIN.out j hjl
          obtain ⟨A3, c3, e3, -, -, hr3⟩ := hvw
          injection e3 with e3 e9 e8
          subst e3 e8
          obtain ⟨b2, o2, rfl, hb2, hcell2⟩ := hr3.int_at hjl
          have d2 := hcell2 j hjl
          rw [hxe] at d2
          have HSU : Hid (isRefP (ts.getD x 0) = false → ∀ i, i < j + 1 → isRefP (ts.getD (r.getD i 0).toNat 0) = false) := Lib.hid fun h i hi => by
            by_cases hij : i < j
            · exact HNO.out i hij
            · obtain rfl : i = j := by omega
              rw [hxe, Int.toNat_natCast]; exact h
          obtain ⟨A6, c6, e6, -, -, hr6⟩ := HPW.out.ht
          injection e6 with e6 e7 e8
          subst e6 e8
          obtain ⟨b4, o4, rfl, hb4, hcell4⟩ := hr6.int_at hx
          have d4 := hcell4 x hx
          obtain ⟨tx, htx⟩ : ∃ tx, tx = ts.getD x 0 := ⟨_, rfl⟩
          rw [← htx] at d4 HSU
          clear hr3 hcell2 hr6 hcell4 e9 e7 hxe htx
          go_wp2_with (at_builtin; fail)
          refine wp_region_held_drew (S := (fun w' => w'.cell? ⟨g, 0, none⟩ = some (.slice (some ⟨b4, o4, none⟩) ts.length ct) ∧ w'.cell? ⟨b2, o2 + j, none⟩ = some (.int .i64 (x : Nat)) ∧ w'.cell? ⟨b4, o4 + x, none⟩ = some (.int .i64 tx))) (by kernel_rfl) ?_ (fun hHeld => ?_)
          · exact ⟨c0, d2, d4⟩
          refine wpAnyH_take (i := 0) (oi := ⟨some 44, _, _, _, _, _⟩) (v := ?_) rfl (by kernel_rfl) (by kernel_rfl) (by kernel_rfl) (fun _ _ _ h => h) (Or.inl ⟨by rfl, fun w' hSw => ?_⟩) (by assumption) ?_
          rotate_left
          · (try dsimp only at hSw); go_simp; (try with_reducible rfl)
          (try simp only [Act.put, List.setIfInBounds_toArray, List.set_cons_zero, List.set_cons_succ])
          refine wpAnyH_take (i := 1) (oi := ⟨some 45, _, _, _, _, _⟩) (v := ?_) rfl (by kernel_rfl) (by kernel_rfl) (by kernel_rfl) (fun _ _ _ h => h) (Or.inl ⟨by rfl, fun w' hSw => ?_⟩) (by assumption) ?_
          rotate_left
          · (try dsimp only at hSw); go_simp; (try with_reducible rfl)
          (try simp only [Act.put, List.setIfInBounds_toArray, List.set_cons_zero, List.set_cons_succ])
          refine wpAnyH_take (i := 2) (oi := ⟨some 46, _, _, _, _, _⟩) (v := ?_) rfl (by kernel_rfl) (by kernel_rfl) (by kernel_rfl) (fun _ _ _ h => h) (Or.inl ⟨by rfl, fun w' hSw => ?_⟩) (by assumption) ?_
          rotate_left
          · (try dsimp only at hSw); go_simp; (try with_reducible rfl)
          (try simp only [Act.put, List.setIfInBounds_toArray, List.set_cons_zero, List.set_cons_succ])
          refine wpAnyH_take (i := 3) (oi := ⟨some 47, _, _, _, _, _⟩) (v := ?_) rfl (by kernel_rfl) (by kernel_rfl) (by kernel_rfl) (fun _ _ _ h => h) (Or.inl ⟨by rfl, fun w' hSw => ?_⟩) (by assumption) ?_
          rotate_left
          · (try dsimp only at hSw); go_simp; (try with_reducible rfl)
          (try simp only [Act.put, List.setIfInBounds_toArray, List.set_cons_zero, List.set_cons_succ])
          refine wpAnyH_take (i := 4) (oi := ⟨some 48, _, _, _, _, _⟩) (v := ?_) rfl (by kernel_rfl) (by kernel_rfl) (by kernel_rfl) (fun _ _ _ h => h) (Or.inl ⟨by rfl, fun w' hSw => ?_⟩) (by assumption) ?_
          rotate_left
          · (try dsimp only at hSw); go_simp; (try with_reducible rfl)
          (try simp only [Act.put, List.setIfInBounds_toArray, List.set_cons_zero, List.set_cons_succ])
          refine wpAnyH_take (i := 5) (oi := ⟨some 49, _, _, _, _, _⟩) (v := ?_) rfl (by kernel_rfl) (by kernel_rfl) (by kernel_rfl) (fun _ _ _ h => h) (Or.inl ⟨by rfl, fun w' hSw => ?_⟩) (by assumption) ?_
          rotate_left
          · (try dsimp only at hSw); go_simp; (try with_reducible rfl)
          (try simp only [Act.put, List.setIfInBounds_toArray, List.set_cons_zero, List.set_cons_succ])
          refine wpAnyH_take (i := 6) (oi := ⟨some 50, _, _, _, _, _⟩) (v := ?_) rfl (by kernel_rfl) (by kernel_rfl) (by kernel_rfl) (fun _ _ _ h => h) (Or.inl ⟨by rfl, fun w' hSw => ?_⟩) (by assumption) ?_
          rotate_left
          · (try dsimp only at hSw); go_simp; (try with_reducible rfl)
          (try simp only [Act.put, List.setIfInBounds_toArray, List.set_cons_zero, List.set_cons_succ])
          refine wpAnyH_take (i := 7) (oi := ⟨some 51, _, _, _, _, _⟩) (v := ?_) rfl (by kernel_rfl) (by kernel_rfl) (by kernel_rfl) (fun _ _ _ h => h) (Or.inl ⟨by rfl, fun w' hSw => ?_⟩) (by assumption) ?_
          rotate_left
          · (try dsimp only at hSw); go_simp; (try with_reducible rfl)
          (try simp only [Act.put, List.setIfInBounds_toArray, List.set_cons_zero, List.set_cons_succ])
          refine wpAnyH_ready (rs := [8]) (by kernel_rfl) (by simp) ?_
          refine AllReadyH.cons (o := ⟨some 52, _, _, _, _, _⟩) rfl (fun K hK => ?_) AllReadyH.nil
          go_simp
          (refine (isRef_any _ _).mono ?_)
          (rintro e w8 ⟨rfl, rfl⟩)
          go_simp
          refine hK.out _ _ ?_ (fun hHeld => ?_)
          · exact ⟨c0, d2, d4⟩
          clear hK K
          (try simp only [Act.put, List.setIfInBounds_toArray, List.set_cons_zero, List.set_cons_succ])
          refine wpAnyH_done (by kernel_rfl) ?_ _
          cases hrf : isRefP tx
          · have HEND := Lib.hid (HSU.out hrf)
            clear hrf
            go_wp2_with (at_builtin; fail)
            exact ⟨⟨j + 1, by omega, by go_num, HEND.out, HBW.out.drew⟩, by simp [intOf] <;> omega⟩
          · clear hrf
            go_wp2_with (at_builtin; fail)
            go_ret
            exact ⟨rfl, HPW.out.bel.trans ((Below.refl _ _).drew.mono HPW.out.bel.size)⟩
        · exact absurd (HNO.out q0 (by have := HQ0.out; omega)) (by rw [HQ.out]; simp)
  · have hn1 : (1048576 : Int) < n := by omega
    unfold maxLen at hm
    go_enter Try.func13, Try.ntmps13
    go_wp2_with fail
    go_ret
    exact ⟨rfl, Below.refl _ _⟩

end Go.Proofs.Ytmaaaiccmllnlaa
