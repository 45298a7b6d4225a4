import Derived.Test.YteaddodjijlpjaaG25
import Derived.Test.YteaddodjijlpjaaG29
import Derived.Test.YteaddodjijlpjaaG35
import Derived.Test.YteaddodjijlpjaaG37
import Derived.Test.YteaddodjijlpjaaG09
import Derived.Test.YteaddodjijlpjaaG10
import Derived.Test.YteaddodjijlpjaaG38
import Derived.Test.YteaddodjijlpjaaG24
import Derived.Test.YteaddodjijlpjaaG34
set_option linter.unusedVariables false

/- FnSettersOf: the plain law, the walk. -/
namespace Go.Proofs.Yteaddodjijlpjaa
open Go.RowKit

theorem graphOk_at {ts : List Int} {l : List St} {k : Nat} (hv : validP ts l = true) (hk : k < (ptsP l).length) : graphOk ts l [((k : Nat) : Int)] = true := by
  simp only [graphOk, hv, Bool.true_and, List.all_cons, List.all_nil, Bool.and_true, withinP, Bool.and_eq_true, decide_eq_true_eq]; omega
theorem setters_of {ts : List Int} {l : List St} {a v : Int} {j : Nat} (hj : j < (flRes ts l Gset Cset a v).length) : setRes ts l ((flRes ts l Gset Cset a v).getD j 0) = v ∧ hasP (toRes l ts a) ((flRes ts l Gset Cset a v).getD j 0) = true := by
  have hm : (flRes ts l Gset Cset a v).getD j 0 ∈ flRes ts l Gset Cset a v := by rw [getD_lt hj]; exact List.getElem_mem hj
  generalize (flRes ts l Gset Cset a v).getD j 0 = y at *
  unfold flRes at hm
  split at hm
  · rename_i hok
    have hv : 0 ≤ v ∧ v < ts.length := by have := hok.2; simp [withinP] at this; omega
    have hval := (graphOk_one hok.1).1
    unfold flS at hm
    obtain ⟨k, hk, hf, rfl⟩ := lst_mem.1 hm
    obtain ⟨⟨p, hp, hs⟩, hl⟩ := (dec_iff.1 hf).setter
    constructor
    · unfold setRes
      rw [if_pos (graphOk_at hval hk), ptAt_nat hk]
      rw [List.getElem?_eq_getElem hk] at hp
      injection hp with hp
      rw [hp]; omega
    · unfold toRes
      rw [if_pos hok.1, lst_has, decide_eq_true hk, Bool.true_and]
      exact dec_true hl
  · simp at hm
theorem setters_len (ts : List Int) (l : List St) (a v : Int) : hasP (maybeRes ts l a) v = decide ((0 : Int) < (flRes ts l Gset Cset a v).length) := by
  rw [Bool.eq_iff_iff, decide_eq_true_eq]
  constructor
  · intro h
    unfold maybeRes at h
    split at h
    · rename_i hok
      have hval := (graphOk_one hok).1
      unfold maybeAt at h
      obtain ⟨x, hx, hf, rfl⟩ := lst_mem.1 ((hasP_iff _ _).1 h)
      obtain ⟨e, he⟩ := maybe_Fl (dec_iff.1 hf)
      obtain ⟨⟨p, hp, -⟩, -⟩ := he.setter
      have hel : e < (ptsP l).length := (List.getElem?_eq_some_iff.1 hp).1
      have hmem : ((e : Nat) : Int) ∈ flRes ts l Gset Cset a (x : Nat) := by
        unfold flRes
        rw [if_pos ⟨hok, by simp [withinP]; omega⟩]
        unfold flS
        exact lst_mem.2 ⟨e, hel, dec_true (by simpa using he), rfl⟩
      have := List.length_pos_of_mem hmem
      omega
    · simp [hasP] at h
  · intro h
    obtain ⟨y, hm⟩ := List.exists_mem_of_length_pos (show 0 < (flRes ts l Gset Cset a v).length by omega)
    unfold flRes at hm
    split at hm
    · rename_i hok
      have hv : 0 ≤ v ∧ v < ts.length := by have := hok.2; simp [withinP] at this; omega
      unfold flS at hm
      obtain ⟨e, he, hf, rfl⟩ := lst_mem.1 hm
      have := (dec_iff.1 hf).maybe
      unfold maybeRes maybeAt
      rw [if_pos hok.1, show v = ((v.toNat : Nat) : Int) by omega, lst_has, decide_eq_true (by omega), Bool.true_and]
      exact dec_true this
    · simp at hm

set_option maxHeartbeats 8000000
set_option maxRecDepth 100000
theorem fnSettersOf_any (A : Option Addr) (n c : Nat) (w : World) (hb : Byt w w.heap.size A n) (hm : n ≤ maxLen) (hc : n ≤ c) :
    Calls Try.prog 10 #[.slice A n c] w (LawRet w) := by
  have HB := Lib.hid hb
  clear hb
  by_cases hn : n ≤ 1048576
  · go_enter Try.func10, Try.ntmps10
    go_wp2_with fail
    refine (drawSettersOf_any A n c _ HB.out hn hc).mono ?_
    rintro e w1 ⟨vt, vb, ts, l, a, v, rfl, hit, hst, hts, hsz, hb1⟩
    have HP1 := Lib.hid (PgB.new hit hst hb1)
    obtain ⟨At, ct, rfl, hct⟩ := hit.slice
    obtain ⟨Ab, cb, rfl, hcb⟩ := hst.slice
    clear hit hst hb1
    go_wp2_with fail
    generalize w1.alloc (.cells #[.slice At ts.length ct, .slice Ab l.length cb] 26) = W1 at *
    obtain ⟨g, hg⟩ : ∃ g, g = w1.heap.size := ⟨_, rfl⟩
    rw [← hg] at HP1 ⊢
    clear hg
    refine (iSettersOf_any _ _ ts l a v _ _ HP1.out.ht HP1.out.hl (Nat.le_refl _) (by omega)).mono ?_
    rintro e w2 ⟨v2, rfl, hv2, hb2⟩
    have HV_2 := Lib.hid hv2
    clear hv2
    have HP2 := Lib.hid (HP1.out.bels hb2)
    have c0 := HP2.out.c0
    have c1 := HP2.out.c1
    clear hb2
    go_wp2_with (at_builtin; fail)
    refine (sSettersOf_any _ _ ts l a v _ _ HP2.out.ht HP2.out.hl (Nat.le_refl _) (by omega)).mono ?_
    rintro e w3 ⟨v3, rfl, hv3, hb3⟩
    have HS_3 := Lib.hid hv3
    clear hv3
    have HV_3 := Lib.hid (HV_2.out.bel hb3)
    have HP3 := Lib.hid (HP2.out.bels hb3)
    clear c0 c1
    have c0 := HP3.out.c0
    have c1 := HP3.out.c1
    clear hb3
    go_wp2_with fail
    refine (bcInts_any _ _ _ _ _ _ HV_3.out HS_3.out).mono ?_
    rintro e w4 ⟨rfl, n4, rfl⟩
    rw [show eqP (flRes ts l Gset Cset a v) (flRes ts l Gset Cset a v) = true by simp [eqP]]
    have hb4 := below_of_drewN (w := w3) ⟨n4, rfl⟩ w3.heap.size
    have HV_4 := Lib.hid (HV_3.out.bel hb4)
    have HS_4 := Lib.hid (HS_3.out.bel hb4)
    have HP4 := Lib.hid (HP3.out.bels hb4)
    clear c0 c1
    have c0 := HP4.out.c0
    have c1 := HP4.out.c1
    clear hb4
    generalize w3.drewN n4 = w4 at *
    have HMK := Lib.hid (fun j hj => setters_of (ts := ts) (l := l) (a := a) (v := v) (j := j) hj)
    have HLE := Lib.hid (setters_len ts l a v)
    generalize flRes ts l Gset Cset a v = r at *
    obtain ⟨A2, c2, rfl, hc2, hm2, -⟩ := HV_4.out
    go_wp2_with (at_builtin; fail)
    go_loopw [7] (fun i wr => ∃ j : Nat, j ≤ r.length ∧ i = .int .i64 j ∧ Below w4.heap.size w4 wr) (fun i _ => r.length - (intOf i).toNat)
    case atStart => exact ⟨0, Nat.zero_le _, rfl, Below.refl _ _⟩
    case round =>
      obtain ⟨j, hj, rfl, hbw⟩ := hrel
      have HBW := Lib.hid hbw
      have HPW := Lib.hid (HP4.out.bels hbw)
      have hvw := HV_4.out.bel hbw
      clear hbw c0 c1
      have c0 := HPW.out.c0
      have c1 := HPW.out.c1
      have hgl := HPW.out.lt
      by_cases hjl : j < r.length
      · obtain ⟨hs1, hs2⟩ := HMK.out j hjl
        obtain ⟨A3, c3, e3, -, -, hr3⟩ := hvw
        injection e3 with e3 e9 e8
        subst e3 e8
        obtain ⟨b2, o2, rfl, hb2, hcell2⟩ := hr3.int_at hjl
        have d2 := hcell2 j hjl
        generalize r.getD j 0 = y at *
        have HS1 := Lib.hid hs1
        have HS2 := Lib.hid hs2
        have hvv : (v != v) = false := by simp
        have BEL : Hid (∀ w', w'.cell? ⟨g, 0, none⟩ = some (.slice At ts.length ct) ∧ w'.cell? ⟨g, 1, none⟩ = some (.slice Ab l.length cb) ∧ w'.cell? ⟨b2, o2 + j, none⟩ = some (.int .i64 y) ∧ Below wr.heap.size wr w' → Below wr.heap.size wr w') := Lib.hid fun _ h => h.2.2.2
        clear e9 hs1 hs2 hr3 hcell2
        go_wp2_with (at_builtin; fail)
        refine wp_region_held_drew (S := (fun w' => w'.cell? ⟨g, 0, none⟩ = some (.slice At ts.length ct) ∧ w'.cell? ⟨g, 1, none⟩ = some (.slice Ab l.length cb) ∧ w'.cell? ⟨b2, o2 + j, none⟩ = some (.int .i64 y) ∧ Below wr.heap.size wr w')) (by kernel_rfl) ?_ (fun hHeld => ?_)
        · exact ⟨c0, c1, d2, (Below.refl _ _).drew⟩
        refine wpAnyH_take (i := 0) (oi := ⟨some 34, _, _, _, _, _⟩) (v := ?_) rfl (by kernel_rfl) (by kernel_rfl) (by kernel_rfl) (fun _ _ _ h => h) (Or.inl ⟨by rfl, fun w' hSw => ?_⟩) (by assumption) ?_
        rotate_left
        · (try dsimp only at hSw); go_simp; (try with_reducible rfl)
        (try simp only [Act.put, List.setIfInBounds_toArray, List.set_cons_zero, List.set_cons_succ])
        refine wpAnyH_take (i := 1) (oi := ⟨some 35, _, _, _, _, _⟩) (v := ?_) rfl (by kernel_rfl) (by kernel_rfl) (by kernel_rfl) (fun _ _ _ h => h) (Or.inl ⟨by rfl, fun w' hSw => ?_⟩) (by assumption) ?_
        rotate_left
        · (try dsimp only at hSw); go_simp; (try with_reducible rfl)
        (try simp only [Act.put, List.setIfInBounds_toArray, List.set_cons_zero, List.set_cons_succ])
        refine wpAnyH_take (i := 2) (oi := ⟨some 36, _, _, _, _, _⟩) (v := ?_) rfl (by kernel_rfl) (by kernel_rfl) (by kernel_rfl) (fun _ _ _ h => h) (Or.inl ⟨by rfl, fun w' hSw => ?_⟩) (by assumption) ?_
        rotate_left
        · (try dsimp only at hSw); go_simp; (try with_reducible rfl)
        (try simp only [Act.put, List.setIfInBounds_toArray, List.set_cons_zero, List.set_cons_succ])
        refine wpAnyH_take (i := 3) (oi := ⟨some 37, _, _, _, _, _⟩) (v := ?_) rfl (by kernel_rfl) (by kernel_rfl) (by kernel_rfl) (fun _ _ _ h => h) (Or.inl ⟨by rfl, fun w' hSw => ?_⟩) (by assumption) ?_
        rotate_left
        · (try dsimp only at hSw); go_simp; (try with_reducible rfl)
        (try simp only [Act.put, List.setIfInBounds_toArray, List.set_cons_zero, List.set_cons_succ])
        refine wpAnyH_take (i := 4) (oi := ⟨some 38, _, _, _, _, _⟩) (v := ?_) rfl (by kernel_rfl) (by kernel_rfl) (by kernel_rfl) (fun _ _ _ h => h) (Or.inl ⟨by rfl, fun w' hSw => ?_⟩) (by assumption) ?_
        rotate_left
        · (try dsimp only at hSw); go_simp; (try with_reducible rfl)
        (try simp only [Act.put, List.setIfInBounds_toArray, List.set_cons_zero, List.set_cons_succ])
        refine wpAnyH_take (i := 6) (oi := ⟨some 40, _, _, _, _, _⟩) (v := ?_) rfl (by kernel_rfl) (by kernel_rfl) (by kernel_rfl) (fun _ _ _ h => h) (Or.inl ⟨by rfl, fun w' hSw => ?_⟩) (by assumption) ?_
        rotate_left
        · (try dsimp only at hSw); go_simp; (try with_reducible rfl)
        (try simp only [Act.put, List.setIfInBounds_toArray, List.set_cons_zero, List.set_cons_succ])
        refine wpAnyH_ready (rs := [5]) (by kernel_rfl) (by simp) ?_
        refine AllReadyH.cons (o := ⟨some 39, _, _, _, _, _⟩) rfl (fun K hK => ?_) AllReadyH.nil
        go_simp
        (refine (iSetBy_any (.slice At ts.length ct) (.slice Ab l.length cb) ts l y _ _ (HPW.out.ht.low (BEL.out _ (by assumption)) (Nat.le_refl _)) (HPW.out.hl.low (BEL.out _ (by assumption)) (Nat.le_refl _)) (BEL.out _ (by assumption)).size (by omega)).mono ?_)
        (rintro e w7 ⟨rfl, hb7⟩)
        (have BX7 := Lib.hid ((BEL.out _ (by assumption)).trans (hb7.mono (BEL.out _ (by assumption)).size)))
        (rw [HS1.out])
        clear hb7
        go_simp
        refine hK.out _ _ ?_ (fun hHeld => ?_)
        · exact ⟨belC BX7.out c0 hgl, belC BX7.out c1 hgl, belC BX7.out d2 hb2, BX7.out⟩
        clear hK K
        (try simp only [Act.put, List.setIfInBounds_toArray, List.set_cons_zero, List.set_cons_succ])
        refine wpAnyH_take (i := 7) (oi := ⟨some 41, _, _, _, _, _⟩) (v := ?_) rfl (by kernel_rfl) (by kernel_rfl) (by kernel_rfl) (fun _ _ _ h => h) (Or.inl ⟨by rfl, fun w' hSw => ?_⟩) (by assumption) ?_
        rotate_left
        · (try dsimp only at hSw); go_simp; (try with_reducible rfl)
        (try simp only [Act.put, List.setIfInBounds_toArray, List.set_cons_zero, List.set_cons_succ])
        refine wpAnyH_take (i := 8) (oi := ⟨some 42, _, _, _, _, _⟩) (v := ?_) rfl (by kernel_rfl) (by kernel_rfl) (by kernel_rfl) (fun _ _ _ h => h) (Or.inl ⟨by rfl, fun w' hSw => ?_⟩) (by assumption) ?_
        rotate_left
        · (try dsimp only at hSw); go_simp; (try with_reducible rfl)
        (try simp only [Act.put, List.setIfInBounds_toArray, List.set_cons_zero, List.set_cons_succ])
        refine wpAnyH_take (i := 9) (oi := ⟨some 43, _, _, _, _, _⟩) (v := ?_) rfl (by kernel_rfl) (by kernel_rfl) (by kernel_rfl) (fun _ _ _ h => h) (Or.inl ⟨by rfl, fun w' hSw => ?_⟩) (by assumption) ?_
        rotate_left
        · (try dsimp only at hSw); go_simp; (try with_reducible rfl)
        (try simp only [Act.put, List.setIfInBounds_toArray, List.set_cons_zero, List.set_cons_succ])
        refine wpAnyH_take (i := 10) (oi := ⟨some 44, _, _, _, _, _⟩) (v := ?_) rfl (by kernel_rfl) (by kernel_rfl) (by kernel_rfl) (fun _ _ _ h => h) (Or.inl ⟨by rfl, fun w' hSw => ?_⟩) (by assumption) ?_
        rotate_left
        · (try dsimp only at hSw); go_simp; (try with_reducible rfl)
        (try simp only [Act.put, List.setIfInBounds_toArray, List.set_cons_zero, List.set_cons_succ])
        refine wpAnyH_take (i := 12) (oi := ⟨some 46, _, _, _, _, _⟩) (v := ?_) rfl (by kernel_rfl) (by kernel_rfl) (by kernel_rfl) (fun _ _ _ h => h) (Or.inl ⟨by rfl, fun w' hSw => ?_⟩) (by assumption) ?_
        rotate_left
        · (try dsimp only at hSw); go_simp; (try with_reducible rfl)
        (try simp only [Act.put, List.setIfInBounds_toArray, List.set_cons_zero, List.set_cons_succ])
        refine wpAnyH_take (i := 13) (oi := ⟨some 47, _, _, _, _, _⟩) (v := ?_) rfl (by kernel_rfl) (by kernel_rfl) (by kernel_rfl) (fun _ _ _ h => h) (Or.inl ⟨by rfl, fun w' hSw => ?_⟩) (by assumption) ?_
        rotate_left
        · (try dsimp only at hSw); go_simp; (try with_reducible rfl)
        (try simp only [Act.put, List.setIfInBounds_toArray, List.set_cons_zero, List.set_cons_succ])
        refine wpAnyH_take (i := 14) (oi := ⟨some 48, _, _, _, _, _⟩) (v := ?_) rfl (by kernel_rfl) (by kernel_rfl) (by kernel_rfl) (fun _ _ _ h => h) (Or.inl ⟨by rfl, fun w' hSw => ?_⟩) (by assumption) ?_
        rotate_left
        · (try dsimp only at hSw); go_simp; (try with_reducible rfl)
        (try simp only [Act.put, List.setIfInBounds_toArray, List.set_cons_zero, List.set_cons_succ])
        refine wpAnyH_take (i := 15) (oi := ⟨some 49, _, _, _, _, _⟩) (v := ?_) rfl (by kernel_rfl) (by kernel_rfl) (by kernel_rfl) (fun _ _ _ h => h) (Or.inl ⟨by rfl, fun w' hSw => ?_⟩) (by assumption) ?_
        rotate_left
        · (try dsimp only at hSw); go_simp; (try with_reducible rfl)
        (try simp only [Act.put, List.setIfInBounds_toArray, List.set_cons_zero, List.set_cons_succ])
        refine wpAnyH_ready (rs := [11]) (by kernel_rfl) (by simp) ?_
        refine AllReadyH.cons (o := ⟨some 45, _, _, _, _, _⟩) rfl (fun K hK => ?_) AllReadyH.nil
        go_simp
        (refine (iPathsTo_any (.slice At ts.length ct) (.slice Ab l.length cb) ts l a _ _ (HPW.out.ht.low BX7.out (Nat.le_refl _)) (HPW.out.hl.low BX7.out (Nat.le_refl _)) BX7.out.size (by omega)).mono ?_)
        (rintro e w8 ⟨v8, rfl, hv8, hb8⟩)
        (have BX8 := Lib.hid (BX7.out.trans (hb8.mono BX7.out.size)))
        (have HV8 := Lib.hid hv8)
        clear hv8 hb8
        go_simp
        refine hK.out _ _ ?_ (fun hHeld => ?_)
        · exact ⟨belC BX8.out c0 hgl, belC BX8.out c1 hgl, belC BX8.out d2 hb2, BX8.out⟩
        clear hK K
        (try simp only [Act.put, List.setIfInBounds_toArray, List.set_cons_zero, List.set_cons_succ])
        refine wpAnyH_ready (rs := [16]) (by kernel_rfl) (by simp) ?_
        refine AllReadyH.cons (o := ⟨some 50, _, _, _, _, _⟩) rfl (fun K hK => ?_) AllReadyH.nil
        go_simp
        (refine (bcIn_any _ _ _ _ _ HV8.out).mono ?_)
        (rintro e w9 ⟨rfl, rfl⟩)
        (rw [HS2.out])
        go_simp
        refine hK.out _ _ ?_ (fun hHeld => ?_)
        · exact ⟨belC BX8.out c0 hgl, belC BX8.out c1 hgl, belC BX8.out d2 hb2, BX8.out⟩
        clear hK K
        (try simp only [Act.put, List.setIfInBounds_toArray, List.set_cons_zero, List.set_cons_succ])
        refine wpAnyH_take (i := 17) (oi := ⟨some 51, _, _, _, _, _⟩) (v := ?_) rfl (by kernel_rfl) (by kernel_rfl) (by kernel_rfl) (fun _ _ _ h => h) (Or.inl ⟨by rfl, fun w' hSw => ?_⟩) (by assumption) ?_
        rotate_left
        · (try dsimp only at hSw); go_simp; (try with_reducible rfl)
        (try simp only [Act.put, List.setIfInBounds_toArray, List.set_cons_zero, List.set_cons_succ])
        refine wpAnyH_take (i := 18) (oi := ⟨some 52, _, _, _, _, _⟩) (v := ?_) rfl (by kernel_rfl) (by kernel_rfl) (by kernel_rfl) (fun _ _ _ h => h) (Or.inl ⟨by rfl, fun w' hSw => ?_⟩) (by assumption) ?_
        rotate_left
        · (try dsimp only at hSw); go_simp; (try with_reducible rfl)
        (try simp only [Act.put, List.setIfInBounds_toArray, List.set_cons_zero, List.set_cons_succ])
        refine wpAnyH_done (by kernel_rfl) ?_ _
        go_wp2_with fail
        exact ⟨⟨j + 1, by omega, by go_num, HBW.out.trans (BX8.out.mono HBW.out.size)⟩, by simp [intOf] <;> omega⟩
      · clear hvw
        go_wp2_with (at_builtin; fail)
        refine (iMaybeSet_any _ _ ts l a _ _ HPW.out.ht HPW.out.hl (Nat.le_refl _) (by omega)).mono ?_
        rintro e w8 ⟨v8, rfl, hv8, hb8⟩
        have HV8 := Lib.hid hv8
        have HP8 := Lib.hid (HPW.out.bels hb8)
        clear hv8 hb8 c0 c1
        go_wp2_with (at_builtin; fail)
        refine (bcIn_any _ _ _ _ _ HV8.out).mono ?_
        rintro e w9 ⟨rfl, rfl⟩
        rw [HLE.out]
        by_cases hd : 0 < r.length
        · have hd1 : (decide ((0 : Int) < (r.length : Nat))) = true := by simpa using hd
          rw [hd1]
          go_wp2_with (at_builtin; fail)
          go_ret
          exact ⟨rfl, HP8.out.bel⟩
        · have hd1 : (decide ((0 : Int) < (r.length : Nat))) = false := by simpa using hd
          rw [hd1]
          go_wp2_with (at_builtin; fail)
          go_ret
          exact ⟨rfl, HP8.out.bel⟩
  · have hn1 : (1048576 : Int) < n := by omega
    unfold maxLen at hm
    go_enter Try.func10, Try.ntmps10
    go_wp2_with fail
    go_ret
    exact ⟨rfl, Below.refl _ _⟩

end Go.Proofs.Yteaddodjijlpjaa
