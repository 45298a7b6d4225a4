import Derived.Test.YtidlifijgooceaaH28
import Derived.Test.YtidlifijgooceaaH29
import Derived.Test.YtidlifijgooceaaH40
import Derived.Test.YtidlifijgooceaaH34
set_option linter.unusedVariables false

/- FnSequenceOf: the walk. -/
namespace Go.Proofs.Ytidlifijgooceaa
open Go.RowKit

theorem cat_parts {ts ts' : List Int} {a b : List St} (h : catOk ts ts' a b = true) : validP ts a = true ∧ validP ts b = true ∧ ts' = ts ∧ validP ts (a ++ b) = true := by
  unfold catOk at h
  rw [Bool.and_eq_true, Bool.and_eq_true, Bool.and_eq_true] at h
  obtain ⟨h1, h2, h3, h4⟩ := h
  have e : ts = ts' := by simpa [eqP] using h3
  subst e
  exact ⟨h1, h2, rfl, h4⟩
theorem pointsP_valid {ts : List Int} {l : List St} (h : validP ts l = true) : pointsP ts l = ptsP l := if_pos h
theorem acc_cat {ts : List Int} {a b : List St} (ha : validP ts a = true) (hab : validP ts (a ++ b) = true) (h : (chkRes ts (a ++ b)).length = 0) : (chkRes ts a).length = 0 := by
  unfold chkRes at *
  rw [if_pos hab] at h
  rw [if_pos ha]
  have := chkL_cat ts a b
  omega
set_option maxHeartbeats 8000000
set_option maxRecDepth 100000
theorem fnSequenceOf_any (A : Option Addr) (n c : Nat) (w : World) (hb : Byt w w.heap.size A n) (hm : n ≤ maxLen) (hc : n ≤ c) :
    Calls Try.prog 6 #[.slice A n c] w (LawRet w) := by
  have HB := Lib.hid hb
  clear hb
  by_cases hn : n ≤ 1048576
  · go_enter Try.func6, Try.ntmps6
    go_wp2_with (at_builtin; fail)
    refine (drawSequenceOf_any A n c _ HB.out hn hc).mono ?_
    rintro e w1 ⟨vt, vb, vt', vb', ts, ts', la, lb, rfl, hit, hst, hit', hst', hts, hts', hsz, hsz', hb1⟩
    have hA1 := bel_a w1 (.cells #[vt, vb] 26)
    have hB1 := bel_a (w1.alloc (.cells #[vt, vb] 26)) (.cells #[vt', vb'] 26)
    have HP1 := Lib.hid ((PgB.new hit hst hb1).bels hB1)
    have HQ1 := Lib.hid (PgB.ofS ((hb1.trans (hA1.mono hb1.size))) (hit'.toS.bel hA1) (((hst'.toS).low hA1 (Nat.le_refl _)).more hA1.size))
    have hz1 : (w1.alloc (.cells #[vt, vb] 26)).heap.size = w1.heap.size + 1 := by simp
    rw [hz1] at HQ1
    obtain ⟨At, ct, rfl, hct⟩ := hit.slice
    obtain ⟨Ab, cb, rfl, hcb⟩ := hst.slice
    obtain ⟨Au, cu, rfl, hcu⟩ := hit'.slice
    obtain ⟨Av, cv, rfl, hcv⟩ := hst'.slice
    clear hit hst hit' hst' hb1 hA1 hB1 hz1
    go_upto_region 4 with (at_builtin; fail)
    generalize (w1.alloc (.cells #[.slice At ts.length ct, .slice Ab la.length cb] 26)).alloc (.cells #[.slice Au ts'.length cu, .slice Av lb.length cv] 26) = W1 at *
    obtain ⟨ga, hga⟩ : ∃ ga, ga = w1.heap.size := ⟨_, rfl⟩
    obtain ⟨gb, hgb⟩ : ∃ gb, gb = w1.heap.size + 1 := ⟨_, rfl⟩
    rw [← hga] at HP1
    rw [← hgb] at HQ1
    rw [← hgb, ← hga]
    clear hga hgb
    have a0 := HP1.out.c0
    have a1 := HP1.out.c1
    have b0 := HQ1.out.c0
    have b1 := HQ1.out.c1
    obtain ⟨tz, HTZ⟩ : ∃ tz, Hid (tz = if catOk ts ts' la lb then ts else []) := ⟨_, Lib.hid rfl⟩
    obtain ⟨lz, HLZ⟩ : ∃ lz, Hid (lz = if catOk ts ts' la lb then la ++ lb else []) := ⟨_, Lib.hid rfl⟩
    have HSZ : Hid (szL lz ≤ szL la + szL lb) := Lib.hid (by
      rw [HLZ.out]
      split
      · rw [szL_append]; exact Nat.le_refl _
      · simp [szL])
    go_wp2_with (at_builtin; fail)
    refine (iSequenceOf_any _ _ _ _ ts ts' la lb _ W1 HP1.out.ht HP1.out.hl HQ1.out.ht HQ1.out.hl (Nat.le_refl _) (by omega) (by omega)).mono ?_
    rintro e w2 ⟨vs, us, rfl, his, hss, hb2⟩
    rw [← HTZ.out] at his
    rw [← HLZ.out] at hss
    have hA2 := bel_a w2 (.cells #[vs, us] 26)
    have HP2 := Lib.hid ((HP1.out.bels hb2).bels hA2)
    have HQ2 := Lib.hid ((HQ1.out.bels hb2).bels hA2)
    have HS2 := Lib.hid (PgB.ofS (HP1.out.bels hb2).bel his hss)
    obtain ⟨As, cs, rfl, -, -, -⟩ := id his
    obtain ⟨Bs, ds, rfl, -⟩ := hss.slice
    clear his hss hb2 hA2 a0 a1 b0 b1
    go_upto_region 5 with (at_builtin; fail)
    generalize w2.alloc (.cells #[.slice As tz.length cs, .slice Bs lz.length ds] 26) = W2 at *
    obtain ⟨gs, hgs⟩ : ∃ gs, gs = w2.heap.size := ⟨_, rfl⟩
    rw [← hgs] at HS2
    rw [← hgs]
    clear hgs
    have a0 := HP2.out.c0
    have a1 := HP2.out.c1
    have b0 := HQ2.out.c0
    have b1 := HQ2.out.c1
    go_wp2_with (at_builtin; fail)
    refine (sSequenceOf_any _ _ _ _ ts ts' la lb _ W2 HP2.out.ht HP2.out.hl HQ2.out.ht HQ2.out.hl (Nat.le_refl _) (by omega) (by omega)).mono ?_
    rintro e w3 ⟨vx, ux, rfl, hix, hsx, hb3⟩
    rw [← HTZ.out] at hix
    rw [← HLZ.out] at hsx
    have hA3 := bel_a w3 (.cells #[vx, ux] 26)
    have HP3 := Lib.hid ((HP2.out.bels hb3).bels hA3)
    have HQ3 := Lib.hid ((HQ2.out.bels hb3).bels hA3)
    have HS3 := Lib.hid ((HS2.out.bels hb3).bels hA3)
    have HX3 := Lib.hid (PgB.ofS (HP2.out.bels hb3).bel hix hsx)
    obtain ⟨Ax, cx, rfl, -, -, -⟩ := id hix
    obtain ⟨Bx, dx, rfl, -⟩ := hsx.slice
    clear hix hsx hb3 hA3 a0 a1 b0 b1
    go_upto_region 6 with (at_builtin; fail)
    generalize w3.alloc (.cells #[.slice Ax tz.length cx, .slice Bx lz.length dx] 26) = W3 at *
    obtain ⟨gx, hgx⟩ : ∃ gx, gx = w3.heap.size := ⟨_, rfl⟩
    rw [← hgx] at HX3
    rw [← hgx]
    clear hgx
    have s0 := HS3.out.c0
    have s1 := HS3.out.c1
    have x0 := HX3.out.c0
    have x1 := HX3.out.c1
    cases hq : catOk ts ts' la lb
    · have HSQ := Lib.hid hq
      clear hq
      go_wp2_with (at_builtin; fail)
      refine (iProgramSame_same _ _ _ _ tz lz _ _ HS3.out.ht HS3.out.hl HX3.out.ht HX3.out.hl (Nat.le_refl _) (by have := HSZ.out; omega)).mono ?_
      rintro e w4 ⟨rfl, hb4⟩
      have HS4 := Lib.hid (HS3.out.bels hb4)
      have HX4 := Lib.hid (HX3.out.bels hb4)
      clear hb4 s0 s1 x0 x1
      have s0 := HS4.out.c0
      have s1 := HS4.out.c1
      have x0 := HX4.out.c0
      have x1 := HX4.out.c1
      go_wp2_with (at_builtin; fail)
      refine (iProgramSame_same _ _ _ _ tz lz _ _ HS4.out.ht HS4.out.hl HX4.out.ht HX4.out.hl (Nat.le_refl _) (by have := HSZ.out; omega)).mono ?_
      rintro e w5 ⟨rfl, hb5⟩
      have HS5 := Lib.hid (HS4.out.bels hb5)
      clear hb5
      go_wp2_with (at_builtin; fail)
      go_ret
      exact ⟨ret_bool (by simp), HS5.out.bel⟩
    · obtain ⟨hva, hvb, hts2, hvab⟩ := cat_parts hq
      have htz : tz = ts := by rw [HTZ.out, hq]; rfl
      have hlz : lz = la ++ lb := by rw [HLZ.out, hq]; rfl
      subst hts2 htz hlz
      have HLEN : Hid ((ptsP (la ++ lb)).length + 1 = (ptsP la).length + (ptsP lb).length) := Lib.hid (by rw [cat_len, npL_len, npL_len]; omega)
      have hp1 := (Good.of_valid hva).len
      have hp2 := (Good.of_valid hvb).len
      have hp3 := (Good.of_valid hvab).len
      have HPA : Hid (pointsP tz la = ptsP la) := Lib.hid (pointsP_valid hva)
      have HPB : Hid (pointsP tz lb = ptsP lb) := Lib.hid (pointsP_valid hvb)
      have HPC : Hid (pointsP tz (la ++ lb) = ptsP (la ++ lb)) := Lib.hid (pointsP_valid hvab)
      have HCA : Hid (cntRes tz la = szL la) := Lib.hid (if_pos hva)
      have HCB : Hid (cntRes tz lb = szL lb) := Lib.hid (if_pos hvb)
      have HCC : Hid (cntRes tz (la ++ lb) = szL la + szL lb) := Lib.hid (by rw [← szL_append]; exact if_pos hvab)
      have HAA : Hid (∀ b, (validP tz (la ++ lb) && decide ((chkRes tz (la ++ lb)).length = 0)) = b → b = true → (validP tz la && decide ((chkRes tz la).length = 0)) = true) := Lib.hid (by
        rintro b rfl h
        rw [hvab, Bool.true_and, decide_eq_true_eq] at h
        rw [hva, Bool.true_and, decide_eq_true_eq]
        exact acc_cat hva hvab h)
      have hll := len_le_szL la
      have hll2 := len_le_szL lb
      clear hq hva hvb hvab HTZ HLZ
      generalize hlc : la ++ lb = lc at *
      clear hlc
      go_wp2_with (at_builtin; fail)
      refine (iProgramSame_same _ _ _ _ tz lc _ _ HS3.out.ht HS3.out.hl HX3.out.ht HX3.out.hl (Nat.le_refl _) (by have := HSZ.out; omega)).mono ?_
      rintro e w4 ⟨rfl, hb4⟩
      have HP4 := Lib.hid (HP3.out.bels hb4)
      have HQ4 := Lib.hid (HQ3.out.bels hb4)
      have HS4 := Lib.hid (HS3.out.bels hb4)
      have hsz4 : szL lc ≤ 200000 := by have := HSZ.out; omega
      clear hb4 s0 s1 x0 x1 HP3 HQ3 HS3 HX3 HSZ
      go_wp2_with (at_builtin; fail)
      have a0 := HP4.out.c0
      have a1 := HP4.out.c1
      have b0 := HQ4.out.c0
      have b1 := HQ4.out.c1
      have s0 := HS4.out.c0
      have s1 := HS4.out.c1
      have la0 := HP4.out.lt
      have lb0 := HQ4.out.lt
      have ls0 := HS4.out.lt
      have BEL : Hid (∀ w', w'.cell? ⟨ga, 0, none⟩ = some (.slice At tz.length ct) ∧ w'.cell? ⟨ga, 1, none⟩ = some (.slice Ab la.length cb) ∧ w'.cell? ⟨gb, 0, none⟩ = some (.slice Au tz.length cu) ∧ w'.cell? ⟨gb, 1, none⟩ = some (.slice Av lb.length cv) ∧ w'.cell? ⟨gs, 0, none⟩ = some (.slice As tz.length cs) ∧ w'.cell? ⟨gs, 1, none⟩ = some (.slice Bs lc.length ds) ∧ Below w4.heap.size w4 w' → Below w4.heap.size w4 w') := Lib.hid fun _ h => h.2.2.2.2.2.2
      refine wp_region_held_drew (S := (fun w' => w'.cell? ⟨ga, 0, none⟩ = some (.slice At tz.length ct) ∧ w'.cell? ⟨ga, 1, none⟩ = some (.slice Ab la.length cb) ∧ w'.cell? ⟨gb, 0, none⟩ = some (.slice Au tz.length cu) ∧ w'.cell? ⟨gb, 1, none⟩ = some (.slice Av lb.length cv) ∧ w'.cell? ⟨gs, 0, none⟩ = some (.slice As tz.length cs) ∧ w'.cell? ⟨gs, 1, none⟩ = some (.slice Bs lc.length ds) ∧ Below w4.heap.size w4 w')) (by kernel_rfl) ?_ (fun hHeld => ?_)
      · exact ⟨a0, a1, b0, b1, s0, s1, (Below.refl _ _).drew⟩
      refine wpAnyH_take (i := 0) (oi := ⟨some 51, _, _, _, _, _⟩) (v := ?_) rfl (by kernel_rfl) (by kernel_rfl) (by kernel_rfl) (fun _ _ _ h => h) (Or.inl ⟨by rfl, fun w' hSw => ?_⟩) (by assumption) ?_
      rotate_left
      · (try dsimp only at hSw); go_simp; (try with_reducible rfl)
      (try simp only [Act.put, List.setIfInBounds_toArray, List.set_cons_zero, List.set_cons_succ])
      refine wpAnyH_take (i := 3) (oi := ⟨some 54, _, _, _, _, _⟩) (v := ?_) rfl (by kernel_rfl) (by kernel_rfl) (by kernel_rfl) (fun _ _ _ h => h) (Or.inl ⟨by rfl, fun w' hSw => ?_⟩) (by assumption) ?_
      rotate_left
      · (try dsimp only at hSw); go_simp; (try with_reducible rfl)
      (try simp only [Act.put, List.setIfInBounds_toArray, List.set_cons_zero, List.set_cons_succ])
      refine wpAnyH_ready (rs := [1]) (by kernel_rfl) (by simp) ?_
      refine AllReadyH.cons (o := ⟨some 52, _, _, _, _, _⟩) rfl (fun K hK => ?_) AllReadyH.nil
      go_simp
      (have BY := (BEL.out _ (by assumption)))
      (refine (iPointsOf_any _ _ tz la _ _ (HP4.out.bels BY).ht (HP4.out.bels BY).hl (Nat.le_refl _) (by omega)).mono ?_)
      (rintro e w5 ⟨v5, rfl, hps5, hb5⟩)
      (have BX5 := Lib.hid (BY.trans (hb5.mono BY.size)))
      (rw [HPA.out] at hps5)
      (obtain ⟨A5, c5, rfl, -, -⟩ := hps5.slice)
      clear hps5
      clear hb5 BY
      go_simp
      refine hK.out _ _ ?_ (fun hHeld => ?_)
      · exact ⟨(BX5.out.cell (p := ⟨ga, 0, none⟩) la0).trans a0, (BX5.out.cell (p := ⟨ga, 1, none⟩) la0).trans a1, (BX5.out.cell (p := ⟨gb, 0, none⟩) lb0).trans b0, (BX5.out.cell (p := ⟨gb, 1, none⟩) lb0).trans b1, (BX5.out.cell (p := ⟨gs, 0, none⟩) ls0).trans s0, (BX5.out.cell (p := ⟨gs, 1, none⟩) ls0).trans s1, BX5.out⟩
      clear hK K
      (try simp only [Act.put, List.setIfInBounds_toArray, List.set_cons_zero, List.set_cons_succ])
      refine wpAnyH_take (i := 2) (oi := ⟨some 53, _, _, _, _, _⟩) (v := ?_) rfl (by kernel_rfl) (by kernel_rfl) (by kernel_rfl) (fun _ _ _ h => h) (Or.inl ⟨by rfl, fun w' hSw => ?_⟩) (by assumption) ?_
      rotate_left
      · (try dsimp only at hSw); go_simp; (try with_reducible rfl)
      (try simp only [Act.put, List.setIfInBounds_toArray, List.set_cons_zero, List.set_cons_succ])
      refine wpAnyH_ready (rs := [4]) (by kernel_rfl) (by simp) ?_
      refine AllReadyH.cons (o := ⟨some 55, _, _, _, _, _⟩) rfl (fun K hK => ?_) AllReadyH.nil
      go_simp
      (have BY := (BEL.out _ (by assumption)))
      (refine (iPointsOf_any _ _ tz lb _ _ (HQ4.out.bels BY).ht (HQ4.out.bels BY).hl (Nat.le_refl _) (by omega)).mono ?_)
      (rintro e w6 ⟨v6, rfl, hps6, hb6⟩)
      (have BX6 := Lib.hid (BY.trans (hb6.mono BY.size)))
      (rw [HPB.out] at hps6)
      (obtain ⟨A6, c6, rfl, -, -⟩ := hps6.slice)
      clear hps6
      clear hb6 BY
      go_simp
      refine hK.out _ _ ?_ (fun hHeld => ?_)
      · exact ⟨(BX6.out.cell (p := ⟨ga, 0, none⟩) la0).trans a0, (BX6.out.cell (p := ⟨ga, 1, none⟩) la0).trans a1, (BX6.out.cell (p := ⟨gb, 0, none⟩) lb0).trans b0, (BX6.out.cell (p := ⟨gb, 1, none⟩) lb0).trans b1, (BX6.out.cell (p := ⟨gs, 0, none⟩) ls0).trans s0, (BX6.out.cell (p := ⟨gs, 1, none⟩) ls0).trans s1, BX6.out⟩
      clear hK K
      (try simp only [Act.put, List.setIfInBounds_toArray, List.set_cons_zero, List.set_cons_succ])
      refine wpAnyH_take (i := 5) (oi := ⟨some 56, _, _, _, _, _⟩) (v := ?_) rfl (by kernel_rfl) (by kernel_rfl) (by kernel_rfl) (fun _ _ _ h => h) (Or.inl ⟨by rfl, fun w' hSw => ?_⟩) (by assumption) ?_
      rotate_left
      · (try dsimp only at hSw); go_simp; (try with_reducible rfl)
      (try simp only [Act.put, List.setIfInBounds_toArray, List.set_cons_zero, List.set_cons_succ])
      refine wpAnyH_take (i := 6) (oi := ⟨some 57, _, _, _, _, _⟩) (v := ?_) rfl (by kernel_rfl) (by kernel_rfl) (by kernel_rfl) (fun _ _ _ h => h) (Or.inl ⟨by rfl, fun w' hSw => ?_⟩) (by assumption) ?_
      rotate_left
      · (try dsimp only at hSw); go_simp; (try with_reducible rfl)
      (try simp only [Act.put, List.setIfInBounds_toArray, List.set_cons_zero, List.set_cons_succ])
      refine wpAnyH_take (i := 7) (oi := ⟨some 58, _, _, _, _, _⟩) (v := ?_) rfl (by kernel_rfl) (by kernel_rfl) (by kernel_rfl) (fun _ _ _ h => h) (Or.inl ⟨by rfl, fun w' hSw => ?_⟩) (by assumption) ?_
      rotate_left
      · (try dsimp only at hSw); go_simp; (try with_reducible rfl)
      (try simp only [Act.put, List.setIfInBounds_toArray, List.set_cons_zero, List.set_cons_succ])
      refine wpAnyH_take (i := 8) (oi := ⟨some 9, _, _, _, _, _⟩) (v := ?_) rfl (by kernel_rfl) (by kernel_rfl) (by kernel_rfl) (fun _ _ _ h => h) (Or.inl ⟨by rfl, fun w' hSw => ?_⟩) (by assumption) ?_
      rotate_left
      · (try dsimp only at hSw); go_simp; (try with_reducible rfl)
      (try simp only [Act.put, List.setIfInBounds_toArray, List.set_cons_zero, List.set_cons_succ])
      refine wpAnyH_done (by kernel_rfl) ?_ _
      have HP6 := Lib.hid (HP4.out.bels BX6.out)
      have HQ6 := Lib.hid (HQ4.out.bels BX6.out)
      have HS6 := Lib.hid (HS4.out.bels BX6.out)
      clear a0 a1 b0 b1 s0 s1 la0 lb0 ls0 BEL BX5 BX6 hHeld HP4 HQ4 HS4
      have hw1 : IntKind.i64.wrap (((ptsP la).length : Int) + ((ptsP lb).length : Int)) = ((ptsP la).length : Int) + ((ptsP lb).length : Int) := IntWalk.i64_in _ (by omega)
      have hw2 : IntKind.i64.wrap (((ptsP la).length : Int) + ((ptsP lb).length : Int) - 1) = ((ptsP lc).length : Int) := by
        have := HLEN.out
        rw [IntWalk.i64_in _ (by omega)]
        omega
      rw [hw1, hw2]
      clear hw1 hw2
      go_wp2_with (at_builtin; fail)
      have hee : (((ptsP lc).length : Int) == ((ptsP lc).length : Int)) = true := by simp
      have hce : (((szL la + szL lb : Nat) : Int) == ((szL la : Nat) : Int) + ((szL lb : Nat) : Int)) = true := by simp
      have hwc : IntKind.i64.wrap (((szL la : Nat) : Int) + ((szL lb : Nat) : Int)) = ((szL la : Nat) : Int) + ((szL lb : Nat) : Int) := IntWalk.i64_in _ (by omega)
      have hba : 0 ≤ ((szL la : Nat) : Int) + ((szL lb : Nat) : Int) ∧ ((szL la : Nat) : Int) + ((szL lb : Nat) : Int) ≤ 4000000 := by omega
      cases hacc : (validP tz lc && decide ((chkRes tz lc).length = 0))
      · have HACC := Lib.hid hacc
        clear hacc
        have a0 := HP6.out.c0
        have a1 := HP6.out.c1
        have b0 := HQ6.out.c0
        have b1 := HQ6.out.c1
        have s0 := HS6.out.c0
        have s1 := HS6.out.c1
        have la0 := HP6.out.lt
        have lb0 := HQ6.out.lt
        have ls0 := HS6.out.lt
        have BEL : Hid (∀ w', w'.cell? ⟨ga, 0, none⟩ = some (.slice At tz.length ct) ∧ w'.cell? ⟨ga, 1, none⟩ = some (.slice Ab la.length cb) ∧ w'.cell? ⟨gb, 0, none⟩ = some (.slice Au tz.length cu) ∧ w'.cell? ⟨gb, 1, none⟩ = some (.slice Av lb.length cv) ∧ w'.cell? ⟨gs, 0, none⟩ = some (.slice As tz.length cs) ∧ w'.cell? ⟨gs, 1, none⟩ = some (.slice Bs lc.length ds) ∧ Below w6.heap.size w6 w' → Below w6.heap.size w6 w') := Lib.hid fun _ h => h.2.2.2.2.2.2
        refine wp_region_held_drew (S := (fun w' => w'.cell? ⟨ga, 0, none⟩ = some (.slice At tz.length ct) ∧ w'.cell? ⟨ga, 1, none⟩ = some (.slice Ab la.length cb) ∧ w'.cell? ⟨gb, 0, none⟩ = some (.slice Au tz.length cu) ∧ w'.cell? ⟨gb, 1, none⟩ = some (.slice Av lb.length cv) ∧ w'.cell? ⟨gs, 0, none⟩ = some (.slice As tz.length cs) ∧ w'.cell? ⟨gs, 1, none⟩ = some (.slice Bs lc.length ds) ∧ Below w6.heap.size w6 w')) (by kernel_rfl) ?_ (fun hHeld => ?_)
        · exact ⟨a0, a1, b0, b1, s0, s1, (Below.refl _ _).drew⟩
        refine wpAnyH_take (i := 0) (oi := ⟨some 59, _, _, _, _, _⟩) (v := ?_) rfl (by kernel_rfl) (by kernel_rfl) (by kernel_rfl) (fun _ _ _ h => h) (Or.inl ⟨by rfl, fun w' hSw => ?_⟩) (by assumption) ?_
        rotate_left
        · (try dsimp only at hSw); go_simp; (try with_reducible rfl)
        (try simp only [Act.put, List.setIfInBounds_toArray, List.set_cons_zero, List.set_cons_succ])
        refine wpAnyH_take (i := 3) (oi := ⟨some 62, _, _, _, _, _⟩) (v := ?_) rfl (by kernel_rfl) (by kernel_rfl) (by kernel_rfl) (fun _ _ _ h => h) (Or.inl ⟨by rfl, fun w' hSw => ?_⟩) (by assumption) ?_
        rotate_left
        · (try dsimp only at hSw); go_simp; (try with_reducible rfl)
        (try simp only [Act.put, List.setIfInBounds_toArray, List.set_cons_zero, List.set_cons_succ])
        refine wpAnyH_ready (rs := [1]) (by kernel_rfl) (by simp) ?_
        refine AllReadyH.cons (o := ⟨some 60, _, _, _, _, _⟩) rfl (fun K hK => ?_) AllReadyH.nil
        go_simp
        (have BY := (BEL.out _ (by assumption)))
        (refine (iPointsOf_any _ _ tz lc _ _ (HS6.out.bels BY).ht (HS6.out.bels BY).hl (Nat.le_refl _) (by omega)).mono ?_)
        (rintro e w7 ⟨v7, rfl, hps7, hb7⟩)
        (have BX7 := Lib.hid (BY.trans (hb7.mono BY.size)))
        (rw [HPC.out] at hps7)
        (obtain ⟨A7, c7, rfl, -, -⟩ := hps7.slice)
        clear hps7
        clear hb7 BY
        go_simp
        refine hK.out _ _ ?_ (fun hHeld => ?_)
        · exact ⟨(BX7.out.cell (p := ⟨ga, 0, none⟩) la0).trans a0, (BX7.out.cell (p := ⟨ga, 1, none⟩) la0).trans a1, (BX7.out.cell (p := ⟨gb, 0, none⟩) lb0).trans b0, (BX7.out.cell (p := ⟨gb, 1, none⟩) lb0).trans b1, (BX7.out.cell (p := ⟨gs, 0, none⟩) ls0).trans s0, (BX7.out.cell (p := ⟨gs, 1, none⟩) ls0).trans s1, BX7.out⟩
        clear hK K
        (try simp only [Act.put, List.setIfInBounds_toArray, List.set_cons_zero, List.set_cons_succ])
        refine wpAnyH_take (i := 2) (oi := ⟨some 61, _, _, _, _, _⟩) (v := ?_) rfl (by kernel_rfl) (by kernel_rfl) (by kernel_rfl) (fun _ _ _ h => h) (Or.inl ⟨by rfl, fun w' hSw => ?_⟩) (by assumption) ?_
        rotate_left
        · (try dsimp only at hSw); go_simp; (try with_reducible rfl)
        (try simp only [Act.put, List.setIfInBounds_toArray, List.set_cons_zero, List.set_cons_succ])
        refine wpAnyH_take (i := 4) (oi := ⟨some 63, _, _, _, _, _⟩) (v := ?_) rfl (by kernel_rfl) (by kernel_rfl) (by kernel_rfl) (fun _ _ _ h => h) (Or.inl ⟨by rfl, fun w' hSw => ?_⟩) (by assumption) ?_
        rotate_left
        · (try dsimp only at hSw); go_simp; (try with_reducible rfl)
        (try simp only [Act.put, List.setIfInBounds_toArray, List.set_cons_zero, List.set_cons_succ])
        refine wpAnyH_take (i := 5) (oi := ⟨some 64, _, _, _, _, _⟩) (v := ?_) rfl (by kernel_rfl) (by kernel_rfl) (by kernel_rfl) (fun _ _ _ h => h) (Or.inl ⟨by rfl, fun w' hSw => ?_⟩) (by assumption) ?_
        rotate_left
        · (try dsimp only at hSw); go_simp; (try with_reducible rfl)
        (try simp only [Act.put, List.setIfInBounds_toArray, List.set_cons_zero, List.set_cons_succ])
        refine wpAnyH_take (i := 6) (oi := ⟨some 65, _, _, _, _, _⟩) (v := ?_) rfl (by kernel_rfl) (by kernel_rfl) (by kernel_rfl) (fun _ _ _ h => h) (Or.inl ⟨by rfl, fun w' hSw => ?_⟩) (by assumption) ?_
        rotate_left
        · (try dsimp only at hSw); go_simp; (try with_reducible rfl)
        (try simp only [Act.put, List.setIfInBounds_toArray, List.set_cons_zero, List.set_cons_succ])
        refine wpAnyH_ready (rs := [7]) (by kernel_rfl) (by simp) ?_
        refine AllReadyH.cons (o := ⟨some 66, _, _, _, _, _⟩) rfl (fun K hK => ?_) AllReadyH.nil
        go_simp
        (have BY := (BEL.out _ (by assumption)))
        (refine (iAccepts_any _ _ tz lc _ _ (HS6.out.bels BY).ht (HS6.out.bels BY).hl (Nat.le_refl _) (by omega)).mono ?_)
        (rintro e w8 ⟨rfl, hb8⟩)
        (have BX8 := Lib.hid (BY.trans (hb8.mono BY.size)))
        (rw [HACC.out])
        clear hb8 BY
        go_simp
        refine hK.out _ _ ?_ (fun hHeld => ?_)
        · exact ⟨(BX8.out.cell (p := ⟨ga, 0, none⟩) la0).trans a0, (BX8.out.cell (p := ⟨ga, 1, none⟩) la0).trans a1, (BX8.out.cell (p := ⟨gb, 0, none⟩) lb0).trans b0, (BX8.out.cell (p := ⟨gb, 1, none⟩) lb0).trans b1, (BX8.out.cell (p := ⟨gs, 0, none⟩) ls0).trans s0, (BX8.out.cell (p := ⟨gs, 1, none⟩) ls0).trans s1, BX8.out⟩
        clear hK K
        (try simp only [Act.put, List.setIfInBounds_toArray, List.set_cons_zero, List.set_cons_succ])
        refine wpAnyH_take (i := 8) (oi := ⟨some 67, _, _, _, _, _⟩) (v := ?_) rfl (by kernel_rfl) (by kernel_rfl) (by kernel_rfl) (fun _ _ _ h => h) (Or.inl ⟨by rfl, fun w' hSw => ?_⟩) (by assumption) ?_
        rotate_left
        · (try dsimp only at hSw); go_simp; (try with_reducible rfl)
        (try simp only [Act.put, List.setIfInBounds_toArray, List.set_cons_zero, List.set_cons_succ])
        refine wpAnyH_take (i := 9) (oi := ⟨some 68, _, _, _, _, _⟩) (v := ?_) rfl (by kernel_rfl) (by kernel_rfl) (by kernel_rfl) (fun _ _ _ h => h) (Or.inl ⟨by rfl, fun w' hSw => ?_⟩) (by assumption) ?_
        rotate_left
        · (try dsimp only at hSw); go_simp; (try with_reducible rfl)
        (try simp only [Act.put, List.setIfInBounds_toArray, List.set_cons_zero, List.set_cons_succ])
        refine wpAnyH_take (i := 10) (oi := ⟨some 69, _, _, _, _, _⟩) (v := undef) rfl (by kernel_rfl) (by kernel_rfl) (by kernel_rfl) (fun _ _ _ h => h) (Or.inr ⟨by rfl, rfl⟩) (by assumption) ?_
        (try simp only [Act.put, List.setIfInBounds_toArray, List.set_cons_zero, List.set_cons_succ])
        refine wpAnyH_take (i := 11) (oi := ⟨some 70, _, _, _, _, _⟩) (v := undef) rfl (by kernel_rfl) (by kernel_rfl) (by kernel_rfl) (fun _ _ _ h => h) (Or.inr ⟨by rfl, rfl⟩) (by assumption) ?_
        (try simp only [Act.put, List.setIfInBounds_toArray, List.set_cons_zero, List.set_cons_succ])
        refine wpAnyH_take (i := 12) (oi := ⟨some 71, _, _, _, _, _⟩) (v := ?_) rfl (by kernel_rfl) (by kernel_rfl) (by kernel_rfl) (fun _ _ _ h => h) (Or.inl ⟨by rfl, fun w' hSw => ?_⟩) (by assumption) ?_
        rotate_left
        · (try dsimp only at hSw); go_simp; (try with_reducible rfl)
        (try simp only [Act.put, List.setIfInBounds_toArray, List.set_cons_zero, List.set_cons_succ])
        refine wpAnyH_take (i := 13) (oi := ⟨some 72, _, _, _, _, _⟩) (v := ?_) rfl (by kernel_rfl) (by kernel_rfl) (by kernel_rfl) (fun _ _ _ h => h) (Or.inl ⟨by rfl, fun w' hSw => ?_⟩) (by assumption) ?_
        rotate_left
        · (try dsimp only at hSw); go_simp; (try with_reducible rfl)
        (try simp only [Act.put, List.setIfInBounds_toArray, List.set_cons_zero, List.set_cons_succ])
        refine wpAnyH_take (i := 14) (oi := ⟨some 73, _, _, _, _, _⟩) (v := ?_) rfl (by kernel_rfl) (by kernel_rfl) (by kernel_rfl) (fun _ _ _ h => h) (Or.inl ⟨by rfl, fun w' hSw => ?_⟩) (by assumption) ?_
        rotate_left
        · (try dsimp only at hSw); go_simp; (try with_reducible rfl)
        (try simp only [Act.put, List.setIfInBounds_toArray, List.set_cons_zero, List.set_cons_succ])
        refine wpAnyH_take (i := 15) (oi := ⟨some 74, _, _, _, _, _⟩) (v := ?_) rfl (by kernel_rfl) (by kernel_rfl) (by kernel_rfl) (fun _ _ _ h => h) (Or.inl ⟨by rfl, fun w' hSw => ?_⟩) (by assumption) ?_
        rotate_left
        · (try dsimp only at hSw); go_simp; (try with_reducible rfl)
        (try simp only [Act.put, List.setIfInBounds_toArray, List.set_cons_zero, List.set_cons_succ])
        refine wpAnyH_take (i := 17) (oi := ⟨some 76, _, _, _, _, _⟩) (v := ?_) rfl (by kernel_rfl) (by kernel_rfl) (by kernel_rfl) (fun _ _ _ h => h) (Or.inl ⟨by rfl, fun w' hSw => ?_⟩) (by assumption) ?_
        rotate_left
        · (try dsimp only at hSw); go_simp; (try with_reducible rfl)
        (try simp only [Act.put, List.setIfInBounds_toArray, List.set_cons_zero, List.set_cons_succ])
        refine wpAnyH_take (i := 19) (oi := ⟨some 78, _, _, _, _, _⟩) (v := ?_) rfl (by kernel_rfl) (by kernel_rfl) (by kernel_rfl) (fun _ _ _ h => h) (Or.inl ⟨by rfl, fun w' hSw => ?_⟩) (by assumption) ?_
        rotate_left
        · (try dsimp only at hSw); go_simp; (try with_reducible rfl)
        (try simp only [Act.put, List.setIfInBounds_toArray, List.set_cons_zero, List.set_cons_succ])
        refine wpAnyH_ready (rs := [16]) (by kernel_rfl) (by simp) ?_
        refine AllReadyH.cons (o := ⟨some 75, _, _, _, _, _⟩) rfl (fun K hK => ?_) AllReadyH.nil
        go_simp
        (have BY := (BEL.out _ (by assumption)))
        (refine (iCountStmts_any _ _ tz lc _ _ (HS6.out.bels BY).ht (HS6.out.bels BY).hl (Nat.le_refl _) (by omega)).mono ?_)
        (rintro e w10 ⟨rfl, hb10⟩)
        (have BX10 := Lib.hid (BY.trans (hb10.mono BY.size)))
        (rw [HCC.out])
        clear hb10 BY
        go_simp
        refine hK.out _ _ ?_ (fun hHeld => ?_)
        · exact ⟨(BX10.out.cell (p := ⟨ga, 0, none⟩) la0).trans a0, (BX10.out.cell (p := ⟨ga, 1, none⟩) la0).trans a1, (BX10.out.cell (p := ⟨gb, 0, none⟩) lb0).trans b0, (BX10.out.cell (p := ⟨gb, 1, none⟩) lb0).trans b1, (BX10.out.cell (p := ⟨gs, 0, none⟩) ls0).trans s0, (BX10.out.cell (p := ⟨gs, 1, none⟩) ls0).trans s1, BX10.out⟩
        clear hK K
        (try simp only [Act.put, List.setIfInBounds_toArray, List.set_cons_zero, List.set_cons_succ])
        refine wpAnyH_ready (rs := [18]) (by kernel_rfl) (by simp) ?_
        refine AllReadyH.cons (o := ⟨some 77, _, _, _, _, _⟩) rfl (fun K hK => ?_) AllReadyH.nil
        go_simp
        (have BY := (BEL.out _ (by assumption)))
        (refine (iCountStmts_any _ _ tz la _ _ (HP6.out.bels BY).ht (HP6.out.bels BY).hl (Nat.le_refl _) (by omega)).mono ?_)
        (rintro e w11 ⟨rfl, hb11⟩)
        (have BX11 := Lib.hid (BY.trans (hb11.mono BY.size)))
        (rw [HCA.out])
        clear hb11 BY
        go_simp
        refine hK.out _ _ ?_ (fun hHeld => ?_)
        · exact ⟨(BX11.out.cell (p := ⟨ga, 0, none⟩) la0).trans a0, (BX11.out.cell (p := ⟨ga, 1, none⟩) la0).trans a1, (BX11.out.cell (p := ⟨gb, 0, none⟩) lb0).trans b0, (BX11.out.cell (p := ⟨gb, 1, none⟩) lb0).trans b1, (BX11.out.cell (p := ⟨gs, 0, none⟩) ls0).trans s0, (BX11.out.cell (p := ⟨gs, 1, none⟩) ls0).trans s1, BX11.out⟩
        clear hK K
        (try simp only [Act.put, List.setIfInBounds_toArray, List.set_cons_zero, List.set_cons_succ])
        refine wpAnyH_ready (rs := [20]) (by kernel_rfl) (by simp) ?_
        refine AllReadyH.cons (o := ⟨some 79, _, _, _, _, _⟩) rfl (fun K hK => ?_) AllReadyH.nil
        go_simp
        (have BY := (BEL.out _ (by assumption)))
        (refine (iCountStmts_any _ _ tz lb _ _ (HQ6.out.bels BY).ht (HQ6.out.bels BY).hl (Nat.le_refl _) (by omega)).mono ?_)
        (rintro e w12 ⟨rfl, hb12⟩)
        (have BX12 := Lib.hid (BY.trans (hb12.mono BY.size)))
        (rw [HCB.out])
        clear hb12 BY
        go_simp
        refine hK.out _ _ ?_ (fun hHeld => ?_)
        · exact ⟨(BX12.out.cell (p := ⟨ga, 0, none⟩) la0).trans a0, (BX12.out.cell (p := ⟨ga, 1, none⟩) la0).trans a1, (BX12.out.cell (p := ⟨gb, 0, none⟩) lb0).trans b0, (BX12.out.cell (p := ⟨gb, 1, none⟩) lb0).trans b1, (BX12.out.cell (p := ⟨gs, 0, none⟩) ls0).trans s0, (BX12.out.cell (p := ⟨gs, 1, none⟩) ls0).trans s1, BX12.out⟩
        clear hK K
        (try simp only [Act.put, List.setIfInBounds_toArray, List.set_cons_zero, List.set_cons_succ])
        refine wpAnyH_take (i := 21) (oi := ⟨some 80, _, _, _, _, _⟩) (v := ?_) rfl (by kernel_rfl) (by kernel_rfl) (by kernel_rfl) (fun _ _ _ h => h) (Or.inl ⟨by rfl, fun w' hSw => ?_⟩) (by assumption) ?_
        rotate_left
        · (try dsimp only at hSw); go_simp; (try with_reducible rfl)
        (try simp only [Act.put, List.setIfInBounds_toArray, List.set_cons_zero, List.set_cons_succ])
        refine wpAnyH_take (i := 22) (oi := ⟨some 81, _, _, _, _, _⟩) (v := ?_) rfl (by kernel_rfl) (by kernel_rfl) (by kernel_rfl) (fun _ _ _ h => h) (Or.inl ⟨by rfl, fun w' hSw => ?_⟩) (by assumption) ?_
        rotate_left
        · (try dsimp only at hSw); go_simp; (try with_reducible rfl)
        (try simp only [Act.put, List.setIfInBounds_toArray, List.set_cons_zero, List.set_cons_succ])
        refine wpAnyH_take (i := 23) (oi := ⟨some 82, _, _, _, _, _⟩) (v := ?_) rfl (by kernel_rfl) (by kernel_rfl) (by kernel_rfl) (fun _ _ _ h => h) (Or.inl ⟨by rfl, fun w' hSw => ?_⟩) (by assumption) ?_
        rotate_left
        · (try dsimp only at hSw); go_simp; (try with_reducible rfl)
        (try simp only [Act.put, List.setIfInBounds_toArray, List.set_cons_zero, List.set_cons_succ])
        refine wpAnyH_take (i := 24) (oi := ⟨some 2, _, _, _, _, _⟩) (v := ?_) rfl (by kernel_rfl) (by kernel_rfl) (by kernel_rfl) (fun _ _ _ h => h) (Or.inl ⟨by rfl, fun w' hSw => ?_⟩) (by assumption) ?_
        rotate_left
        · (try dsimp only at hSw); go_simp; (try with_reducible rfl)
        (try simp only [Act.put, List.setIfInBounds_toArray, List.set_cons_zero, List.set_cons_succ])
        refine wpAnyH_done (by kernel_rfl) ?_ _
        clear a0 a1 b0 b1 s0 s1 la0 lb0 ls0
        go_wp2_with (at_builtin; fail)
        go_ret
        exact ⟨ret_bool (by simp), (HP6.out.bels BX12.out).bel⟩
      · have HACC := Lib.hid hacc
        have HACP := Lib.hid (HAA.out _ hacc rfl)
        clear hacc
        have a0 := HP6.out.c0
        have a1 := HP6.out.c1
        have b0 := HQ6.out.c0
        have b1 := HQ6.out.c1
        have s0 := HS6.out.c0
        have s1 := HS6.out.c1
        have la0 := HP6.out.lt
        have lb0 := HQ6.out.lt
        have ls0 := HS6.out.lt
        have BEL : Hid (∀ w', w'.cell? ⟨ga, 0, none⟩ = some (.slice At tz.length ct) ∧ w'.cell? ⟨ga, 1, none⟩ = some (.slice Ab la.length cb) ∧ w'.cell? ⟨gb, 0, none⟩ = some (.slice Au tz.length cu) ∧ w'.cell? ⟨gb, 1, none⟩ = some (.slice Av lb.length cv) ∧ w'.cell? ⟨gs, 0, none⟩ = some (.slice As tz.length cs) ∧ w'.cell? ⟨gs, 1, none⟩ = some (.slice Bs lc.length ds) ∧ Below w6.heap.size w6 w' → Below w6.heap.size w6 w') := Lib.hid fun _ h => h.2.2.2.2.2.2
        refine wp_region_held_drew (S := (fun w' => w'.cell? ⟨ga, 0, none⟩ = some (.slice At tz.length ct) ∧ w'.cell? ⟨ga, 1, none⟩ = some (.slice Ab la.length cb) ∧ w'.cell? ⟨gb, 0, none⟩ = some (.slice Au tz.length cu) ∧ w'.cell? ⟨gb, 1, none⟩ = some (.slice Av lb.length cv) ∧ w'.cell? ⟨gs, 0, none⟩ = some (.slice As tz.length cs) ∧ w'.cell? ⟨gs, 1, none⟩ = some (.slice Bs lc.length ds) ∧ Below w6.heap.size w6 w')) (by kernel_rfl) ?_ (fun hHeld => ?_)
        · exact ⟨a0, a1, b0, b1, s0, s1, (Below.refl _ _).drew⟩
        refine wpAnyH_take (i := 0) (oi := ⟨some 59, _, _, _, _, _⟩) (v := ?_) rfl (by kernel_rfl) (by kernel_rfl) (by kernel_rfl) (fun _ _ _ h => h) (Or.inl ⟨by rfl, fun w' hSw => ?_⟩) (by assumption) ?_
        rotate_left
        · (try dsimp only at hSw); go_simp; (try with_reducible rfl)
        (try simp only [Act.put, List.setIfInBounds_toArray, List.set_cons_zero, List.set_cons_succ])
        refine wpAnyH_take (i := 3) (oi := ⟨some 62, _, _, _, _, _⟩) (v := ?_) rfl (by kernel_rfl) (by kernel_rfl) (by kernel_rfl) (fun _ _ _ h => h) (Or.inl ⟨by rfl, fun w' hSw => ?_⟩) (by assumption) ?_
        rotate_left
        · (try dsimp only at hSw); go_simp; (try with_reducible rfl)
        (try simp only [Act.put, List.setIfInBounds_toArray, List.set_cons_zero, List.set_cons_succ])
        refine wpAnyH_ready (rs := [1]) (by kernel_rfl) (by simp) ?_
        refine AllReadyH.cons (o := ⟨some 60, _, _, _, _, _⟩) rfl (fun K hK => ?_) AllReadyH.nil
        go_simp
        (have BY := (BEL.out _ (by assumption)))
        (refine (iPointsOf_any _ _ tz lc _ _ (HS6.out.bels BY).ht (HS6.out.bels BY).hl (Nat.le_refl _) (by omega)).mono ?_)
        (rintro e w7 ⟨v7, rfl, hps7, hb7⟩)
        (have BX7 := Lib.hid (BY.trans (hb7.mono BY.size)))
        (rw [HPC.out] at hps7)
        (obtain ⟨A7, c7, rfl, -, -⟩ := hps7.slice)
        clear hps7
        clear hb7 BY
        go_simp
        refine hK.out _ _ ?_ (fun hHeld => ?_)
        · exact ⟨(BX7.out.cell (p := ⟨ga, 0, none⟩) la0).trans a0, (BX7.out.cell (p := ⟨ga, 1, none⟩) la0).trans a1, (BX7.out.cell (p := ⟨gb, 0, none⟩) lb0).trans b0, (BX7.out.cell (p := ⟨gb, 1, none⟩) lb0).trans b1, (BX7.out.cell (p := ⟨gs, 0, none⟩) ls0).trans s0, (BX7.out.cell (p := ⟨gs, 1, none⟩) ls0).trans s1, BX7.out⟩
        clear hK K
        (try simp only [Act.put, List.setIfInBounds_toArray, List.set_cons_zero, List.set_cons_succ])
        refine wpAnyH_take (i := 2) (oi := ⟨some 61, _, _, _, _, _⟩) (v := ?_) rfl (by kernel_rfl) (by kernel_rfl) (by kernel_rfl) (fun _ _ _ h => h) (Or.inl ⟨by rfl, fun w' hSw => ?_⟩) (by assumption) ?_
        rotate_left
        · (try dsimp only at hSw); go_simp; (try with_reducible rfl)
        (try simp only [Act.put, List.setIfInBounds_toArray, List.set_cons_zero, List.set_cons_succ])
        refine wpAnyH_take (i := 4) (oi := ⟨some 63, _, _, _, _, _⟩) (v := ?_) rfl (by kernel_rfl) (by kernel_rfl) (by kernel_rfl) (fun _ _ _ h => h) (Or.inl ⟨by rfl, fun w' hSw => ?_⟩) (by assumption) ?_
        rotate_left
        · (try dsimp only at hSw); go_simp; (try with_reducible rfl)
        (try simp only [Act.put, List.setIfInBounds_toArray, List.set_cons_zero, List.set_cons_succ])
        refine wpAnyH_take (i := 5) (oi := ⟨some 64, _, _, _, _, _⟩) (v := ?_) rfl (by kernel_rfl) (by kernel_rfl) (by kernel_rfl) (fun _ _ _ h => h) (Or.inl ⟨by rfl, fun w' hSw => ?_⟩) (by assumption) ?_
        rotate_left
        · (try dsimp only at hSw); go_simp; (try with_reducible rfl)
        (try simp only [Act.put, List.setIfInBounds_toArray, List.set_cons_zero, List.set_cons_succ])
        refine wpAnyH_take (i := 6) (oi := ⟨some 65, _, _, _, _, _⟩) (v := ?_) rfl (by kernel_rfl) (by kernel_rfl) (by kernel_rfl) (fun _ _ _ h => h) (Or.inl ⟨by rfl, fun w' hSw => ?_⟩) (by assumption) ?_
        rotate_left
        · (try dsimp only at hSw); go_simp; (try with_reducible rfl)
        (try simp only [Act.put, List.setIfInBounds_toArray, List.set_cons_zero, List.set_cons_succ])
        refine wpAnyH_ready (rs := [7]) (by kernel_rfl) (by simp) ?_
        refine AllReadyH.cons (o := ⟨some 66, _, _, _, _, _⟩) rfl (fun K hK => ?_) AllReadyH.nil
        go_simp
        (have BY := (BEL.out _ (by assumption)))
        (refine (iAccepts_any _ _ tz lc _ _ (HS6.out.bels BY).ht (HS6.out.bels BY).hl (Nat.le_refl _) (by omega)).mono ?_)
        (rintro e w8 ⟨rfl, hb8⟩)
        (have BX8 := Lib.hid (BY.trans (hb8.mono BY.size)))
        (rw [HACC.out])
        clear hb8 BY
        go_simp
        refine hK.out _ _ ?_ (fun hHeld => ?_)
        · exact ⟨(BX8.out.cell (p := ⟨ga, 0, none⟩) la0).trans a0, (BX8.out.cell (p := ⟨ga, 1, none⟩) la0).trans a1, (BX8.out.cell (p := ⟨gb, 0, none⟩) lb0).trans b0, (BX8.out.cell (p := ⟨gb, 1, none⟩) lb0).trans b1, (BX8.out.cell (p := ⟨gs, 0, none⟩) ls0).trans s0, (BX8.out.cell (p := ⟨gs, 1, none⟩) ls0).trans s1, BX8.out⟩
        clear hK K
        (try simp only [Act.put, List.setIfInBounds_toArray, List.set_cons_zero, List.set_cons_succ])
        refine wpAnyH_take (i := 8) (oi := ⟨some 67, _, _, _, _, _⟩) (v := ?_) rfl (by kernel_rfl) (by kernel_rfl) (by kernel_rfl) (fun _ _ _ h => h) (Or.inl ⟨by rfl, fun w' hSw => ?_⟩) (by assumption) ?_
        rotate_left
        · (try dsimp only at hSw); go_simp; (try with_reducible rfl)
        (try simp only [Act.put, List.setIfInBounds_toArray, List.set_cons_zero, List.set_cons_succ])
        refine wpAnyH_take (i := 9) (oi := ⟨some 68, _, _, _, _, _⟩) (v := ?_) rfl (by kernel_rfl) (by kernel_rfl) (by kernel_rfl) (fun _ _ _ h => h) (Or.inl ⟨by rfl, fun w' hSw => ?_⟩) (by assumption) ?_
        rotate_left
        · (try dsimp only at hSw); go_simp; (try with_reducible rfl)
        (try simp only [Act.put, List.setIfInBounds_toArray, List.set_cons_zero, List.set_cons_succ])
        refine wpAnyH_take (i := 10) (oi := ⟨some 69, _, _, _, _, _⟩) (v := ?_) rfl (by kernel_rfl) (by kernel_rfl) (by kernel_rfl) (fun _ _ _ h => h) (Or.inl ⟨by rfl, fun w' hSw => ?_⟩) (by assumption) ?_
        rotate_left
        · (try dsimp only at hSw); go_simp; (try with_reducible rfl)
        (try simp only [Act.put, List.setIfInBounds_toArray, List.set_cons_zero, List.set_cons_succ])
        refine wpAnyH_ready (rs := [11]) (by kernel_rfl) (by simp) ?_
        refine AllReadyH.cons (o := ⟨some 70, _, _, _, _, _⟩) rfl (fun K hK => ?_) AllReadyH.nil
        go_simp
        (have BY := (BEL.out _ (by assumption)))
        (refine (iAccepts_any _ _ tz la _ _ (HP6.out.bels BY).ht (HP6.out.bels BY).hl (Nat.le_refl _) (by omega)).mono ?_)
        (rintro e w9 ⟨rfl, hb9⟩)
        (have BX9 := Lib.hid (BY.trans (hb9.mono BY.size)))
        (rw [HACP.out])
        clear hb9 BY
        go_simp
        refine hK.out _ _ ?_ (fun hHeld => ?_)
        · exact ⟨(BX9.out.cell (p := ⟨ga, 0, none⟩) la0).trans a0, (BX9.out.cell (p := ⟨ga, 1, none⟩) la0).trans a1, (BX9.out.cell (p := ⟨gb, 0, none⟩) lb0).trans b0, (BX9.out.cell (p := ⟨gb, 1, none⟩) lb0).trans b1, (BX9.out.cell (p := ⟨gs, 0, none⟩) ls0).trans s0, (BX9.out.cell (p := ⟨gs, 1, none⟩) ls0).trans s1, BX9.out⟩
        clear hK K
        (try simp only [Act.put, List.setIfInBounds_toArray, List.set_cons_zero, List.set_cons_succ])
        refine wpAnyH_take (i := 12) (oi := ⟨some 71, _, _, _, _, _⟩) (v := ?_) rfl (by kernel_rfl) (by kernel_rfl) (by kernel_rfl) (fun _ _ _ h => h) (Or.inl ⟨by rfl, fun w' hSw => ?_⟩) (by assumption) ?_
        rotate_left
        · (try dsimp only at hSw); go_simp; (try with_reducible rfl)
        (try simp only [Act.put, List.setIfInBounds_toArray, List.set_cons_zero, List.set_cons_succ])
        refine wpAnyH_take (i := 13) (oi := ⟨some 72, _, _, _, _, _⟩) (v := ?_) rfl (by kernel_rfl) (by kernel_rfl) (by kernel_rfl) (fun _ _ _ h => h) (Or.inl ⟨by rfl, fun w' hSw => ?_⟩) (by assumption) ?_
        rotate_left
        · (try dsimp only at hSw); go_simp; (try with_reducible rfl)
        (try simp only [Act.put, List.setIfInBounds_toArray, List.set_cons_zero, List.set_cons_succ])
        refine wpAnyH_take (i := 14) (oi := ⟨some 73, _, _, _, _, _⟩) (v := ?_) rfl (by kernel_rfl) (by kernel_rfl) (by kernel_rfl) (fun _ _ _ h => h) (Or.inl ⟨by rfl, fun w' hSw => ?_⟩) (by assumption) ?_
        rotate_left
        · (try dsimp only at hSw); go_simp; (try with_reducible rfl)
        (try simp only [Act.put, List.setIfInBounds_toArray, List.set_cons_zero, List.set_cons_succ])
        refine wpAnyH_take (i := 15) (oi := ⟨some 74, _, _, _, _, _⟩) (v := ?_) rfl (by kernel_rfl) (by kernel_rfl) (by kernel_rfl) (fun _ _ _ h => h) (Or.inl ⟨by rfl, fun w' hSw => ?_⟩) (by assumption) ?_
        rotate_left
        · (try dsimp only at hSw); go_simp; (try with_reducible rfl)
        (try simp only [Act.put, List.setIfInBounds_toArray, List.set_cons_zero, List.set_cons_succ])
        refine wpAnyH_take (i := 17) (oi := ⟨some 76, _, _, _, _, _⟩) (v := ?_) rfl (by kernel_rfl) (by kernel_rfl) (by kernel_rfl) (fun _ _ _ h => h) (Or.inl ⟨by rfl, fun w' hSw => ?_⟩) (by assumption) ?_
        rotate_left
        · (try dsimp only at hSw); go_simp; (try with_reducible rfl)
        (try simp only [Act.put, List.setIfInBounds_toArray, List.set_cons_zero, List.set_cons_succ])
        refine wpAnyH_take (i := 19) (oi := ⟨some 78, _, _, _, _, _⟩) (v := ?_) rfl (by kernel_rfl) (by kernel_rfl) (by kernel_rfl) (fun _ _ _ h => h) (Or.inl ⟨by rfl, fun w' hSw => ?_⟩) (by assumption) ?_
        rotate_left
        · (try dsimp only at hSw); go_simp; (try with_reducible rfl)
        (try simp only [Act.put, List.setIfInBounds_toArray, List.set_cons_zero, List.set_cons_succ])
        refine wpAnyH_ready (rs := [16]) (by kernel_rfl) (by simp) ?_
        refine AllReadyH.cons (o := ⟨some 75, _, _, _, _, _⟩) rfl (fun K hK => ?_) AllReadyH.nil
        go_simp
        (have BY := (BEL.out _ (by assumption)))
        (refine (iCountStmts_any _ _ tz lc _ _ (HS6.out.bels BY).ht (HS6.out.bels BY).hl (Nat.le_refl _) (by omega)).mono ?_)
        (rintro e w10 ⟨rfl, hb10⟩)
        (have BX10 := Lib.hid (BY.trans (hb10.mono BY.size)))
        (rw [HCC.out])
        clear hb10 BY
        go_simp
        refine hK.out _ _ ?_ (fun hHeld => ?_)
        · exact ⟨(BX10.out.cell (p := ⟨ga, 0, none⟩) la0).trans a0, (BX10.out.cell (p := ⟨ga, 1, none⟩) la0).trans a1, (BX10.out.cell (p := ⟨gb, 0, none⟩) lb0).trans b0, (BX10.out.cell (p := ⟨gb, 1, none⟩) lb0).trans b1, (BX10.out.cell (p := ⟨gs, 0, none⟩) ls0).trans s0, (BX10.out.cell (p := ⟨gs, 1, none⟩) ls0).trans s1, BX10.out⟩
        clear hK K
        (try simp only [Act.put, List.setIfInBounds_toArray, List.set_cons_zero, List.set_cons_succ])
        refine wpAnyH_ready (rs := [18]) (by kernel_rfl) (by simp) ?_
        refine AllReadyH.cons (o := ⟨some 77, _, _, _, _, _⟩) rfl (fun K hK => ?_) AllReadyH.nil
        go_simp
        (have BY := (BEL.out _ (by assumption)))
        (refine (iCountStmts_any _ _ tz la _ _ (HP6.out.bels BY).ht (HP6.out.bels BY).hl (Nat.le_refl _) (by omega)).mono ?_)
        (rintro e w11 ⟨rfl, hb11⟩)
        (have BX11 := Lib.hid (BY.trans (hb11.mono BY.size)))
        (rw [HCA.out])
        clear hb11 BY
        go_simp
        refine hK.out _ _ ?_ (fun hHeld => ?_)
        · exact ⟨(BX11.out.cell (p := ⟨ga, 0, none⟩) la0).trans a0, (BX11.out.cell (p := ⟨ga, 1, none⟩) la0).trans a1, (BX11.out.cell (p := ⟨gb, 0, none⟩) lb0).trans b0, (BX11.out.cell (p := ⟨gb, 1, none⟩) lb0).trans b1, (BX11.out.cell (p := ⟨gs, 0, none⟩) ls0).trans s0, (BX11.out.cell (p := ⟨gs, 1, none⟩) ls0).trans s1, BX11.out⟩
        clear hK K
        (try simp only [Act.put, List.setIfInBounds_toArray, List.set_cons_zero, List.set_cons_succ])
        refine wpAnyH_ready (rs := [20]) (by kernel_rfl) (by simp) ?_
        refine AllReadyH.cons (o := ⟨some 79, _, _, _, _, _⟩) rfl (fun K hK => ?_) AllReadyH.nil
        go_simp
        (have BY := (BEL.out _ (by assumption)))
        (refine (iCountStmts_any _ _ tz lb _ _ (HQ6.out.bels BY).ht (HQ6.out.bels BY).hl (Nat.le_refl _) (by omega)).mono ?_)
        (rintro e w12 ⟨rfl, hb12⟩)
        (have BX12 := Lib.hid (BY.trans (hb12.mono BY.size)))
        (rw [HCB.out])
        clear hb12 BY
        go_simp
        refine hK.out _ _ ?_ (fun hHeld => ?_)
        · exact ⟨(BX12.out.cell (p := ⟨ga, 0, none⟩) la0).trans a0, (BX12.out.cell (p := ⟨ga, 1, none⟩) la0).trans a1, (BX12.out.cell (p := ⟨gb, 0, none⟩) lb0).trans b0, (BX12.out.cell (p := ⟨gb, 1, none⟩) lb0).trans b1, (BX12.out.cell (p := ⟨gs, 0, none⟩) ls0).trans s0, (BX12.out.cell (p := ⟨gs, 1, none⟩) ls0).trans s1, BX12.out⟩
        clear hK K
        (try simp only [Act.put, List.setIfInBounds_toArray, List.set_cons_zero, List.set_cons_succ])
        refine wpAnyH_take (i := 21) (oi := ⟨some 80, _, _, _, _, _⟩) (v := ?_) rfl (by kernel_rfl) (by kernel_rfl) (by kernel_rfl) (fun _ _ _ h => h) (Or.inl ⟨by rfl, fun w' hSw => ?_⟩) (by assumption) ?_
        rotate_left
        · (try dsimp only at hSw); go_simp; (try with_reducible rfl)
        (try simp only [Act.put, List.setIfInBounds_toArray, List.set_cons_zero, List.set_cons_succ])
        refine wpAnyH_take (i := 22) (oi := ⟨some 81, _, _, _, _, _⟩) (v := ?_) rfl (by kernel_rfl) (by kernel_rfl) (by kernel_rfl) (fun _ _ _ h => h) (Or.inl ⟨by rfl, fun w' hSw => ?_⟩) (by assumption) ?_
        rotate_left
        · (try dsimp only at hSw); go_simp; (try with_reducible rfl)
        (try simp only [Act.put, List.setIfInBounds_toArray, List.set_cons_zero, List.set_cons_succ])
        refine wpAnyH_take (i := 23) (oi := ⟨some 82, _, _, _, _, _⟩) (v := ?_) rfl (by kernel_rfl) (by kernel_rfl) (by kernel_rfl) (fun _ _ _ h => h) (Or.inl ⟨by rfl, fun w' hSw => ?_⟩) (by assumption) ?_
        rotate_left
        · (try dsimp only at hSw); go_simp; (try with_reducible rfl)
        (try simp only [Act.put, List.setIfInBounds_toArray, List.set_cons_zero, List.set_cons_succ])
        refine wpAnyH_take (i := 24) (oi := ⟨some 2, _, _, _, _, _⟩) (v := ?_) rfl (by kernel_rfl) (by kernel_rfl) (by kernel_rfl) (fun _ _ _ h => h) (Or.inl ⟨by rfl, fun w' hSw => ?_⟩) (by assumption) ?_
        rotate_left
        · (try dsimp only at hSw); go_simp; (try with_reducible rfl)
        (try simp only [Act.put, List.setIfInBounds_toArray, List.set_cons_zero, List.set_cons_succ])
        refine wpAnyH_done (by kernel_rfl) ?_ _
        clear a0 a1 b0 b1 s0 s1 la0 lb0 ls0
        go_wp2_with (at_builtin; fail)
        go_ret
        exact ⟨ret_bool (by simp), (HP6.out.bels BX12.out).bel⟩
  · have hn1 : (1048576 : Int) < n := by omega
    unfold maxLen at hm
    go_enter Try.func6, Try.ntmps6
    go_wp2_with fail
    go_ret
    exact ⟨rfl, Below.refl _ _⟩

end Go.Proofs.Ytidlifijgooceaa
