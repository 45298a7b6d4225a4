import Derived.Test.YtidlifijgooceaaK28
import Derived.Test.YtidlifijgooceaaK30
import Derived.Test.YtidlifijgooceaaK40
import Derived.Test.YtidlifijgooceaaK35
set_option linter.unusedVariables false

/- FnDropStmt: the walk. -/
namespace Go.Proofs.Ytidlifijgooceaa
open Go.RowKit

theorem valid_erase {ts : List Int} {l : List St} {q : Nat} (h : validP ts l = true) : validP ts (l.eraseIdx q) = true := by
  have hs := szL_erase l q
  have e1 : l = l.take q ++ l.drop q := (List.take_append_drop q l).symm
  have e2 : l.drop q = (l.drop q).take 1 ++ (l.drop q).drop 1 := (List.take_append_drop 1 _).symm
  unfold validP at h ⊢
  rw [List.eraseIdx_eq_take_drop_succ] at *
  have hk : slOk ts 4 l = (slOk ts 4 (l.take q) && (slOk ts 4 ((l.drop q).take 1) && slOk ts 4 (l.drop (q + 1)))) := by
    conv => lhs; rw [e1, e2]
    rw [slOk_append, slOk_append, List.drop_drop]
  rw [hk] at h
  rw [slOk_append]
  simp only [Bool.and_eq_true, decide_eq_true_eq] at h ⊢
  obtain ⟨h1, ⟨h2, -, h3⟩, h4⟩ := h
  exact ⟨h1, ⟨h2, h3⟩, by omega⟩
theorem erase_last {l : List St} {q : Nat} (h : q + 1 = l.length) : ∃ s, l = l.eraseIdx q ++ [s] := by
  refine ⟨l[q], ?_⟩
  have e : l.drop (q + 1) = [] := List.drop_eq_nil_of_le (by omega)
  rw [List.eraseIdx_eq_take_drop_succ, e, List.append_nil]
  conv => lhs; rw [← List.take_append_drop q l, List.drop_eq_getElem_cons (by omega), e]
theorem chk_erase {ts : List Int} {l : List St} {q : Nat} (hv : validP ts l = true) (h : q + 1 = l.length) : (chkRes ts (l.eraseIdx q)).length ≤ (chkRes ts l).length := by
  have hve := valid_erase (q := q) hv
  obtain ⟨s, e⟩ := erase_last h
  unfold chkRes
  rw [if_pos hve, if_pos hv]
  have := chkL_cat ts (l.eraseIdx q) [s]
  rwa [← e] at this
theorem dr_parts {ts : List Int} {l : List St} {k : Int} (h : drOk ts l k = true) : validP ts l = true ∧ 0 ≤ k ∧ k < l.length := by
  simp [drOk, withinP] at h
  exact ⟨h.1, h.2.1, by omega⟩
set_option maxHeartbeats 8000000
set_option maxRecDepth 100000
theorem fnDropStmt_any (A : Option Addr) (n c : Nat) (w : World) (hb : Byt w w.heap.size A n) (hm : n ≤ maxLen) (hc : n ≤ c) :
    Calls Try.prog 5 #[.slice A n c] w (LawRet w) := by
  have HB := Lib.hid hb
  clear hb
  by_cases hn : n ≤ 1048576
  · go_enter Try.func5, Try.ntmps5
    go_wp2_with (at_builtin; fail)
    refine (drawDropStmt_any A n c _ HB.out hn hc).mono ?_
    rintro e w1 ⟨vt, vb, ts, l, k, rfl, hit, hst, hts, hsz, hb1⟩
    have HP1 := Lib.hid (PgB.new hit hst hb1)
    obtain ⟨At, ct, rfl, hct⟩ := hit.slice
    obtain ⟨Ab, cb, rfl, hcb⟩ := hst.slice
    clear hit hst hb1
    go_upto_region 4 with (at_builtin; fail)
    generalize w1.alloc (.cells #[.slice At ts.length ct, .slice Ab l.length cb] 26) = W1 at *
    obtain ⟨ga, hga⟩ : ∃ ga, ga = w1.heap.size := ⟨_, rfl⟩
    rw [← hga] at HP1 ⊢
    clear hga
    have a0 := HP1.out.c0
    have a1 := HP1.out.c1
    obtain ⟨tz, HTZ⟩ : ∃ tz, Hid (tz = if drOk ts l k then ts else []) := ⟨_, Lib.hid rfl⟩
    obtain ⟨lz, HLZ⟩ : ∃ lz, Hid (lz = if drOk ts l k then l.eraseIdx k.toNat else []) := ⟨_, Lib.hid rfl⟩
    have HSZ : Hid (szL lz ≤ szL l) := Lib.hid (by
      rw [HLZ.out]
      split
      · exact szL_erase _ _
      · simp [szL])
    have HTL : Hid (tz.length ≤ 700) := Lib.hid (by
      rw [HTZ.out]
      split
      · exact hts
      · simp)
    go_wp2_with (at_builtin; fail)
    refine (iDropStmt_any _ _ ts l k _ W1 HP1.out.ht HP1.out.hl (Nat.le_refl _) (by omega) (by omega)).mono ?_
    rintro e w2 ⟨vs, us, lo2, rfl, his, -, -, hss, hb2⟩
    rw [← HTZ.out] at his
    rw [← HLZ.out] at hss
    have hA2 := bel_a w2 (.cells #[vs, us] 26)
    have HP2 := Lib.hid ((HP1.out.bels hb2).bels hA2)
    have HS2 := Lib.hid (PgB.ofS (HP1.out.bels hb2).bel (his.toS (by have := HTL.out; omega)) hss.toS)
    obtain ⟨As, cs, rfl, -⟩ := his.slice
    obtain ⟨Bs, ds, rfl, -⟩ := hss.slice
    clear his hss hb2 hA2 a0 a1
    go_upto_region 5 with (at_builtin; fail)
    generalize w2.alloc (.cells #[.slice As tz.length cs, .slice Bs lz.length ds] 26) = W2 at *
    obtain ⟨gs, hgs⟩ : ∃ gs, gs = w2.heap.size := ⟨_, rfl⟩
    rw [← hgs] at HS2 ⊢
    clear hgs
    have a0 := HP2.out.c0
    have a1 := HP2.out.c1
    go_wp2_with (at_builtin; fail)
    refine (sDropStmt_any _ _ ts l k _ W2 HP2.out.ht HP2.out.hl (Nat.le_refl _) (by omega)).mono ?_
    rintro e w3 ⟨vx, ux, rfl, hix, hsx, hb3⟩
    rw [← HTZ.out] at hix
    rw [← HLZ.out] at hsx
    have hA3 := bel_a w3 (.cells #[vx, ux] 26)
    have HP3 := Lib.hid ((HP2.out.bels hb3).bels hA3)
    have HS3 := Lib.hid ((HS2.out.bels hb3).bels hA3)
    have HX3 := Lib.hid (PgB.ofS (HP2.out.bels hb3).bel hix hsx)
    obtain ⟨Ax, cx, rfl, -, -, -⟩ := id hix
    obtain ⟨Bx, dx, rfl, -⟩ := hsx.slice
    clear hix hsx hb3 hA3 a0 a1
    go_upto_region 6 with (at_builtin; fail)
    generalize w3.alloc (.cells #[.slice Ax tz.length cx, .slice Bx lz.length dx] 26) = W3 at *
    obtain ⟨gx, hgx⟩ : ∃ gx, gx = w3.heap.size := ⟨_, rfl⟩
    rw [← hgx] at HX3 ⊢
    clear hgx
    have s0 := HS3.out.c0
    have s1 := HS3.out.c1
    have x0 := HX3.out.c0
    have x1 := HX3.out.c1
    cases hq : drOk ts l k
    · have HSQ := Lib.hid hq
      clear hq
      go_wp2_with (at_builtin; fail)
      refine (iProgramSame_same _ _ _ _ tz lz _ _ HS3.out.ht HS3.out.hl HX3.out.ht HX3.out.hl (Nat.le_refl _) (by have := HSZ.out; omega)).mono ?_
      rintro e w4 ⟨rfl, hb4⟩
      have HS4 := Lib.hid (HS3.out.bels hb4)
      have HX4 := Lib.hid (HX3.out.bels hb4)
      clear hb4 s0 s1 x0 x1
      have s0 := HS4.out.c0
      have s1 := HS4.out.c1
      have x0 := HX4.out.c0
      have x1 := HX4.out.c1
      go_wp2_with (at_builtin; fail)
      refine (iProgramSame_same _ _ _ _ tz lz _ _ HS4.out.ht HS4.out.hl HX4.out.ht HX4.out.hl (Nat.le_refl _) (by have := HSZ.out; omega)).mono ?_
      rintro e w5 ⟨rfl, hb5⟩
      have HS5 := Lib.hid (HS4.out.bels hb5)
      clear hb5
      go_wp2_with (at_builtin; fail)
      go_ret
      exact ⟨ret_bool (by simp), HS5.out.bel⟩
    · obtain ⟨hva, hk0, hkl⟩ := dr_parts hq
      obtain ⟨q, rfl⟩ : ∃ q : Nat, k = q := ⟨k.toNat, by omega⟩
      have hql : q < l.length := by omega
      have htz : tz = ts := by rw [HTZ.out, hq]; rfl
      have hlz : lz = l.eraseIdx q := by rw [HLZ.out, hq]; rfl
      have hel : lz.length + 1 = l.length := by rw [hlz, List.length_eraseIdx_of_lt hql]; omega
      have HVE : Hid (validP ts lz = true) := Lib.hid (by rw [hlz]; exact valid_erase hva)
      have HCK : Hid (q + 1 = l.length → (chkRes ts lz).length ≤ (chkRes ts l).length) := Lib.hid (by rw [hlz]; exact chk_erase hva)
      have hll := len_le_szL l
      have HL1 := Lib.hid (chkRes_len ts l)
      have HL2 := Lib.hid (chkRes_len ts lz)
      subst htz
      clear hq hva hk0 hkl HTZ HLZ hlz
      have hw1 : (l.length : Int) - 1 = (lz.length : Int) := by omega
      have hel2 : ((lz.length : Int) == (lz.length : Int)) = true := by simp
      go_wp2_with (at_builtin; fail)
      refine (iProgramSame_same _ _ _ _ tz lz _ _ HS3.out.ht HS3.out.hl HX3.out.ht HX3.out.hl (Nat.le_refl _) (by have := HSZ.out; omega)).mono ?_
      rintro e w4 ⟨rfl, hb4⟩
      have HP4 := Lib.hid (HP3.out.bels hb4)
      have HS4 := Lib.hid (HS3.out.bels hb4)
      have hsz4 : szL lz ≤ 100000 := by have := HSZ.out; omega
      clear hb4 s0 s1 x0 x1 HP3 HS3 HX3 HSZ
      have a0 := HP4.out.c0
      have a1 := HP4.out.c1
      have hww : IntKind.i64.wrap (lz.length : Int) = (lz.length : Int) := IntWalk.i64_in _ (by omega)
      cases hlast : ((q : Int) == (lz.length : Int))
      · have HLAST := Lib.hid hlast
        have s0 := HS4.out.c0
        have s1 := HS4.out.c1
        have la0 := HP4.out.lt
        have ls0 := HS4.out.lt
        clear hlast
        go_wp2_with (at_builtin; fail)
        rw [HLAST.out]
        have BEL : Hid (∀ w', w'.cell? ⟨ga, 0, none⟩ = some (.slice At tz.length ct) ∧ w'.cell? ⟨ga, 1, none⟩ = some (.slice Ab l.length cb) ∧ w'.cell? ⟨gs, 0, none⟩ = some (.slice As tz.length cs) ∧ w'.cell? ⟨gs, 1, none⟩ = some (.slice Bs lz.length ds) ∧ Below w4.heap.size w4 w' → Below w4.heap.size w4 w') := Lib.hid fun _ h => h.2.2.2.2
        refine wp_region_held_drew (S := (fun w' => w'.cell? ⟨ga, 0, none⟩ = some (.slice At tz.length ct) ∧ w'.cell? ⟨ga, 1, none⟩ = some (.slice Ab l.length cb) ∧ w'.cell? ⟨gs, 0, none⟩ = some (.slice As tz.length cs) ∧ w'.cell? ⟨gs, 1, none⟩ = some (.slice Bs lz.length ds) ∧ Below w4.heap.size w4 w')) (by kernel_rfl) ?_ (fun hHeld => ?_)
        · exact ⟨a0, a1, s0, s1, (Below.refl _ _).drew⟩
        refine wpAnyH_take (i := 0) (oi := ⟨some 57, _, _, _, _, _⟩) (v := ?_) rfl (by kernel_rfl) (by kernel_rfl) (by kernel_rfl) (fun _ _ _ h => h) (Or.inl ⟨by rfl, fun w' hSw => ?_⟩) (by assumption) ?_
        rotate_left
        · (try dsimp only at hSw); go_simp; (try with_reducible rfl)
        (try simp only [Act.put, List.setIfInBounds_toArray, List.set_cons_zero, List.set_cons_succ])
        refine wpAnyH_ready (rs := [1]) (by kernel_rfl) (by simp) ?_
        refine AllReadyH.cons (o := ⟨some 58, _, _, _, _, _⟩) rfl (fun K hK => ?_) AllReadyH.nil
        go_simp
        (have BY := (BEL.out _ (by assumption)))
        (refine (iProgramValid_any _ _ tz lz _ _ (HS4.out.bels BY).ht (HS4.out.bels BY).hl (Nat.le_refl _) (by omega)).mono ?_)
        (rintro e w5 ⟨rfl, hb5⟩)
        (have BX5 := Lib.hid (BY.trans (hb5.mono BY.size)))
        (rw [HVE.out])
        clear hb5 BY
        go_simp
        refine hK.out _ _ ?_ (fun hHeld => ?_)
        · exact ⟨(BX5.out.cell (p := ⟨ga, 0, none⟩) la0).trans a0, (BX5.out.cell (p := ⟨ga, 1, none⟩) la0).trans a1, (BX5.out.cell (p := ⟨gs, 0, none⟩) ls0).trans s0, (BX5.out.cell (p := ⟨gs, 1, none⟩) ls0).trans s1, BX5.out⟩
        clear hK K
        (try simp only [Act.put, List.setIfInBounds_toArray, List.set_cons_zero, List.set_cons_succ])
        refine wpAnyH_take (i := 2) (oi := ⟨some 59, _, _, _, _, _⟩) (v := ?_) rfl (by kernel_rfl) (by kernel_rfl) (by kernel_rfl) (fun _ _ _ h => h) (Or.inl ⟨by rfl, fun w' hSw => ?_⟩) (by assumption) ?_
        rotate_left
        · (try dsimp only at hSw); go_simp; (try with_reducible rfl)
        (try simp only [Act.put, List.setIfInBounds_toArray, List.set_cons_zero, List.set_cons_succ])
        refine wpAnyH_take (i := 3) (oi := ⟨some 60, _, _, _, _, _⟩) (v := ?_) rfl (by kernel_rfl) (by kernel_rfl) (by kernel_rfl) (fun _ _ _ h => h) (Or.inl ⟨by rfl, fun w' hSw => ?_⟩) (by assumption) ?_
        rotate_left
        · (try dsimp only at hSw); go_simp; (try with_reducible rfl)
        (try simp only [Act.put, List.setIfInBounds_toArray, List.set_cons_zero, List.set_cons_succ])
        refine wpAnyH_take (i := 4) (oi := ⟨some 61, _, _, _, _, _⟩) (v := ?_) rfl (by kernel_rfl) (by kernel_rfl) (by kernel_rfl) (fun _ _ _ h => h) (Or.inl ⟨by rfl, fun w' hSw => ?_⟩) (by assumption) ?_
        rotate_left
        · (try dsimp only at hSw); go_simp; (try with_reducible rfl)
        (try simp only [Act.put, List.setIfInBounds_toArray, List.set_cons_zero, List.set_cons_succ])
        refine wpAnyH_take (i := 5) (oi := ⟨some 62, _, _, _, _, _⟩) (v := ?_) rfl (by kernel_rfl) (by kernel_rfl) (by kernel_rfl) (fun _ _ _ h => h) (Or.inl ⟨by rfl, fun w' hSw => ?_⟩) (by assumption) ?_
        rotate_left
        · (try dsimp only at hSw); go_simp; (try with_reducible rfl)
        (try simp only [Act.put, List.setIfInBounds_toArray, List.set_cons_zero, List.set_cons_succ])
        refine wpAnyH_take (i := 6) (oi := ⟨some 63, _, _, _, _, _⟩) (v := ?_) rfl (by kernel_rfl) (by kernel_rfl) (by kernel_rfl) (fun _ _ _ h => h) (Or.inl ⟨by rfl, fun w' hSw => ?_⟩) (by assumption) ?_
        rotate_left
        · (try dsimp only at hSw); go_simp; (try with_reducible rfl)
        (try simp only [Act.put, List.setIfInBounds_toArray, List.set_cons_zero, List.set_cons_succ])
        refine wpAnyH_take (i := 7) (oi := ⟨some 64, _, _, _, _, _⟩) (v := ?_) rfl (by kernel_rfl) (by kernel_rfl) (by kernel_rfl) (fun _ _ _ h => h) (Or.inl ⟨by rfl, fun w' hSw => ?_⟩) (by assumption) ?_
        rotate_left
        · (try dsimp only at hSw); go_simp; (try with_reducible rfl)
        (try simp only [Act.put, List.setIfInBounds_toArray, List.set_cons_zero, List.set_cons_succ])
        refine wpAnyH_take (i := 8) (oi := ⟨some 65, _, _, _, _, _⟩) (v := ?_) rfl (by kernel_rfl) (by kernel_rfl) (by kernel_rfl) (fun _ _ _ h => h) (Or.inl ⟨by rfl, fun w' hSw => ?_⟩) (by assumption) ?_
        rotate_left
        · (try dsimp only at hSw); go_simp; (try with_reducible rfl)
        (try simp only [Act.put, List.setIfInBounds_toArray, List.set_cons_zero, List.set_cons_succ])
        refine wpAnyH_take (i := 9) (oi := ⟨some 66, _, _, _, _, _⟩) (v := ?_) rfl (by kernel_rfl) (by kernel_rfl) (by kernel_rfl) (fun _ _ _ h => h) (Or.inl ⟨by rfl, fun w' hSw => ?_⟩) (by assumption) ?_
        rotate_left
        · (try dsimp only at hSw); go_simp; (try with_reducible rfl)
        (try simp only [Act.put, List.setIfInBounds_toArray, List.set_cons_zero, List.set_cons_succ])
        refine wpAnyH_ready (rs := [10]) (by kernel_rfl) (by simp) ?_
        refine AllReadyH.cons (o := ⟨some 67, _, _, _, _, _⟩) rfl (fun K hK => ?_) AllReadyH.nil
        go_simp
        (first | rw [hww] | skip)
        (first | rw [hel2] | skip)
        refine hK.out _ _ ?_ (fun hHeld => ?_)
        · assumption
        clear hK K
        (try simp only [Act.put, List.setIfInBounds_toArray, List.set_cons_zero, List.set_cons_succ])
        refine wpAnyH_take (i := 11) (oi := ⟨some 68, _, _, _, _, _⟩) (v := ?_) rfl (by kernel_rfl) (by kernel_rfl) (by kernel_rfl) (fun _ _ _ h => h) (Or.inl ⟨by rfl, fun w' hSw => ?_⟩) (by assumption) ?_
        rotate_left
        · (try dsimp only at hSw); go_simp; (try with_reducible rfl)
        (try simp only [Act.put, List.setIfInBounds_toArray, List.set_cons_zero, List.set_cons_succ])
        refine wpAnyH_take (i := 12) (oi := ⟨some 69, _, _, _, _, _⟩) (v := ?_) rfl (by kernel_rfl) (by kernel_rfl) (by kernel_rfl) (fun _ _ _ h => h) (Or.inl ⟨by rfl, fun w' hSw => ?_⟩) (by assumption) ?_
        rotate_left
        · (try dsimp only at hSw); go_simp; (try with_reducible rfl)
        (try simp only [Act.put, List.setIfInBounds_toArray, List.set_cons_zero, List.set_cons_succ])
        refine wpAnyH_take (i := 13) (oi := ⟨some 70, _, _, _, _, _⟩) (v := ?_) rfl (by kernel_rfl) (by kernel_rfl) (by kernel_rfl) (fun _ _ _ h => h) (Or.inl ⟨by rfl, fun w' hSw => ?_⟩) (by assumption) ?_
        rotate_left
        · (try dsimp only at hSw); go_simp; (try with_reducible rfl)
        (try simp only [Act.put, List.setIfInBounds_toArray, List.set_cons_zero, List.set_cons_succ])
        refine wpAnyH_take (i := 14) (oi := ⟨some 71, _, _, _, _, _⟩) (v := ?_) rfl (by kernel_rfl) (by kernel_rfl) (by kernel_rfl) (fun _ _ _ h => h) (Or.inl ⟨by rfl, fun w' hSw => ?_⟩) (by assumption) ?_
        rotate_left
        · (try dsimp only at hSw); go_simp; (try with_reducible rfl)
        (try simp only [Act.put, List.setIfInBounds_toArray, List.set_cons_zero, List.set_cons_succ])
        refine wpAnyH_take (i := 15) (oi := ⟨some 72, _, _, _, _, _⟩) (v := ?_) rfl (by kernel_rfl) (by kernel_rfl) (by kernel_rfl) (fun _ _ _ h => h) (Or.inl ⟨by rfl, fun w' hSw => ?_⟩) (by assumption) ?_
        rotate_left
        · (try dsimp only at hSw); go_simp; (try with_reducible rfl)
        (try simp only [Act.put, List.setIfInBounds_toArray, List.set_cons_zero, List.set_cons_succ])
        refine wpAnyH_take (i := 16) (oi := ⟨some 73, _, _, _, _, _⟩) (v := undef) rfl (by kernel_rfl) (by kernel_rfl) (by kernel_rfl) (fun _ _ _ h => h) (Or.inr ⟨by rfl, rfl⟩) (by assumption) ?_
        (try simp only [Act.put, List.setIfInBounds_toArray, List.set_cons_zero, List.set_cons_succ])
        refine wpAnyH_take (i := 17) (oi := ⟨some 74, _, _, _, _, _⟩) (v := undef) rfl (by kernel_rfl) (by kernel_rfl) (by kernel_rfl) (fun _ _ _ h => h) (Or.inr ⟨by rfl, rfl⟩) (by assumption) ?_
        (try simp only [Act.put, List.setIfInBounds_toArray, List.set_cons_zero, List.set_cons_succ])
        refine wpAnyH_take (i := 18) (oi := ⟨some 75, _, _, _, _, _⟩) (v := undef) rfl (by kernel_rfl) (by kernel_rfl) (by kernel_rfl) (fun _ _ _ h => h) (Or.inr ⟨by rfl, rfl⟩) (by assumption) ?_
        (try simp only [Act.put, List.setIfInBounds_toArray, List.set_cons_zero, List.set_cons_succ])
        refine wpAnyH_take (i := 19) (oi := ⟨some 76, _, _, _, _, _⟩) (v := undef) rfl (by kernel_rfl) (by kernel_rfl) (by kernel_rfl) (fun _ _ _ h => h) (Or.inr ⟨by rfl, rfl⟩) (by assumption) ?_
        (try simp only [Act.put, List.setIfInBounds_toArray, List.set_cons_zero, List.set_cons_succ])
        refine wpAnyH_take (i := 20) (oi := ⟨some 77, _, _, _, _, _⟩) (v := undef) rfl (by kernel_rfl) (by kernel_rfl) (by kernel_rfl) (fun _ _ _ h => h) (Or.inr ⟨by rfl, rfl⟩) (by assumption) ?_
        (try simp only [Act.put, List.setIfInBounds_toArray, List.set_cons_zero, List.set_cons_succ])
        refine wpAnyH_take (i := 21) (oi := ⟨some 78, _, _, _, _, _⟩) (v := undef) rfl (by kernel_rfl) (by kernel_rfl) (by kernel_rfl) (fun _ _ _ h => h) (Or.inr ⟨by rfl, rfl⟩) (by assumption) ?_
        (try simp only [Act.put, List.setIfInBounds_toArray, List.set_cons_zero, List.set_cons_succ])
        refine wpAnyH_take (i := 22) (oi := ⟨some 79, _, _, _, _, _⟩) (v := undef) rfl (by kernel_rfl) (by kernel_rfl) (by kernel_rfl) (fun _ _ _ h => h) (Or.inr ⟨by rfl, rfl⟩) (by assumption) ?_
        (try simp only [Act.put, List.setIfInBounds_toArray, List.set_cons_zero, List.set_cons_succ])
        refine wpAnyH_take (i := 23) (oi := ⟨some 80, _, _, _, _, _⟩) (v := ?_) rfl (by kernel_rfl) (by kernel_rfl) (by kernel_rfl) (fun _ _ _ h => h) (Or.inl ⟨by rfl, fun w' hSw => ?_⟩) (by assumption) ?_
        rotate_left
        · (try dsimp only at hSw); go_simp; (try with_reducible rfl)
        (try simp only [Act.put, List.setIfInBounds_toArray, List.set_cons_zero, List.set_cons_succ])
        refine wpAnyH_take (i := 24) (oi := ⟨some 81, _, _, _, _, _⟩) (v := ?_) rfl (by kernel_rfl) (by kernel_rfl) (by kernel_rfl) (fun _ _ _ h => h) (Or.inl ⟨by rfl, fun w' hSw => ?_⟩) (by assumption) ?_
        rotate_left
        · (try dsimp only at hSw); go_simp; (try with_reducible rfl)
        (try simp only [Act.put, List.setIfInBounds_toArray, List.set_cons_zero, List.set_cons_succ])
        refine wpAnyH_take (i := 25) (oi := ⟨some 2, _, _, _, _, _⟩) (v := ?_) rfl (by kernel_rfl) (by kernel_rfl) (by kernel_rfl) (fun _ _ _ h => h) (Or.inl ⟨by rfl, fun w' hSw => ?_⟩) (by assumption) ?_
        rotate_left
        · (try dsimp only at hSw); go_simp; (try with_reducible rfl)
        (try simp only [Act.put, List.setIfInBounds_toArray, List.set_cons_zero, List.set_cons_succ])
        refine wpAnyH_done (by kernel_rfl) ?_ _
        clear a0 a1 s0 s1 la0 ls0
        go_wp2_with (at_builtin; fail)
        go_ret
        exact ⟨ret_bool (by simp), (HP4.out.bels BX5.out).bel⟩
      · have HLAST := Lib.hid hlast
        have s0 := HS4.out.c0
        have s1 := HS4.out.c1
        have la0 := HP4.out.lt
        have ls0 := HS4.out.lt
        have hqe : q + 1 = l.length := by
          have : (q : Int) = (lz.length : Int) := by simpa using hlast
          omega
        have hle : ((chkRes tz lz).length : Int) ≤ ((chkRes tz l).length : Int) := by have := HCK.out hqe; omega
        have hle2 : decide (((chkRes tz lz).length : Int) ≤ ((chkRes tz l).length : Int)) = true := decide_eq_true hle
        clear hlast
        go_wp2_with (at_builtin; fail)
        rw [HLAST.out]
        have BEL : Hid (∀ w', w'.cell? ⟨ga, 0, none⟩ = some (.slice At tz.length ct) ∧ w'.cell? ⟨ga, 1, none⟩ = some (.slice Ab l.length cb) ∧ w'.cell? ⟨gs, 0, none⟩ = some (.slice As tz.length cs) ∧ w'.cell? ⟨gs, 1, none⟩ = some (.slice Bs lz.length ds) ∧ Below w4.heap.size w4 w' → Below w4.heap.size w4 w') := Lib.hid fun _ h => h.2.2.2.2
        refine wp_region_held_drew (S := (fun w' => w'.cell? ⟨ga, 0, none⟩ = some (.slice At tz.length ct) ∧ w'.cell? ⟨ga, 1, none⟩ = some (.slice Ab l.length cb) ∧ w'.cell? ⟨gs, 0, none⟩ = some (.slice As tz.length cs) ∧ w'.cell? ⟨gs, 1, none⟩ = some (.slice Bs lz.length ds) ∧ Below w4.heap.size w4 w')) (by kernel_rfl) ?_ (fun hHeld => ?_)
        · exact ⟨a0, a1, s0, s1, (Below.refl _ _).drew⟩
        refine wpAnyH_take (i := 0) (oi := ⟨some 57, _, _, _, _, _⟩) (v := ?_) rfl (by kernel_rfl) (by kernel_rfl) (by kernel_rfl) (fun _ _ _ h => h) (Or.inl ⟨by rfl, fun w' hSw => ?_⟩) (by assumption) ?_
        rotate_left
        · (try dsimp only at hSw); go_simp; (try with_reducible rfl)
        (try simp only [Act.put, List.setIfInBounds_toArray, List.set_cons_zero, List.set_cons_succ])
        refine wpAnyH_ready (rs := [1]) (by kernel_rfl) (by simp) ?_
        refine AllReadyH.cons (o := ⟨some 58, _, _, _, _, _⟩) rfl (fun K hK => ?_) AllReadyH.nil
        go_simp
        (have BY := (BEL.out _ (by assumption)))
        (refine (iProgramValid_any _ _ tz lz _ _ (HS4.out.bels BY).ht (HS4.out.bels BY).hl (Nat.le_refl _) (by omega)).mono ?_)
        (rintro e w5 ⟨rfl, hb5⟩)
        (have BX5 := Lib.hid (BY.trans (hb5.mono BY.size)))
        (rw [HVE.out])
        clear hb5 BY
        go_simp
        refine hK.out _ _ ?_ (fun hHeld => ?_)
        · exact ⟨(BX5.out.cell (p := ⟨ga, 0, none⟩) la0).trans a0, (BX5.out.cell (p := ⟨ga, 1, none⟩) la0).trans a1, (BX5.out.cell (p := ⟨gs, 0, none⟩) ls0).trans s0, (BX5.out.cell (p := ⟨gs, 1, none⟩) ls0).trans s1, BX5.out⟩
        clear hK K
        (try simp only [Act.put, List.setIfInBounds_toArray, List.set_cons_zero, List.set_cons_succ])
        refine wpAnyH_take (i := 2) (oi := ⟨some 59, _, _, _, _, _⟩) (v := ?_) rfl (by kernel_rfl) (by kernel_rfl) (by kernel_rfl) (fun _ _ _ h => h) (Or.inl ⟨by rfl, fun w' hSw => ?_⟩) (by assumption) ?_
        rotate_left
        · (try dsimp only at hSw); go_simp; (try with_reducible rfl)
        (try simp only [Act.put, List.setIfInBounds_toArray, List.set_cons_zero, List.set_cons_succ])
        refine wpAnyH_take (i := 3) (oi := ⟨some 60, _, _, _, _, _⟩) (v := ?_) rfl (by kernel_rfl) (by kernel_rfl) (by kernel_rfl) (fun _ _ _ h => h) (Or.inl ⟨by rfl, fun w' hSw => ?_⟩) (by assumption) ?_
        rotate_left
        · (try dsimp only at hSw); go_simp; (try with_reducible rfl)
        (try simp only [Act.put, List.setIfInBounds_toArray, List.set_cons_zero, List.set_cons_succ])
        refine wpAnyH_take (i := 4) (oi := ⟨some 61, _, _, _, _, _⟩) (v := ?_) rfl (by kernel_rfl) (by kernel_rfl) (by kernel_rfl) (fun _ _ _ h => h) (Or.inl ⟨by rfl, fun w' hSw => ?_⟩) (by assumption) ?_
        rotate_left
        · (try dsimp only at hSw); go_simp; (try with_reducible rfl)
        (try simp only [Act.put, List.setIfInBounds_toArray, List.set_cons_zero, List.set_cons_succ])
        refine wpAnyH_take (i := 5) (oi := ⟨some 62, _, _, _, _, _⟩) (v := ?_) rfl (by kernel_rfl) (by kernel_rfl) (by kernel_rfl) (fun _ _ _ h => h) (Or.inl ⟨by rfl, fun w' hSw => ?_⟩) (by assumption) ?_
        rotate_left
        · (try dsimp only at hSw); go_simp; (try with_reducible rfl)
        (try simp only [Act.put, List.setIfInBounds_toArray, List.set_cons_zero, List.set_cons_succ])
        refine wpAnyH_take (i := 6) (oi := ⟨some 63, _, _, _, _, _⟩) (v := ?_) rfl (by kernel_rfl) (by kernel_rfl) (by kernel_rfl) (fun _ _ _ h => h) (Or.inl ⟨by rfl, fun w' hSw => ?_⟩) (by assumption) ?_
        rotate_left
        · (try dsimp only at hSw); go_simp; (try with_reducible rfl)
        (try simp only [Act.put, List.setIfInBounds_toArray, List.set_cons_zero, List.set_cons_succ])
        refine wpAnyH_take (i := 7) (oi := ⟨some 64, _, _, _, _, _⟩) (v := ?_) rfl (by kernel_rfl) (by kernel_rfl) (by kernel_rfl) (fun _ _ _ h => h) (Or.inl ⟨by rfl, fun w' hSw => ?_⟩) (by assumption) ?_
        rotate_left
        · (try dsimp only at hSw); go_simp; (try with_reducible rfl)
        (try simp only [Act.put, List.setIfInBounds_toArray, List.set_cons_zero, List.set_cons_succ])
        refine wpAnyH_take (i := 8) (oi := ⟨some 65, _, _, _, _, _⟩) (v := ?_) rfl (by kernel_rfl) (by kernel_rfl) (by kernel_rfl) (fun _ _ _ h => h) (Or.inl ⟨by rfl, fun w' hSw => ?_⟩) (by assumption) ?_
        rotate_left
        · (try dsimp only at hSw); go_simp; (try with_reducible rfl)
        (try simp only [Act.put, List.setIfInBounds_toArray, List.set_cons_zero, List.set_cons_succ])
        refine wpAnyH_take (i := 9) (oi := ⟨some 66, _, _, _, _, _⟩) (v := ?_) rfl (by kernel_rfl) (by kernel_rfl) (by kernel_rfl) (fun _ _ _ h => h) (Or.inl ⟨by rfl, fun w' hSw => ?_⟩) (by assumption) ?_
        rotate_left
        · (try dsimp only at hSw); go_simp; (try with_reducible rfl)
        (try simp only [Act.put, List.setIfInBounds_toArray, List.set_cons_zero, List.set_cons_succ])
        refine wpAnyH_ready (rs := [10]) (by kernel_rfl) (by simp) ?_
        refine AllReadyH.cons (o := ⟨some 67, _, _, _, _, _⟩) rfl (fun K hK => ?_) AllReadyH.nil
        go_simp
        (first | rw [hww] | skip)
        (first | rw [hel2] | skip)
        refine hK.out _ _ ?_ (fun hHeld => ?_)
        · assumption
        clear hK K
        (try simp only [Act.put, List.setIfInBounds_toArray, List.set_cons_zero, List.set_cons_succ])
        refine wpAnyH_take (i := 11) (oi := ⟨some 68, _, _, _, _, _⟩) (v := ?_) rfl (by kernel_rfl) (by kernel_rfl) (by kernel_rfl) (fun _ _ _ h => h) (Or.inl ⟨by rfl, fun w' hSw => ?_⟩) (by assumption) ?_
        rotate_left
        · (try dsimp only at hSw); go_simp; (try with_reducible rfl)
        (try simp only [Act.put, List.setIfInBounds_toArray, List.set_cons_zero, List.set_cons_succ])
        refine wpAnyH_take (i := 12) (oi := ⟨some 69, _, _, _, _, _⟩) (v := ?_) rfl (by kernel_rfl) (by kernel_rfl) (by kernel_rfl) (fun _ _ _ h => h) (Or.inl ⟨by rfl, fun w' hSw => ?_⟩) (by assumption) ?_
        rotate_left
        · (try dsimp only at hSw); go_simp; (try with_reducible rfl)
        (try simp only [Act.put, List.setIfInBounds_toArray, List.set_cons_zero, List.set_cons_succ])
        refine wpAnyH_take (i := 13) (oi := ⟨some 70, _, _, _, _, _⟩) (v := ?_) rfl (by kernel_rfl) (by kernel_rfl) (by kernel_rfl) (fun _ _ _ h => h) (Or.inl ⟨by rfl, fun w' hSw => ?_⟩) (by assumption) ?_
        rotate_left
        · (try dsimp only at hSw); go_simp; (try with_reducible rfl)
        (try simp only [Act.put, List.setIfInBounds_toArray, List.set_cons_zero, List.set_cons_succ])
        refine wpAnyH_take (i := 14) (oi := ⟨some 71, _, _, _, _, _⟩) (v := ?_) rfl (by kernel_rfl) (by kernel_rfl) (by kernel_rfl) (fun _ _ _ h => h) (Or.inl ⟨by rfl, fun w' hSw => ?_⟩) (by assumption) ?_
        rotate_left
        · (try dsimp only at hSw); go_simp; (try with_reducible rfl)
        (try simp only [Act.put, List.setIfInBounds_toArray, List.set_cons_zero, List.set_cons_succ])
        refine wpAnyH_take (i := 15) (oi := ⟨some 72, _, _, _, _, _⟩) (v := ?_) rfl (by kernel_rfl) (by kernel_rfl) (by kernel_rfl) (fun _ _ _ h => h) (Or.inl ⟨by rfl, fun w' hSw => ?_⟩) (by assumption) ?_
        rotate_left
        · (try dsimp only at hSw); go_simp; (try with_reducible rfl)
        (try simp only [Act.put, List.setIfInBounds_toArray, List.set_cons_zero, List.set_cons_succ])
        refine wpAnyH_take (i := 16) (oi := ⟨some 73, _, _, _, _, _⟩) (v := ?_) rfl (by kernel_rfl) (by kernel_rfl) (by kernel_rfl) (fun _ _ _ h => h) (Or.inl ⟨by rfl, fun w' hSw => ?_⟩) (by assumption) ?_
        rotate_left
        · (try dsimp only at hSw); go_simp; (try with_reducible rfl)
        (try simp only [Act.put, List.setIfInBounds_toArray, List.set_cons_zero, List.set_cons_succ])
        refine wpAnyH_take (i := 19) (oi := ⟨some 76, _, _, _, _, _⟩) (v := ?_) rfl (by kernel_rfl) (by kernel_rfl) (by kernel_rfl) (fun _ _ _ h => h) (Or.inl ⟨by rfl, fun w' hSw => ?_⟩) (by assumption) ?_
        rotate_left
        · (try dsimp only at hSw); go_simp; (try with_reducible rfl)
        (try simp only [Act.put, List.setIfInBounds_toArray, List.set_cons_zero, List.set_cons_succ])
        refine wpAnyH_ready (rs := [17]) (by kernel_rfl) (by simp) ?_
        refine AllReadyH.cons (o := ⟨some 74, _, _, _, _, _⟩) rfl (fun K hK => ?_) AllReadyH.nil
        go_simp
        (have BY := (BEL.out _ (by assumption)))
        (refine (iCheckProgram_any _ _ tz lz _ _ (HS4.out.bels BY).ht (HS4.out.bels BY).hl (Nat.le_refl _) (by omega)).mono ?_)
        (rintro e w6 ⟨v6, rfl, hv6, hb6⟩)
        (have BX6 := Lib.hid (BY.trans (hb6.mono BY.size)))
        (obtain ⟨A6, c6, rfl, -⟩ := hv6.slice)
        clear hv6
        clear hb6 BY
        go_simp
        refine hK.out _ _ ?_ (fun hHeld => ?_)
        · exact ⟨(BX6.out.cell (p := ⟨ga, 0, none⟩) la0).trans a0, (BX6.out.cell (p := ⟨ga, 1, none⟩) la0).trans a1, (BX6.out.cell (p := ⟨gs, 0, none⟩) ls0).trans s0, (BX6.out.cell (p := ⟨gs, 1, none⟩) ls0).trans s1, BX6.out⟩
        clear hK K
        (try simp only [Act.put, List.setIfInBounds_toArray, List.set_cons_zero, List.set_cons_succ])
        refine wpAnyH_take (i := 18) (oi := ⟨some 75, _, _, _, _, _⟩) (v := ?_) rfl (by kernel_rfl) (by kernel_rfl) (by kernel_rfl) (fun _ _ _ h => h) (Or.inl ⟨by rfl, fun w' hSw => ?_⟩) (by assumption) ?_
        rotate_left
        · (try dsimp only at hSw); go_simp; (try with_reducible rfl)
        (try simp only [Act.put, List.setIfInBounds_toArray, List.set_cons_zero, List.set_cons_succ])
        refine wpAnyH_ready (rs := [20]) (by kernel_rfl) (by simp) ?_
        refine AllReadyH.cons (o := ⟨some 77, _, _, _, _, _⟩) rfl (fun K hK => ?_) AllReadyH.nil
        go_simp
        (have BY := (BEL.out _ (by assumption)))
        (refine (iCheckProgram_any _ _ tz l _ _ (HP4.out.bels BY).ht (HP4.out.bels BY).hl (Nat.le_refl _) (by omega)).mono ?_)
        (rintro e w7 ⟨v7, rfl, hv7, hb7⟩)
        (have BX7 := Lib.hid (BY.trans (hb7.mono BY.size)))
        (obtain ⟨A7, c7, rfl, -⟩ := hv7.slice)
        clear hv7
        clear hb7 BY
        go_simp
        refine hK.out _ _ ?_ (fun hHeld => ?_)
        · exact ⟨(BX7.out.cell (p := ⟨ga, 0, none⟩) la0).trans a0, (BX7.out.cell (p := ⟨ga, 1, none⟩) la0).trans a1, (BX7.out.cell (p := ⟨gs, 0, none⟩) ls0).trans s0, (BX7.out.cell (p := ⟨gs, 1, none⟩) ls0).trans s1, BX7.out⟩
        clear hK K
        (try simp only [Act.put, List.setIfInBounds_toArray, List.set_cons_zero, List.set_cons_succ])
        refine wpAnyH_take (i := 21) (oi := ⟨some 78, _, _, _, _, _⟩) (v := ?_) rfl (by kernel_rfl) (by kernel_rfl) (by kernel_rfl) (fun _ _ _ h => h) (Or.inl ⟨by rfl, fun w' hSw => ?_⟩) (by assumption) ?_
        rotate_left
        · (try dsimp only at hSw); go_simp; (try with_reducible rfl)
        (try simp only [Act.put, List.setIfInBounds_toArray, List.set_cons_zero, List.set_cons_succ])
        refine wpAnyH_take (i := 22) (oi := ⟨some 79, _, _, _, _, _⟩) (v := ?_) rfl (by kernel_rfl) (by kernel_rfl) (by kernel_rfl) (fun _ _ _ h => h) (Or.inl ⟨by rfl, fun w' hSw => ?_⟩) (by assumption) ?_
        rotate_left
        · (try dsimp only at hSw); go_simp; (try with_reducible rfl)
        (try simp only [Act.put, List.setIfInBounds_toArray, List.set_cons_zero, List.set_cons_succ])
        refine wpAnyH_take (i := 23) (oi := ⟨some 80, _, _, _, _, _⟩) (v := ?_) rfl (by kernel_rfl) (by kernel_rfl) (by kernel_rfl) (fun _ _ _ h => h) (Or.inl ⟨by rfl, fun w' hSw => ?_⟩) (by assumption) ?_
        rotate_left
        · (try dsimp only at hSw); go_simp; (try with_reducible rfl)
        (try simp only [Act.put, List.setIfInBounds_toArray, List.set_cons_zero, List.set_cons_succ])
        refine wpAnyH_take (i := 24) (oi := ⟨some 81, _, _, _, _, _⟩) (v := ?_) rfl (by kernel_rfl) (by kernel_rfl) (by kernel_rfl) (fun _ _ _ h => h) (Or.inl ⟨by rfl, fun w' hSw => ?_⟩) (by assumption) ?_
        rotate_left
        · (try dsimp only at hSw); go_simp; (try with_reducible rfl)
        (try simp only [Act.put, List.setIfInBounds_toArray, List.set_cons_zero, List.set_cons_succ])
        refine wpAnyH_take (i := 25) (oi := ⟨some 2, _, _, _, _, _⟩) (v := ?_) rfl (by kernel_rfl) (by kernel_rfl) (by kernel_rfl) (fun _ _ _ h => h) (Or.inl ⟨by rfl, fun w' hSw => ?_⟩) (by assumption) ?_
        rotate_left
        · (try dsimp only at hSw); go_simp; (try with_reducible rfl)
        (try simp only [Act.put, List.setIfInBounds_toArray, List.set_cons_zero, List.set_cons_succ])
        refine wpAnyH_done (by kernel_rfl) ?_ _
        clear a0 a1 s0 s1 la0 ls0
        go_wp2_with (at_builtin; fail)
        go_ret
        exact ⟨ret_bool (by simp), (HP4.out.bels BX7.out).bel⟩
  · have hn1 : (1048576 : Int) < n := by omega
    unfold maxLen at hm
    go_enter Try.func5, Try.ntmps5
    go_wp2_with fail
    go_ret
    exact ⟨rfl, Below.refl _ _⟩

end Go.Proofs.Ytidlifijgooceaa
