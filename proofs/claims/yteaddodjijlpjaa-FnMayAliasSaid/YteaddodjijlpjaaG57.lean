import Derived.Test.YteaddodjijlpjaaG52
set_option linter.unusedVariables false

/- spec.MayAlias, UsersOf. -/
namespace Go.Proofs.Yteaddodjijlpjaa
open Go.RowKit

theorem row_bit {ts : List Int} {pts : List Pt} {G : Nat → Pt → Nat → Bool} {C : Pt → Bool} {k v e : Nat} {R : List (List (List Bool))} (h : ∀ i v e, get3 R i v e = true ↔ Fl ts pts G C i v e) :
    ((R.getD k []).getD v []).getD e false = dec (Fl ts pts G C k v e) := by
  rw [Bool.eq_iff_iff, dec_iff, ← h k v e]; rfl
set_option maxHeartbeats 4000000 in
set_option maxRecDepth 100000 in
theorem sMayAlias_any (vt vb : Value) (ts : List Int) (l : List St) (a v u : Int) (B : Nat) (w : World) (ht : IntS w B vt ts) (hl : StS w B vb l) (hB : B ≤ w.heap.size) (hsz : szL l ≤ 4194300) :
    Calls Try.prog 17 #[.agg #[vt, vb], .int .i64 a, .int .i64 v, .int .i64 u] w fun e w' => e = .returned (.bool (aliasRes ts l a v u)) ∧ Below w.heap.size w w' := by
  have HBX := Lib.hid (Boxed.new ht hl hB 26)
  obtain ⟨At, ct, rfl, hct, -, -⟩ := ht
  obtain ⟨Ab, cb, rfl, hcb⟩ := hl.slice
  clear hl
  go_enter Try.func17, Try.ntmps17
  go_wp2_with fail
  refine (l3Point_any _ _ ts l a v B _ HBX.out.ht HBX.out.hl (by simp; omega) hsz).mono ?_
  rintro e w0 ⟨rfl, hb0⟩
  have HB0 := Lib.hid (HBX.out.bels hb0 hB)
  have c0 := HB0.out.c0
  have c1 := HB0.out.c1
  have hs0 := HB0.out.lt
  clear hb0
  cases hpv : pointB ts l a v
  · have HRES : Hid (aliasRes ts l a v u = false) := Lib.hid (by unfold aliasRes; unfold pointB at hpv; rw [hpv]; rfl)
    clear hpv
    go_wp2_with fail
    go_ret
    exact ⟨ret_bool HRES.out.symm, HB0.out.bel⟩
  · have HPV := Lib.hid hpv
    clear hpv
    go_wp2_with fail
    refine (l3Point_any _ _ ts l a u B _ HB0.out.ht HB0.out.hl (by omega) hsz).mono ?_
    rintro e w1 ⟨rfl, hb1⟩
    have HB1 := Lib.hid (HB0.out.bels hb1 hB)
    have hs1 := HB1.out.lt
    clear hb1 c0 c1
    have c0 := HB1.out.c0
    have c1 := HB1.out.c1
    cases hpu : pointB ts l a u
    · have HRES : Hid (aliasRes ts l a v u = false) := Lib.hid (by
        unfold aliasRes
        have h1 := HPV.out
        unfold pointB at h1 hpu
        rw [Bool.and_eq_true] at h1
        rw [h1.1, Bool.true_and] at hpu
        rw [h1.1, h1.2, hpu]; rfl)
      clear hpu
      go_wp2_with fail
      go_ret
      exact ⟨ret_bool HRES.out.symm, HB1.out.bel⟩
    · have hpb' : graphOk ts l [a] = true ∧ withinP v 0 ((ts.length : Int) - 1) = true := by have := HPV.out; unfold pointB at this; simpa using this
      have hpu' : graphOk ts l [a] = true ∧ withinP u 0 ((ts.length : Int) - 1) = true := by unfold pointB at hpu; simpa using hpu
      obtain ⟨hok, hwv⟩ := hpb'
      have hwu := hpu'.2
      obtain ⟨hv, k, rfl, hk⟩ := graphOk_one hok
      have hv0 : 0 ≤ v ∧ v < ts.length := by simp [withinP] at hwv; omega
      have hu0 : 0 ≤ u ∧ u < ts.length := by simp [withinP] at hwu; omega
      obtain ⟨x, rfl⟩ : ∃ x : Nat, v = x := ⟨v.toNat, by omega⟩
      obtain ⟨y, rfl⟩ : ∃ y : Nat, u = y := ⟨u.toNat, by omega⟩
      have hx : x < ts.length := by omega
      have hy : y < ts.length := by omega
      have HRES : Hid (aliasRes ts l (k : Nat) (x : Nat) (y : Nat) = (List.range (ptsP l).length).any fun e => dec (Fl ts (ptsP l) Gcell Ccell k x e) && dec (Fl ts (ptsP l) Gcell Ccell k y e)) := Lib.hid (by unfold aliasRes; rw [hwv, hok, hwu]; rfl)
      have GD := Lib.hid (Good.of_valid hv)
      have HV := Lib.hid hv
      have hplen := GD.out.len
      clear hpu hpu' hok hwv hv hv0 hu0 hwu
      go_wp2_with fail
      have BEL : Hid (∀ w', w'.cell? ⟨w.heap.size, 0, none⟩ = some (.slice At ts.length ct) ∧ w'.cell? ⟨w.heap.size, 1, none⟩ = some (.slice Ab l.length cb) ∧ Below w1.heap.size w1 w' → Below w1.heap.size w1 w') := Lib.hid fun _ h => h.2.2
      refine wp_region_held_drew (S := (fun w' => w'.cell? ⟨w.heap.size, 0, none⟩ = some (.slice At ts.length ct) ∧ w'.cell? ⟨w.heap.size, 1, none⟩ = some (.slice Ab l.length cb) ∧ Below w1.heap.size w1 w')) (by kernel_rfl) ?_ (fun hHeld => ?_)
      · exact ⟨c0, c1, (Below.refl _ _).drew⟩
      refine wpAnyH_take (i := 0) (oi := ⟨some 23, _, _, _, _, _⟩) (v := ?_) rfl (by kernel_rfl) (by kernel_rfl) (by kernel_rfl) (fun _ _ _ h => h) (Or.inl ⟨by rfl, fun w' hSw => ?_⟩) (by assumption) ?_
      rotate_left
      · (try dsimp only at hSw); go_simp; (try with_reducible rfl)
      (try simp only [Act.put, List.setIfInBounds_toArray, List.set_cons_zero, List.set_cons_succ])
      refine wpAnyH_take (i := 1) (oi := ⟨some 24, _, _, _, _, _⟩) (v := ?_) rfl (by kernel_rfl) (by kernel_rfl) (by kernel_rfl) (fun _ _ _ h => h) (Or.inl ⟨by rfl, fun w' hSw => ?_⟩) (by assumption) ?_
      rotate_left
      · (try dsimp only at hSw); go_simp; (try with_reducible rfl)
      (try simp only [Act.put, List.setIfInBounds_toArray, List.set_cons_zero, List.set_cons_succ])
      refine wpAnyH_take (i := 5) (oi := ⟨some 28, _, _, _, _, _⟩) (v := ?_) rfl (by kernel_rfl) (by kernel_rfl) (by kernel_rfl) (fun _ _ _ h => h) (Or.inl ⟨by rfl, fun w' hSw => ?_⟩) (by assumption) ?_
      rotate_left
      · (try dsimp only at hSw); go_simp; (try with_reducible rfl)
      (try simp only [Act.put, List.setIfInBounds_toArray, List.set_cons_zero, List.set_cons_succ])
      refine wpAnyH_ready (rs := [2]) (by kernel_rfl) (by simp) ?_
      refine AllReadyH.cons (o := ⟨some 25, _, _, _, _, _⟩) rfl (fun K hK => ?_) AllReadyH.nil
      go_simp
      (refine (l2Points_any _ _ l B _ (HB1.out.hl.low (BEL.out _ (by assumption)) (by omega)) (by have := (BEL.out _ (by assumption)).size; omega) hsz).mono ?_)
      (rintro e w5 ⟨v5, rfl, hps, hb5⟩)
      (have BX5 := Lib.hid ((BEL.out _ (by assumption)).trans (hb5.mono (BEL.out _ (by assumption)).size)))
      (have HP5 := Lib.hid (HB1.out.bels BX5.out hB))
      (obtain ⟨Ap, cp, rfl, hcp, hpl⟩ := hps.slice)
      clear hps hb5
      go_simp
      refine hK.out _ _ ?_ (fun hHeld => ?_)
      · exact ⟨HP5.out.c0, HP5.out.c1, BX5.out⟩
      clear hK K
      (try simp only [Act.put, List.setIfInBounds_toArray, List.set_cons_zero, List.set_cons_succ])
      refine wpAnyH_take (i := 3) (oi := ⟨some 26, _, _, _, _, _⟩) (v := ?_) rfl (by kernel_rfl) (by kernel_rfl) (by kernel_rfl) (fun _ _ _ h => h) (Or.inl ⟨by rfl, fun w' hSw => ?_⟩) (by assumption) ?_
      rotate_left
      · (try dsimp only at hSw); go_simp; (try with_reducible rfl)
      (try simp only [Act.put, List.setIfInBounds_toArray, List.set_cons_zero, List.set_cons_succ])
      refine wpAnyH_ready (rs := [4]) (by kernel_rfl) (by simp) ?_
      refine AllReadyH.cons (o := ⟨some 27, _, _, _, _, _⟩) rfl (fun K hK => ?_) AllReadyH.nil
      go_simp
      (refine (l10Flow_any _ _ 0 (ptsP l).length ts l Gcell Ccell B w5 (HB1.out.ht.low BX5.out (by omega)) (HB1.out.hl.low BX5.out (by omega)) (by have := BX5.out.size; omega) HV.out (kd_cell GD.out) (Gcell_lt hplen) (by omega)).mono ?_)
      (rintro e w6 ⟨v6, mv, rbs, R, base, rfl, hbase, hb3, hri, hst, hb6⟩)
      (have BX6 := Lib.hid (BX5.out.trans (hb6.mono BX5.out.size)))
      (have HP6 := Lib.hid (HB1.out.bels BX6.out hB))
      (have hRl := hri.len)
      (obtain ⟨A6, c6, rfl, hc6⟩ := hb3.slice)
      (obtain ⟨g6, g7, r7, c7, rfl, -, y6, hc7, y7, hrow⟩ := hb3.get (k := k) (v := x) (by omega) (hri.row k (by omega)) hx (hri.inn k x (by omega) hx) (by omega))
      (obtain ⟨g6', g7', r8, c7', e6, -, y6', hc7', y8, hrow'⟩ := hb3.get (k := k) (v := y) (by omega) (hri.row k (by omega)) hy (hri.inn k y (by omega) hy) (by omega))
      (injection e6 with e6)
      (injection e6 with e6)
      subst e6
      (rw [y6] at y6')
      (injection y6' with y6')
      (injection y6' with e7 e8 e9)
      (injection e7 with e7)
      (injection e7 with e7)
      subst e7 e9
      (have HRA := Lib.hid hrow)
      (have HRB := Lib.hid hrow')
      (have HLA := Lib.hid (hri.inn k x (by omega) hx))
      (have HLB := Lib.hid (hri.inn k y (by omega) hy))
      (have HGA := Lib.hid (fun e => row_bit (k := k) (v := x) (e := e) hst))
      (have HGB := Lib.hid (fun e => row_bit (k := k) (v := y) (e := e) hst))
      (rw [hRl] at hc6 ⊢)
      clear hbase hb3 hri hst hb6 hrow hrow' hRl e8 hc7'
      go_simp
      refine hK.out _ _ ?_ (fun hHeld => ?_)
      · exact ⟨HP6.out.c0, HP6.out.c1, BX6.out⟩
      clear hK K
      (try simp only [Act.put, List.setIfInBounds_toArray, List.set_cons_zero, List.set_cons_succ])
      refine wpAnyH_take (i := 6) (oi := ⟨some 29, _, _, _, _, _⟩) (v := ?_) rfl (by kernel_rfl) (by kernel_rfl) (by kernel_rfl) (fun _ _ _ h => h) (Or.inl ⟨by rfl, fun w' hSw => ?_⟩) (by assumption) ?_
      rotate_left
      · (try dsimp only at hSw); go_simp; (try with_reducible rfl)
      (try simp only [Act.put, List.setIfInBounds_toArray, List.set_cons_zero, List.set_cons_succ])
      refine wpAnyH_ready (rs := [7]) (by kernel_rfl) (by simp) ?_
      refine AllReadyH.cons (o := ⟨some 30, _, _, _, _, _⟩) rfl (fun K hK => ?_) AllReadyH.nil
      go_simp
      refine hK.out _ _ ?_ (fun hHeld => ?_)
      · exact ⟨HP6.out.c0, HP6.out.c1, BX6.out⟩
      clear hK K
      (try simp only [Act.put, List.setIfInBounds_toArray, List.set_cons_zero, List.set_cons_succ])
      refine wpAnyH_take (i := 8) (oi := ⟨some 9, _, _, _, _, _⟩) (v := ?_) rfl (by kernel_rfl) (by kernel_rfl) (by kernel_rfl) (fun _ _ _ h => h) (Or.inl ⟨by rfl, fun w' hSw => ?_⟩) (by assumption) ?_
      rotate_left
      · (try dsimp only at hSw); go_simp; (try with_reducible rfl)
      (try simp only [Act.put, List.setIfInBounds_toArray, List.set_cons_zero, List.set_cons_succ])
      refine wpAnyH_done (by kernel_rfl) ?_ _
      go_wp2_with fail
      go_loop [10] (fun i => ∃ j : Nat, j ≤ (ptsP l).length ∧ i = .int .i64 j ∧ ∀ e, e < j → (dec (Fl ts (ptsP l) Gcell Ccell k x e) && dec (Fl ts (ptsP l) Gcell Ccell k y e)) = false) (fun i => (ptsP l).length - (intOf i).toNat)
      case atStart => exact ⟨0, Nat.zero_le _, rfl, fun e he => by omega⟩
      case round =>
        obtain ⟨j, hj, rfl, hno⟩ := hrel
        have HNO := Lib.hid hno
        clear hno
        by_cases hjl : j < (ptsP l).length
        · have d7 : w6.cell? ⟨r7, j, none⟩ = some (.bool (dec (Fl ts (ptsP l) Gcell Ccell k x j))) := by rw [HRA.out.cell, bv_get (by rw [HLA.out]; exact hjl), HGA.out]
          have d8 : w6.cell? ⟨r8, j, none⟩ = some (.bool (dec (Fl ts (ptsP l) Gcell Ccell k y j))) := by rw [HRB.out.cell, bv_get (by rw [HLB.out]; exact hjl), HGB.out]
          cases h1 : dec (Fl ts (ptsP l) Gcell Ccell k x j)
          · rw [h1] at d7
            have HN : Hid (∀ e, e < j + 1 → (dec (Fl ts (ptsP l) Gcell Ccell k x e) && dec (Fl ts (ptsP l) Gcell Ccell k y e)) = false) := Lib.hid fun e he => by
              by_cases h : e = j
              · rw [h, h1]; rfl
              · exact HNO.out e (by omega)
            clear h1
            go_wp2_with fail
            exact ⟨⟨j + 1, by omega, by go_num, HN.out⟩, by simp [intOf] <;> omega⟩
          · cases h2 : dec (Fl ts (ptsP l) Gcell Ccell k y j)
            · rw [h1] at d7
              rw [h2] at d8
              have HN : Hid (∀ e, e < j + 1 → (dec (Fl ts (ptsP l) Gcell Ccell k x e) && dec (Fl ts (ptsP l) Gcell Ccell k y e)) = false) := Lib.hid fun e he => by
                by_cases h : e = j
                · rw [h, h1, h2]; rfl
                · exact HNO.out e (by omega)
              clear h1 h2
              go_wp2_with fail
              exact ⟨⟨j + 1, by omega, by go_num, HN.out⟩, by simp [intOf] <;> omega⟩
            · rw [h1] at d7
              rw [h2] at d8
              have HY : Hid (aliasRes ts l (k : Nat) (x : Nat) (y : Nat) = true) := Lib.hid (by
                rw [HRES.out, List.any_eq_true]
                exact ⟨j, List.mem_range.2 hjl, by rw [h1, h2]; rfl⟩)
              clear h1 h2
              go_wp2_with fail
              go_ret
              exact ⟨ret_bool HY.out.symm, HB1.out.bel.trans (BX6.out.mono HB1.out.bel.size)⟩
        · have hje : j = (ptsP l).length := by omega
          have HN : Hid (aliasRes ts l (k : Nat) (x : Nat) (y : Nat) = false) := Lib.hid (by
            rw [HRES.out, List.any_eq_false]
            intro e he
            rw [HNO.out e (by rw [hje]; exact List.mem_range.1 he)]; simp)
          clear hje
          go_wp2_with fail
          go_ret
          exact ⟨ret_bool HN.out.symm, HB1.out.bel.trans (BX6.out.mono HB1.out.bel.size)⟩

end Go.Proofs.Yteaddodjijlpjaa
