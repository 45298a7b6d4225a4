import Derived.Test.YtfioaohadanjmaaGreatU31
set_option linter.unusedVariables false

/- spec: l8Wrong, CountWrong, FirstWrong, SafeUpTo. -/
namespace Go.Proofs.YtfioaohadanjmaaGreat
open Go.RowKit Go.Lib

set_option maxHeartbeats 4000000 in
set_option maxRecDepth 100000 in
theorem l8Wrong_any (vt vb vc : Value) (ts : List Int) (l : List St) (cs : List Int) (B : Nat) (w : World) (ht : IntS w B vt ts) (hl : StS w B vb l) (hc : IntS w w.heap.size vc cs) (hB : B ≤ w.heap.size) (hsz : szL l ≤ 4194300) :
    Calls Tryz.prog 45 #[.agg #[vt, vb], vc] w fun e w' => ∃ at6 : Nat, e = .returned (.tuple #[.bool ((progX ts l cs 80).1 != 0 && (progX ts l cs 80).1 != 1), .int .i64 (at6 : Nat)]) ∧ Below w.heap.size w w' := by
  obtain ⟨z, a6, hR⟩ : ∃ z a6, progX ts l cs 80 = (z, a6) := ⟨_, _, rfl⟩
  rw [hR]
  have HR := Lib.hid hR
  clear hR
  have HX := Lib.hid (RowB.new w [vt, vb] 31)
  have HB0 := Lib.hid (bel_a w (.cells #[vt, vb] 31))
  have HT := Lib.hid (ht.low HB0.out hB)
  have HL := Lib.hid (hl.low HB0.out hB)
  have HC := Lib.hid ((hc.low HB0.out (Nat.le_refl _)).more HB0.out.size)
  obtain ⟨Ac, cc, rfl, -, -, -⟩ := hc
  have hBW := Nat.le_trans hB HB0.out.size
  clear ht hl
  go_enter Tryz.func45, Tryz.ntmps45
  go_upto_region 1 with (at_builtin; fail)
  generalize w.alloc (.cells #[vt, vb] 31) = W at *
  obtain ⟨bx, hbx⟩ : ∃ bx, bx = w.heap.size := ⟨_, rfl⟩
  rw [← hbx] at HX ⊢
  clear hbx
  have g0 := HX.out.cell 0
  have g1 := HX.out.cell 1
  simp only [List.getElem?_cons_zero, List.getElem?_cons_succ] at g0 g1
  have HRU := Lib.hid (fun (wz : World) (hz : Below W.heap.size W wz) => sRunProgram_any vt vb (.slice Ac cs.length cc) ts l cs 80 W.heap.size wz (((HT.out.low hz hBW)).more hBW) ((HL.out.low hz hBW).more hBW) (HC.out.low hz (Nat.le_refl _)) hz.size hsz)
  have hxl := HX.out.lt
  rw [HR.out] at HRU
  have BEL : Hid (∀ w', w'.cell? ⟨bx, 0, none⟩ = some vt ∧ w'.cell? ⟨bx, 1, none⟩ = some vb ∧ Below W.heap.size W w' → Below W.heap.size W w') := Lib.hid fun _ h => h.2.2
  refine wp_region_held_drew (S := (fun w' => w'.cell? ⟨bx, 0, none⟩ = some vt ∧ w'.cell? ⟨bx, 1, none⟩ = some vb ∧ Below W.heap.size W w')) (by kernel_rfl) ?_ (fun hHeld => ?_)
  · exact ⟨g0, g1, BelD W⟩
  refine wpAnyH_take (i := 0) (oi := ⟨some 9, _, _, _, _, _⟩) (v := ?_) rfl (by kernel_rfl) (by kernel_rfl) (by kernel_rfl) (fun _ _ _ h => h) (Or.inl ⟨by rfl, fun w' hSw => ?_⟩) (by assumption) ?_
  rotate_left
  · (try dsimp only at hSw); go_simp; (try with_reducible rfl)
  (try simp only [Act.put, List.setIfInBounds_toArray, List.set_cons_zero, List.set_cons_succ])
  refine wpAnyH_take (i := 1) (oi := ⟨some 10, _, _, _, _, _⟩) (v := ?_) rfl (by kernel_rfl) (by kernel_rfl) (by kernel_rfl) (fun _ _ _ h => h) (Or.inl ⟨by rfl, fun w' hSw => ?_⟩) (by assumption) ?_
  rotate_left
  · (try dsimp only at hSw); go_simp; (try with_reducible rfl)
  (try simp only [Act.put, List.setIfInBounds_toArray, List.set_cons_zero, List.set_cons_succ])
  refine wpAnyH_ready (rs := [2]) (by kernel_rfl) (by simp) ?_
  refine (AllReadyH.cons (o := ⟨some 11, _, _, _, _, _⟩) rfl (fun K hK => ?_) AllReadyH.nil)
  go_simp
  (have BY := (BEL.out _ (by assumption)))
  (refine (l8Most_any _).mono ?_)
  (rintro e w5 ⟨rfl, rfl⟩)
  (have HB5 := Lib.hid BY)
  clear BY
  go_simp
  refine hK.out _ _ ?_ (fun hHeld => ?_)
  · exact ⟨(HB5.out.cell (p := ⟨bx, 0, none⟩) hxl).trans g0, (HB5.out.cell (p := ⟨bx, 1, none⟩) hxl).trans g1, HB5.out⟩
  clear hK K
  (try simp only [Act.put, List.setIfInBounds_toArray, List.set_cons_zero, List.set_cons_succ])
  refine wpAnyH_ready (rs := [3]) (by kernel_rfl) (by simp) ?_
  refine (AllReadyH.cons (o := ⟨some 12, _, _, _, _, _⟩) rfl (fun K hK => ?_) AllReadyH.nil)
  go_simp
  (refine (HRU.out _ HB5.out).mono ?_)
  (rintro e w6 ⟨rfl, hb6⟩)
  (have HB6 := Lib.hid (HB5.out.trans (hb6.mono HB5.out.size)))
  clear hb6
  go_simp
  refine hK.out _ _ ?_ (fun hHeld => ?_)
  · exact ⟨(HB6.out.cell (p := ⟨bx, 0, none⟩) hxl).trans g0, (HB6.out.cell (p := ⟨bx, 1, none⟩) hxl).trans g1, HB6.out⟩
  clear hK K
  (try simp only [Act.put, List.setIfInBounds_toArray, List.set_cons_zero, List.set_cons_succ])
  refine wpAnyH_take (i := 4) (oi := ⟨some 8, _, _, _, _, _⟩) (v := ?_) rfl (by kernel_rfl) (by kernel_rfl) (by kernel_rfl) (fun _ _ _ h => h) (Or.inl ⟨by rfl, fun w' hSw => ?_⟩) (by assumption) ?_
  rotate_left
  · (try dsimp only at hSw); go_simp; (try with_reducible rfl)
  (try simp only [Act.put, List.setIfInBounds_toArray, List.set_cons_zero, List.set_cons_succ])
  refine wpAnyH_take (i := 5) (oi := ⟨some 13, _, _, _, _, _⟩) (v := ?_) rfl (by kernel_rfl) (by kernel_rfl) (by kernel_rfl) (fun _ _ _ h => h) (Or.inl ⟨by rfl, fun w' hSw => ?_⟩) (by assumption) ?_
  rotate_left
  · (try dsimp only at hSw); go_simp; (try with_reducible rfl)
  (try simp only [Act.put, List.setIfInBounds_toArray, List.set_cons_zero, List.set_cons_succ])
  refine wpAnyH_take (i := 6) (oi := ⟨some 14, _, _, _, _, _⟩) (v := ?_) rfl (by kernel_rfl) (by kernel_rfl) (by kernel_rfl) (fun _ _ _ h => h) (Or.inl ⟨by rfl, fun w' hSw => ?_⟩) (by assumption) ?_
  rotate_left
  · (try dsimp only at hSw); go_simp; (try with_reducible rfl)
  (try simp only [Act.put, List.setIfInBounds_toArray, List.set_cons_zero, List.set_cons_succ])
  refine wpAnyH_take (i := 7) (oi := ⟨some 6, _, _, _, _, _⟩) (v := ?_) rfl (by kernel_rfl) (by kernel_rfl) (by kernel_rfl) (fun _ _ _ h => h) (Or.inl ⟨by rfl, fun w' hSw => ?_⟩) (by assumption) ?_
  rotate_left
  · (try dsimp only at hSw); go_simp; (try with_reducible rfl)
  (try simp only [Act.put, List.setIfInBounds_toArray, List.set_cons_zero, List.set_cons_succ])
  refine wpAnyH_take (i := 8) (oi := ⟨some 7, _, _, _, _, _⟩) (v := ?_) rfl (by kernel_rfl) (by kernel_rfl) (by kernel_rfl) (fun _ _ _ h => h) (Or.inl ⟨by rfl, fun w' hSw => ?_⟩) (by assumption) ?_
  rotate_left
  · (try dsimp only at hSw); go_simp; (try with_reducible rfl)
  (try simp only [Act.put, List.setIfInBounds_toArray, List.set_cons_zero, List.set_cons_succ])
  refine wpAnyH_done (by kernel_rfl) ?_ _
  have HBF := Lib.hid (HB0.out.trans (HB6.out.mono HB0.out.size))
  clear g0 g1 BEL hHeld
  cases q0 : (z != 0)
  · go_wp2_with (at_builtin; fail)
    go_ret2
    exact ⟨a6, by simp only [q0]; rfl, HBF.out⟩
  · go_wp2_with (at_builtin; fail)
    go_ret2
    exact ⟨a6, by simp only [q0]; rfl, HBF.out⟩
set_option maxHeartbeats 8000000 in
set_option maxRecDepth 100000 in
theorem sCountWrong_any (vt vb : Value) (ts : List Int) (l : List St) (a : Int) (B : Nat) (w : World) (ht : IntS w B vt ts) (hl : StS w B vb l) (hB : B ≤ w.heap.size) (hsz : szL l ≤ 4194300) :
    Calls Tryz.prog 19 #[.agg #[vt, vb], .int .i64 a] w (CwRet w (cntX ts l a)) := by
  have HRI := Lib.hid (l8Right_any vt vb ts l a B (w.alloc (.cells #[vt, vb] 31)) (ht.low (bel_a w _) hB) (hl.low (bel_a w _) hB) (by simp; omega) hsz)
  have HX := Lib.hid (RowB.new w [vt, vb] 31)
  have HB0 := Lib.hid (bel_a w (.cells #[vt, vb] 31))
  have HT := Lib.hid ht
  have HL := Lib.hid hl
  obtain ⟨At, ct, rfl, hct, -, -⟩ := ht
  obtain ⟨Ab, cb, rfl, hcb⟩ := hl.slice
  clear hl
  go_enter Tryz.func19, Tryz.ntmps19
  go_upto_region 1 with (at_builtin; fail)
  generalize w.alloc (.cells #[.slice At ts.length ct, .slice Ab l.length cb] 31) = W at *
  obtain ⟨bx, hbx⟩ : ∃ bx, bx = w.heap.size := ⟨_, rfl⟩
  rw [← hbx] at HX ⊢
  have HBX := Lib.hid hbx
  clear hbx
  have g0 := HX.out.cell 0
  have g1 := HX.out.cell 1
  simp only [List.getElem?_cons_zero, List.getElem?_cons_succ] at g0 g1
  cases hok : lenOk ts l a
  · rw [hok] at HRI
    have HNO := Lib.hid hok
    clear hok
    go_wp2_with (at_builtin; fail)
    refine HRI.out.mono ?_
    rintro e w1 ⟨rfl, hb1⟩
    have HB1 := Lib.hid (HB0.out.trans (hb1.mono HB0.out.size))
    clear hb1 g0 g1
    have HP : Hid (cntX ts l a = (0, 0)) := Lib.hid (by unfold cntX; rw [HNO.out]; rfl)
    go_wp2_with (at_builtin; fail)
    go_ret2
    exact ⟨by rw [HP.out]; rfl, HB1.out⟩
  · rw [hok] at HRI
    obtain ⟨hv, m, rfl, hm⟩ := lenOk_parts hok
    have HOK := Lib.hid hok
    have hp64 : 2 ^ m ≤ 64 := pow6 hm
    obtain ⟨pk, hpk⟩ : ∃ pk, pk = 2 ^ m := ⟨_, rfl⟩
    rw [← hpk] at hp64
    have HPK := Lib.hid hpk
    have HRU := Lib.hid (fun wz => l8Runs_any m hm wz)
    rw [← hpk] at HRU
    clear hok hpk
    go_wp2_with (at_builtin; fail)
    refine HRI.out.mono ?_
    rintro e w1 ⟨rfl, hb1⟩
    have HB1 := Lib.hid (HB0.out.trans (hb1.mono HB0.out.size))
    have HX1 := Lib.hid (HX.out.low hb1 HX.out.lt)
    have HT1 := Lib.hid (HT.out.low HB1.out hB)
    have HL1 := Lib.hid (HL.out.low HB1.out hB)
    have hB1 := Nat.le_trans hB HB1.out.size
    obtain ⟨bad, hbad⟩ : ∃ bad, bad = badP ts l m := ⟨_, rfl⟩
    have HBAD := Lib.hid hbad
    clear hb1 g0 g1 hbad
    have HP : Hid (cntX ts l (m : Nat) = (cntP bad pk, pk)) := Lib.hid (by unfold cntX; rw [HOK.out, HBAD.out, HPK.out]; rfl)
    go_wp2_with (at_builtin; fail)
    refine (HRU.out _).mono ?_
    rintro e w' ⟨rfl, rfl⟩
    go_wp2_with (at_builtin; fail)
    go_loopg [6, 8, 9, 10] (pk + 1) (fun gk c i a9 a10 wr => ∃ (k : Nat), k ≤ pk ∧ i = .int .i64 k ∧ c = .int .i64 (cntP bad k : Nat) ∧ Below w1.heap.size w1 wr ∧ pk - k < gk)
    case atStart => exact ⟨0, Nat.zero_le _, rfl, rfl, Below.refl _ _, by omega⟩
    case round =>
      obtain ⟨k, hk, rfl, rfl, hbr, hgk⟩ := hrel
      have HBR := Lib.hid hbr
      clear hbr
      have hcl := cntP_le bad k
      by_cases hlt : k < pk
      · have HXR := Lib.hid (HX1.out.low HBR.out HX1.out.lt)
        have g0 := HXR.out.cell 0
        have g1 := HXR.out.cell 1
        simp only [List.getElem?_cons_zero, List.getElem?_cons_succ] at g0 g1
        have hxl := HXR.out.lt
        have HCS := Lib.hid (cntP_succ bad k)
        have HBK : Hid (((progX ts l (chcP k m) 80).1 != 0 && (progX ts l (chcP k m) 80).1 != 1) = bad k) := Lib.hid (by rw [HBAD.out]; rfl)
        go_wp2_with (at_builtin; fail)
        have BEL : Hid (∀ w', w'.cell? ⟨bx, 0, none⟩ = some (.slice At ts.length ct) ∧ w'.cell? ⟨bx, 1, none⟩ = some (.slice Ab l.length cb) ∧ Below wr.heap.size wr w' → Below wr.heap.size wr w') := Lib.hid fun _ h => h.2.2
        refine wp_region_held_drew (S := (fun w' => w'.cell? ⟨bx, 0, none⟩ = some (.slice At ts.length ct) ∧ w'.cell? ⟨bx, 1, none⟩ = some (.slice Ab l.length cb) ∧ Below wr.heap.size wr w')) (by kernel_rfl) ?_ (fun hHeld => ?_)
        · exact ⟨g0, g1, BelD wr⟩
        refine wpAnyH_take (i := 0) (oi := ⟨some 23, _, _, _, _, _⟩) (v := ?_) rfl (by kernel_rfl) (by kernel_rfl) (by kernel_rfl) (fun _ _ _ h => h) (Or.inl ⟨by rfl, fun w' hSw => ?_⟩) (by assumption) ?_
        rotate_left
        · (try dsimp only at hSw); go_simp; (try with_reducible rfl)
        (try simp only [Act.put, List.setIfInBounds_toArray, List.set_cons_zero, List.set_cons_succ])
        refine wpAnyH_take (i := 1) (oi := ⟨some 24, _, _, _, _, _⟩) (v := ?_) rfl (by kernel_rfl) (by kernel_rfl) (by kernel_rfl) (fun _ _ _ h => h) (Or.inl ⟨by rfl, fun w' hSw => ?_⟩) (by assumption) ?_
        rotate_left
        · (try dsimp only at hSw); go_simp; (try with_reducible rfl)
        (try simp only [Act.put, List.setIfInBounds_toArray, List.set_cons_zero, List.set_cons_succ])
        refine wpAnyH_take (i := 2) (oi := ⟨some 25, _, _, _, _, _⟩) (v := ?_) rfl (by kernel_rfl) (by kernel_rfl) (by kernel_rfl) (fun _ _ _ h => h) (Or.inl ⟨by rfl, fun w' hSw => ?_⟩) (by assumption) ?_
        rotate_left
        · (try dsimp only at hSw); go_simp; (try with_reducible rfl)
        (try simp only [Act.put, List.setIfInBounds_toArray, List.set_cons_zero, List.set_cons_succ])
        refine wpAnyH_ready (rs := [3]) (by kernel_rfl) (by simp) ?_
        refine (AllReadyH.cons (o := ⟨some 26, _, _, _, _, _⟩) rfl (fun K hK => ?_) AllReadyH.nil)
        go_simp
        (have BY := (BEL.out _ (by assumption)))
        (refine (l8Choices_any k m (by omega) hm _).mono ?_)
        (rintro e w5 ⟨v5, rfl, hv5, hb5⟩)
        (have HB5 := Lib.hid (BY.trans (hb5.mono BY.size)))
        (have HV5 := Lib.hid (hv5.toS (by rw [chcP_len]; omega)))
        (obtain ⟨A5, c5, rfl, -⟩ := hv5.slice)
        clear hv5 hb5 BY
        go_simp
        refine hK.out _ _ ?_ (fun hHeld => ?_)
        · exact ⟨(HB5.out.cell (p := ⟨bx, 0, none⟩) hxl).trans g0, (HB5.out.cell (p := ⟨bx, 1, none⟩) hxl).trans g1, HB5.out⟩
        clear hK K
        (try simp only [Act.put, List.setIfInBounds_toArray, List.set_cons_zero, List.set_cons_succ])
        refine wpAnyH_ready (rs := [4]) (by kernel_rfl) (by simp) ?_
        refine (AllReadyH.cons (o := ⟨some 27, _, _, _, _, _⟩) rfl (fun K hK => ?_) AllReadyH.nil)
        go_simp
        (refine (l8Wrong_any _ _ _ ts l (chcP k m) B w5 ((HT1.out.low HBR.out hB1).low HB5.out (Nat.le_trans hB1 HBR.out.size)) ((HL1.out.low HBR.out hB1).low HB5.out (Nat.le_trans hB1 HBR.out.size)) HV5.out (Nat.le_trans (Nat.le_trans hB1 HBR.out.size) HB5.out.size) hsz).mono ?_)
        (rintro e w6 ⟨at6, rfl, hb6⟩)
        (have HB6 := Lib.hid (HB5.out.trans (hb6.mono HB5.out.size)))
        (rw [HBK.out])
        clear hb6
        go_simp
        refine hK.out _ _ ?_ (fun hHeld => ?_)
        · exact ⟨(HB6.out.cell (p := ⟨bx, 0, none⟩) hxl).trans g0, (HB6.out.cell (p := ⟨bx, 1, none⟩) hxl).trans g1, HB6.out⟩
        clear hK K
        (try simp only [Act.put, List.setIfInBounds_toArray, List.set_cons_zero, List.set_cons_succ])
        refine wpAnyH_take (i := 5) (oi := ⟨some 22, _, _, _, _, _⟩) (v := ?_) rfl (by kernel_rfl) (by kernel_rfl) (by kernel_rfl) (fun _ _ _ h => h) (Or.inl ⟨by rfl, fun w' hSw => ?_⟩) (by assumption) ?_
        rotate_left
        · (try dsimp only at hSw); go_simp; (try with_reducible rfl)
        (try simp only [Act.put, List.setIfInBounds_toArray, List.set_cons_zero, List.set_cons_succ])
        refine wpAnyH_take (i := 6) (oi := ⟨some 28, _, _, _, _, _⟩) (v := ?_) rfl (by kernel_rfl) (by kernel_rfl) (by kernel_rfl) (fun _ _ _ h => h) (Or.inl ⟨by rfl, fun w' hSw => ?_⟩) (by assumption) ?_
        rotate_left
        · (try dsimp only at hSw); go_simp; (try with_reducible rfl)
        (try simp only [Act.put, List.setIfInBounds_toArray, List.set_cons_zero, List.set_cons_succ])
        refine wpAnyH_take (i := 7) (oi := ⟨some 29, _, _, _, _, _⟩) (v := ?_) rfl (by kernel_rfl) (by kernel_rfl) (by kernel_rfl) (fun _ _ _ h => h) (Or.inl ⟨by rfl, fun w' hSw => ?_⟩) (by assumption) ?_
        rotate_left
        · (try dsimp only at hSw); go_simp; (try with_reducible rfl)
        (try simp only [Act.put, List.setIfInBounds_toArray, List.set_cons_zero, List.set_cons_succ])
        refine wpAnyH_take (i := 8) (oi := ⟨some 9, _, _, _, _, _⟩) (v := ?_) rfl (by kernel_rfl) (by kernel_rfl) (by kernel_rfl) (fun _ _ _ h => h) (Or.inl ⟨by rfl, fun w' hSw => ?_⟩) (by assumption) ?_
        rotate_left
        · (try dsimp only at hSw); go_simp; (try with_reducible rfl)
        (try simp only [Act.put, List.setIfInBounds_toArray, List.set_cons_zero, List.set_cons_succ])
        refine wpAnyH_take (i := 9) (oi := ⟨some 10, _, _, _, _, _⟩) (v := ?_) rfl (by kernel_rfl) (by kernel_rfl) (by kernel_rfl) (fun _ _ _ h => h) (Or.inl ⟨by rfl, fun w' hSw => ?_⟩) (by assumption) ?_
        rotate_left
        · (try dsimp only at hSw); go_simp; (try with_reducible rfl)
        (try simp only [Act.put, List.setIfInBounds_toArray, List.set_cons_zero, List.set_cons_succ])
        refine wpAnyH_done (by kernel_rfl) ?_ _
        have HBN := Lib.hid (HBR.out.trans (HB6.out.mono HBR.out.size))
        clear g0 g1 BEL hHeld
        cases hbk : bad k
        · have HN : Hid (cntP bad k = cntP bad (k + 1)) := Lib.hid (by rw [HCS.out, hbk]; rfl)
          clear hbk
          generalize cntP bad k = ck at *
          go_wp2_with (at_builtin; fail)
          go_roundg (pk - k)
          case measure => omega
          case rel => exact ⟨k + 1, by omega, by go_num, by rw [HN.out], HBN.out, by omega⟩
        · have HN : Hid (cntP bad k + 1 = cntP bad (k + 1)) := Lib.hid (by rw [HCS.out, hbk]; rfl)
          clear hbk
          generalize cntP bad k = ck at *
          go_wp2_with (at_builtin; fail)
          go_roundg (pk - k)
          case measure => omega
          case rel => exact ⟨k + 1, by omega, by go_num, by rw [← HN.out]; go_num, HBN.out, by omega⟩
      · obtain rfl : k = pk := by omega
        go_wp2_with (at_builtin; fail)
        go_ret2
        exact ⟨by rw [HP.out]; rfl, HB1.out.trans (HBR.out.mono HB1.out.size)⟩
set_option maxHeartbeats 8000000 in
set_option maxRecDepth 100000 in
theorem sFirstWrong_any (vt vb : Value) (ts : List Int) (l : List St) (a : Int) (B : Nat) (w : World) (ht : IntS w B vt ts) (hl : StS w B vb l) (hB : B ≤ w.heap.size) (hsz : szL l ≤ 4194300) :
    Calls Tryz.prog 28 #[.agg #[vt, vb], .int .i64 a] w (FwRet w (fstX ts l a)) := by
  have HRI := Lib.hid (l8Right_any vt vb ts l a B (w.alloc (.cells #[vt, vb] 31)) (ht.low (bel_a w _) hB) (hl.low (bel_a w _) hB) (by simp; omega) hsz)
  have HX := Lib.hid (RowB.new w [vt, vb] 31)
  have HB0 := Lib.hid (bel_a w (.cells #[vt, vb] 31))
  have HT := Lib.hid ht
  have HL := Lib.hid hl
  obtain ⟨At, ct, rfl, hct, -, -⟩ := ht
  obtain ⟨Ab, cb, rfl, hcb⟩ := hl.slice
  clear hl
  go_enter Tryz.func28, Tryz.ntmps28
  go_upto_region 1 with (at_builtin; fail)
  generalize w.alloc (.cells #[.slice At ts.length ct, .slice Ab l.length cb] 31) = W at *
  obtain ⟨bx, hbx⟩ : ∃ bx, bx = w.heap.size := ⟨_, rfl⟩
  rw [← hbx] at HX ⊢
  have HBX := Lib.hid hbx
  clear hbx
  have g0 := HX.out.cell 0
  have g1 := HX.out.cell 1
  simp only [List.getElem?_cons_zero, List.getElem?_cons_succ] at g0 g1
  cases hok : lenOk ts l a
  · rw [hok] at HRI
    have HNO := Lib.hid hok
    clear hok
    go_wp2_with (at_builtin; fail)
    refine HRI.out.mono ?_
    rintro e w1 ⟨rfl, hb1⟩
    have HB1 := Lib.hid (HB0.out.trans (hb1.mono HB0.out.size))
    clear hb1 g0 g1
    have HP : Hid (fstX ts l a = ([], false)) := Lib.hid (by unfold fstX; rw [HNO.out]; rfl)
    go_wp2_with (at_builtin; fail)
    go_ret2
    rw [HP.out]
    exact ⟨_, rfl, OInts.empty w1 _ HB1.out.size, HB1.out.alloc HB1.out.size _⟩
  · rw [hok] at HRI
    obtain ⟨hv, m, rfl, hm⟩ := lenOk_parts hok
    have HOK := Lib.hid hok
    have hp64 : 2 ^ m ≤ 64 := pow6 hm
    obtain ⟨pk, hpk⟩ : ∃ pk, pk = 2 ^ m := ⟨_, rfl⟩
    rw [← hpk] at hp64
    have HPK := Lib.hid hpk
    have HRU := Lib.hid (fun wz => l8Runs_any m hm wz)
    rw [← hpk] at HRU
    clear hok hpk
    go_wp2_with (at_builtin; fail)
    refine HRI.out.mono ?_
    rintro e w1 ⟨rfl, hb1⟩
    have HB1 := Lib.hid (HB0.out.trans (hb1.mono HB0.out.size))
    have HX1 := Lib.hid (HX.out.low hb1 HX.out.lt)
    have HT1 := Lib.hid (HT.out.low HB1.out hB)
    have HL1 := Lib.hid (HL.out.low HB1.out hB)
    have hB1 := Nat.le_trans hB HB1.out.size
    obtain ⟨bad, hbad⟩ : ∃ bad, bad = badP ts l m := ⟨_, rfl⟩
    have HBAD := Lib.hid hbad
    clear hb1 g0 g1 hbad
    have HP : Hid (fstX ts l (m : Nat) = match fstP bad pk with | some n => (chcP n m, true) | none => ([], false)) := Lib.hid (by unfold fstX; rw [HOK.out, HBAD.out, HPK.out]; rfl)
    go_wp2_with (at_builtin; fail)
    go_loopg [6, 7, 8] (pk + 1) (fun gk i a7 a8 wr => ∃ (k : Nat), k ≤ pk ∧ i = .int .i64 k ∧ (∀ j, j < k → bad j = false) ∧ Below w1.heap.size w1 wr ∧ pk - k < gk)
    case atStart => exact ⟨0, Nat.zero_le _, rfl, fun j h => by omega, Below.refl _ _, by omega⟩
    case round =>
      obtain ⟨k, hk, rfl, hno, hbr, hgk⟩ := hrel
      have HBR := Lib.hid hbr
      have HNO := Lib.hid hno
      clear hbr hno
      by_cases hlt : k < pk
      · have HXR := Lib.hid (HX1.out.low HBR.out HX1.out.lt)
        have g0 := HXR.out.cell 0
        have g1 := HXR.out.cell 1
        simp only [List.getElem?_cons_zero, List.getElem?_cons_succ] at g0 g1
        have hxl := HXR.out.lt
        have HBK : Hid (((progX ts l (chcP k m) 80).1 != 0 && (progX ts l (chcP k m) 80).1 != 1) = bad k) := Lib.hid (by rw [HBAD.out]; rfl)
        go_wp2_with (at_builtin; fail)
        refine (HRU.out _).mono ?_
        rintro e w' ⟨rfl, rfl⟩
        go_wp2_with (at_builtin; fail)
        have BEL : Hid (∀ w', w'.cell? ⟨bx, 0, none⟩ = some (.slice At ts.length ct) ∧ w'.cell? ⟨bx, 1, none⟩ = some (.slice Ab l.length cb) ∧ Below wr.heap.size wr w' → Below wr.heap.size wr w') := Lib.hid fun _ h => h.2.2
        refine wp_region_held_drew (S := (fun w' => w'.cell? ⟨bx, 0, none⟩ = some (.slice At ts.length ct) ∧ w'.cell? ⟨bx, 1, none⟩ = some (.slice Ab l.length cb) ∧ Below wr.heap.size wr w')) (by kernel_rfl) ?_ (fun hHeld => ?_)
        · exact ⟨g0, g1, BelD wr⟩
        refine wpAnyH_take (i := 0) (oi := ⟨some 21, _, _, _, _, _⟩) (v := ?_) rfl (by kernel_rfl) (by kernel_rfl) (by kernel_rfl) (fun _ _ _ h => h) (Or.inl ⟨by rfl, fun w' hSw => ?_⟩) (by assumption) ?_
        rotate_left
        · (try dsimp only at hSw); go_simp; (try with_reducible rfl)
        (try simp only [Act.put, List.setIfInBounds_toArray, List.set_cons_zero, List.set_cons_succ])
        refine wpAnyH_take (i := 1) (oi := ⟨some 22, _, _, _, _, _⟩) (v := ?_) rfl (by kernel_rfl) (by kernel_rfl) (by kernel_rfl) (fun _ _ _ h => h) (Or.inl ⟨by rfl, fun w' hSw => ?_⟩) (by assumption) ?_
        rotate_left
        · (try dsimp only at hSw); go_simp; (try with_reducible rfl)
        (try simp only [Act.put, List.setIfInBounds_toArray, List.set_cons_zero, List.set_cons_succ])
        refine wpAnyH_take (i := 2) (oi := ⟨some 23, _, _, _, _, _⟩) (v := ?_) rfl (by kernel_rfl) (by kernel_rfl) (by kernel_rfl) (fun _ _ _ h => h) (Or.inl ⟨by rfl, fun w' hSw => ?_⟩) (by assumption) ?_
        rotate_left
        · (try dsimp only at hSw); go_simp; (try with_reducible rfl)
        (try simp only [Act.put, List.setIfInBounds_toArray, List.set_cons_zero, List.set_cons_succ])
        refine wpAnyH_ready (rs := [3]) (by kernel_rfl) (by simp) ?_
        refine (AllReadyH.cons (o := ⟨some 24, _, _, _, _, _⟩) rfl (fun K hK => ?_) AllReadyH.nil)
        go_simp
        (have BY := (BEL.out _ (by assumption)))
        (refine (l8Choices_any k m (by omega) hm _).mono ?_)
        (rintro e w5 ⟨v5, rfl, hv5, hb5⟩)
        (have HB5 := Lib.hid (BY.trans (hb5.mono BY.size)))
        (have HV5 := Lib.hid (hv5.toS (by rw [chcP_len]; omega)))
        (obtain ⟨A5, c5, rfl, -⟩ := hv5.slice)
        clear hv5 hb5 BY
        go_simp
        refine hK.out _ _ ?_ (fun hHeld => ?_)
        · exact ⟨(HB5.out.cell (p := ⟨bx, 0, none⟩) hxl).trans g0, (HB5.out.cell (p := ⟨bx, 1, none⟩) hxl).trans g1, HB5.out⟩
        clear hK K
        (try simp only [Act.put, List.setIfInBounds_toArray, List.set_cons_zero, List.set_cons_succ])
        refine wpAnyH_ready (rs := [4]) (by kernel_rfl) (by simp) ?_
        refine (AllReadyH.cons (o := ⟨some 25, _, _, _, _, _⟩) rfl (fun K hK => ?_) AllReadyH.nil)
        go_simp
        (refine (l8Wrong_any _ _ _ ts l (chcP k m) B w5 ((HT1.out.low HBR.out hB1).low HB5.out (Nat.le_trans hB1 HBR.out.size)) ((HL1.out.low HBR.out hB1).low HB5.out (Nat.le_trans hB1 HBR.out.size)) HV5.out (Nat.le_trans (Nat.le_trans hB1 HBR.out.size) HB5.out.size) hsz).mono ?_)
        (rintro e w6 ⟨at6, rfl, hb6⟩)
        (have HB6 := Lib.hid (HB5.out.trans (hb6.mono HB5.out.size)))
        (rw [HBK.out])
        clear hb6
        go_simp
        refine hK.out _ _ ?_ (fun hHeld => ?_)
        · exact ⟨(HB6.out.cell (p := ⟨bx, 0, none⟩) hxl).trans g0, (HB6.out.cell (p := ⟨bx, 1, none⟩) hxl).trans g1, HB6.out⟩
        clear hK K
        (try simp only [Act.put, List.setIfInBounds_toArray, List.set_cons_zero, List.set_cons_succ])
        refine wpAnyH_take (i := 5) (oi := ⟨some 20, _, _, _, _, _⟩) (v := ?_) rfl (by kernel_rfl) (by kernel_rfl) (by kernel_rfl) (fun _ _ _ h => h) (Or.inl ⟨by rfl, fun w' hSw => ?_⟩) (by assumption) ?_
        rotate_left
        · (try dsimp only at hSw); go_simp; (try with_reducible rfl)
        (try simp only [Act.put, List.setIfInBounds_toArray, List.set_cons_zero, List.set_cons_succ])
        refine wpAnyH_take (i := 6) (oi := ⟨some 26, _, _, _, _, _⟩) (v := ?_) rfl (by kernel_rfl) (by kernel_rfl) (by kernel_rfl) (fun _ _ _ h => h) (Or.inl ⟨by rfl, fun w' hSw => ?_⟩) (by assumption) ?_
        rotate_left
        · (try dsimp only at hSw); go_simp; (try with_reducible rfl)
        (try simp only [Act.put, List.setIfInBounds_toArray, List.set_cons_zero, List.set_cons_succ])
        refine wpAnyH_take (i := 7) (oi := ⟨some 27, _, _, _, _, _⟩) (v := ?_) rfl (by kernel_rfl) (by kernel_rfl) (by kernel_rfl) (fun _ _ _ h => h) (Or.inl ⟨by rfl, fun w' hSw => ?_⟩) (by assumption) ?_
        rotate_left
        · (try dsimp only at hSw); go_simp; (try with_reducible rfl)
        (try simp only [Act.put, List.setIfInBounds_toArray, List.set_cons_zero, List.set_cons_succ])
        refine wpAnyH_take (i := 8) (oi := ⟨some 7, _, _, _, _, _⟩) (v := ?_) rfl (by kernel_rfl) (by kernel_rfl) (by kernel_rfl) (fun _ _ _ h => h) (Or.inl ⟨by rfl, fun w' hSw => ?_⟩) (by assumption) ?_
        rotate_left
        · (try dsimp only at hSw); go_simp; (try with_reducible rfl)
        (try simp only [Act.put, List.setIfInBounds_toArray, List.set_cons_zero, List.set_cons_succ])
        refine wpAnyH_take (i := 9) (oi := ⟨some 8, _, _, _, _, _⟩) (v := ?_) rfl (by kernel_rfl) (by kernel_rfl) (by kernel_rfl) (fun _ _ _ h => h) (Or.inl ⟨by rfl, fun w' hSw => ?_⟩) (by assumption) ?_
        rotate_left
        · (try dsimp only at hSw); go_simp; (try with_reducible rfl)
        (try simp only [Act.put, List.setIfInBounds_toArray, List.set_cons_zero, List.set_cons_succ])
        refine wpAnyH_done (by kernel_rfl) ?_ _
        have HBN := Lib.hid (HBR.out.trans (HB6.out.mono HBR.out.size))
        clear g0 g1 BEL hHeld
        cases hbk : bad k
        · have HNN : Hid (∀ j, j < k + 1 → bad j = false) := Lib.hid fun j hj => by
            by_cases e : j = k
            · rw [e]; exact hbk
            · exact HNO.out j (by omega)
          clear hbk
          go_wp2_with (at_builtin; fail)
          go_roundg (pk - k)
          case measure => omega
          case rel => exact ⟨k + 1, by omega, by go_num, HNN.out, HBN.out, by omega⟩
        · have HRS : Hid (fstX ts l (m : Nat) = (chcP k m, true)) := Lib.hid (by rw [HP.out, fstP_at hlt HNO.out hbk])
          clear hbk
          go_wp2_with (at_builtin; fail)
          refine (l8Choices_any k m (by omega) hm _).mono ?_
          rintro e w7 ⟨v7, rfl, hv7, hb7⟩
          have HV7 := Lib.hid hv7
          have HB7 := Lib.hid hb7
          clear hv7 hb7
          go_wp2_with (at_builtin; fail)
          go_ret2
          rw [HRS.out]
          have hle := Nat.le_trans HB1.out.size HBN.out.size
          exact ⟨_, rfl, HV7.out.baseLe hle, HB1.out.trans ((HBN.out.trans (HB7.out.mono HBN.out.size)).mono HB1.out.size)⟩
      · obtain rfl : k = pk := by omega
        have HRS : Hid (fstX ts l (m : Nat) = ([], false)) := Lib.hid (by rw [HP.out, fstP_none.2 HNO.out])
        go_wp2_with (at_builtin; fail)
        refine (HRU.out _).mono ?_
        rintro e w' ⟨rfl, rfl⟩
        go_wp2_with (at_builtin; fail)
        go_ret2
        rw [HRS.out]
        have hle := Nat.le_trans HB1.out.size HBR.out.size
        exact ⟨_, rfl, OInts.empty _ _ hle, (HB1.out.trans (HBR.out.mono HB1.out.size)).alloc hle _⟩
set_option maxHeartbeats 4000000 in
set_option maxRecDepth 100000 in
theorem sSafeUpTo_any (vt vb : Value) (ts : List Int) (l : List St) (a : Int) (B : Nat) (w : World) (ht : IntS w B vt ts) (hl : StS w B vb l) (hB : B ≤ w.heap.size) (hsz : szL l ≤ 4194300) :
    Calls Tryz.prog 21 #[.agg #[vt, vb], .int .i64 a] w fun e w' => e = .returned (.bool (safX ts l a)) ∧ Below w.heap.size w w' := by
  have HX := Lib.hid (RowB.new w [vt, vb] 31)
  have HB0 := Lib.hid (bel_a w (.cells #[vt, vb] 31))
  have HFW := Lib.hid (sFirstWrong_any vt vb ts l a B _ (ht.low HB0.out hB) (hl.low HB0.out hB) (Nat.le_trans hB HB0.out.size) hsz)
  have HRI := Lib.hid (fun (wz : World) (hz : Below w.heap.size w wz) => l8Right_any vt vb ts l a B wz (ht.low hz hB) (hl.low hz hB) (Nat.le_trans hB hz.size) hsz)
  have HSX : Hid (safX ts l a = (lenOk ts l a && !(fstX ts l a).2)) := Lib.hid rfl
  clear ht hl
  go_enter Tryz.func21, Tryz.ntmps21
  go_upto_region 1 with (at_builtin; fail)
  generalize w.alloc (.cells #[vt, vb] 31) = W at *
  obtain ⟨bx, hbx⟩ : ∃ bx, bx = w.heap.size := ⟨_, rfl⟩
  rw [← hbx] at HX ⊢
  clear hbx
  have g0 := HX.out.cell 0
  have g1 := HX.out.cell 1
  simp only [List.getElem?_cons_zero, List.getElem?_cons_succ] at g0 g1
  obtain ⟨R, hR⟩ : ∃ R, R = fstX ts l a := ⟨_, rfl⟩
  rw [← hR] at HFW HSX
  obtain ⟨RL, som⟩ := R
  clear hR
  go_wp2_with (at_builtin; fail)
  refine HFW.out.mono ?_
  rintro e w1 ⟨v1, rfl, hv1, hb1⟩
  have HB1 := Lib.hid (HB0.out.trans (hb1.mono HB0.out.size))
  have HX1 := Lib.hid (HX.out.low hb1 HX.out.lt)
  obtain ⟨A1, c1, rfl, -⟩ := hv1.slice
  clear hv1 hb1 g0 g1
  have g0 := HX1.out.cell 0
  have g1 := HX1.out.cell 1
  simp only [List.getElem?_cons_zero, List.getElem?_cons_succ] at g0 g1
  go_wp2_with (at_builtin; fail)
  refine (HRI.out _ HB1.out).mono ?_
  rintro e w2 ⟨rfl, hb2⟩
  have HB2 := Lib.hid (HB1.out.trans (hb2.mono HB1.out.size))
  clear hb2
  cases hok : lenOk ts l a
  · rw [hok] at HSX
    clear hok
    go_wp2_with (at_builtin; fail)
    go_ret
    exact ⟨by rw [HSX.out]; rfl, HB2.out⟩
  · rw [hok] at HSX
    clear hok
    go_wp2_with (at_builtin; fail)
    go_ret
    exact ⟨by rw [HSX.out]; rfl, HB2.out⟩

end Go.Proofs.YtfioaohadanjmaaGreat
