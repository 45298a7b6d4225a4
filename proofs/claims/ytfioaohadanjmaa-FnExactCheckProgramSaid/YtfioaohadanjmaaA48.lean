import Derived.Test.YtfioaohadanjmaaA47
import Derived.Test.YtfioaohadanjmaaA45
import Derived.Test.YtfioaohadanjmaaA14
import Derived.Test.YtfioaohadanjmaaA10
import Derived.Test.YtfioaohadanjmaaA12
set_option linter.unusedVariables false

/- Issues: spec.CheckProgram, spec.Accepts, FirstIssue both. -/
namespace Go.Proofs.Ytfioaohadanjmaa
open Go.RowKit

set_option maxHeartbeats 8000000 in
set_option maxRecDepth 100000 in
theorem sCheckProgram_any (vt vb : Value) (ts : List Int) (l : List St) (B : Nat) (w : World) (ht : IntS w B vt ts) (hl : StS w B vb l) (hB : B ≤ w.heap.size) (hsz : szL l ≤ 4194300) :
    Calls Try.prog 30 #[.agg #[vt, vb]] w (CkRet w (chkRes ts l)) := by
  have HBX := Lib.hid (Boxed.new ht hl hB 30)
  obtain ⟨At, ct, rfl, hct, -, -⟩ := ht
  obtain ⟨Ab, cb, rfl, hcb⟩ := hl.slice
  clear hl
  go_enter Try.func30, Try.ntmps30
  go_wp2_with fail
  refine (sProgramValid_any _ _ ts l B _ HBX.out.ht HBX.out.hl (by have := HBX.out.lt; omega) (by omega)).mono ?_
  rintro e w1 ⟨rfl, hb1⟩
  have HB1 := Lib.hid (HBX.out.bels hb1 hB)
  have c0 := HB1.out.c0
  have c1 := HB1.out.c1
  clear hb1 HBX
  cases hok : validP ts l
  · have HRES : Hid (chkRes ts l = []) := Lib.hid (by unfold chkRes; rw [hok]; rfl)
    clear hok
    go_wp2_with fail
    go_ret
    exact ⟨_, rfl, by rw [HRES.out]; exact OIs.empty w1 w.heap.size HB1.out.bel.size, HB1.out.bel.trans ((bel_a _ _).mono HB1.out.bel.size)⟩
  · have HV := Lib.hid hok
    have h6 := (Good.of_valid hok).h6
    have HRES : Hid (chkRes ts l = chkL ts (ptsP l) (LvN ts (ptsP l)) (ptsP l).length) := Lib.hid (by unfold chkRes; rw [if_pos hok])
    clear hok
    have hx := HB1.out.lt
    have BEL : Hid (∀ w', w'.cell? ⟨w.heap.size, 0, none⟩ = some (.slice At ts.length ct) ∧ w'.cell? ⟨w.heap.size, 1, none⟩ = some (.slice Ab l.length cb) ∧ Below w1.heap.size w1 w' → Below w1.heap.size w1 w') := Lib.hid fun _ h => h.2.2
    go_wp2_with (at_builtin; fail)
    refine wp_region_held_drew (S := (fun w' => w'.cell? ⟨w.heap.size, 0, none⟩ = some (.slice At ts.length ct) ∧ w'.cell? ⟨w.heap.size, 1, none⟩ = some (.slice Ab l.length cb) ∧ Below w1.heap.size w1 w')) (by kernel_rfl) ?_ (fun hHeld => ?_)
    · exact ⟨c0, c1, (Below.refl _ _).drew⟩
    refine wpAnyH_take (i := 0) (oi := ⟨some 7, _, _, _, _, _⟩) (v := ?_) rfl (by kernel_rfl) (by kernel_rfl) (by kernel_rfl) (fun _ _ _ h => h) (Or.inl ⟨by rfl, fun w' hSw => ?_⟩) (by assumption) ?_
    rotate_left
    · (try dsimp only at hSw); go_simp; (try with_reducible rfl)
    (try simp only [Act.put, List.setIfInBounds_toArray, List.set_cons_zero, List.set_cons_succ])
    refine wpAnyH_take (i := 1) (oi := ⟨some 8, _, _, _, _, _⟩) (v := ?_) rfl (by kernel_rfl) (by kernel_rfl) (by kernel_rfl) (fun _ _ _ h => h) (Or.inl ⟨by rfl, fun w' hSw => ?_⟩) (by assumption) ?_
    rotate_left
    · (try dsimp only at hSw); go_simp; (try with_reducible rfl)
    (try simp only [Act.put, List.setIfInBounds_toArray, List.set_cons_zero, List.set_cons_succ])
    refine wpAnyH_ready (rs := [2]) (by kernel_rfl) (by simp) ?_
    refine AllReadyH.cons (o := ⟨some 9, _, _, _, _, _⟩) rfl (fun K hK => ?_) AllReadyH.nil
    go_simp
    (have BY := (BEL.out _ (by assumption)))
    (refine (l3Live_any _ _ ts l B _ ((HB1.out.bels BY hB).ht) ((HB1.out.bels BY hB).hl) (by have := (HB1.out.bels BY hB).lt; omega) HV.out).mono ?_)
    (rintro e w2 ⟨v2, rb2, rows2, base2, rfl, -, hbr2, hrl2, hri2, hlv2, hb2⟩)
    (have BX2 := Lib.hid (BY.trans (hb2.mono BY.size)))
    (have HR2 := Lib.hid ((hbr2.toX hri2 (by omega)).frame (P' := Any) (Nat.le_refl _) (fun b _ _ => ⟨trivial, rfl⟩)))
    (have HRL := Lib.hid hrl2)
    (have HRI := Lib.hid hri2)
    (have HLV := Lib.hid hlv2)
    clear hb2 hbr2 hrl2 hri2 hlv2 BY
    go_simp
    refine hK.out _ _ ?_ (fun hHeld => ?_)
    · exact ⟨(BX2.out.cell (p := ⟨w.heap.size, 0, none⟩) hx).trans c0, (BX2.out.cell (p := ⟨w.heap.size, 1, none⟩) hx).trans c1, BX2.out⟩
    clear hK K
    (try simp only [Act.put, List.setIfInBounds_toArray, List.set_cons_zero, List.set_cons_succ])
    refine wpAnyH_ready (rs := [3]) (by kernel_rfl) (by simp) ?_
    refine AllReadyH.cons (o := ⟨some 10, _, _, _, _, _⟩) rfl (fun K hK => ?_) AllReadyH.nil
    go_simp
    (have BY := (BEL.out _ (by assumption)))
    (refine (l5Check_any _ _ _ ts l rows2 (LvN ts (ptsP l)) B _ ((HB1.out.bels BX2.out hB).ht) ((HB1.out.bels BX2.out hB).hl) (by have := (HB1.out.bels BX2.out hB).lt; omega) HV.out HR2.out HRL.out (fun k hk => ⟨HRI.out k (by rw [HRL.out]; exact hk), fun v _ => HLV.out k v⟩)).mono ?_)
    (rintro e w3 ⟨v6, rfl, ho6, hb3⟩)
    (have BX3 := Lib.hid (BX2.out.trans (hb3.mono BX2.out.size)))
    (have HO := Lib.hid (ho6.base (Nat.le_trans HB1.out.bel.size BX2.out.size)))
    clear hb3 ho6 BY
    go_simp
    refine hK.out _ _ ?_ (fun hHeld => ?_)
    · exact ⟨(BX3.out.cell (p := ⟨w.heap.size, 0, none⟩) hx).trans c0, (BX3.out.cell (p := ⟨w.heap.size, 1, none⟩) hx).trans c1, BX3.out⟩
    clear hK K
    (try simp only [Act.put, List.setIfInBounds_toArray, List.set_cons_zero, List.set_cons_succ])
    refine wpAnyH_take (i := 4) (oi := ⟨some 2, _, _, _, _, _⟩) (v := ?_) rfl (by kernel_rfl) (by kernel_rfl) (by kernel_rfl) (fun _ _ _ h => h) (Or.inl ⟨by rfl, fun w' hSw => ?_⟩) (by assumption) ?_
    rotate_left
    · (try dsimp only at hSw); go_simp; (try with_reducible rfl)
    (try simp only [Act.put, List.setIfInBounds_toArray, List.set_cons_zero, List.set_cons_succ])
    refine wpAnyH_done (by kernel_rfl) ?_ _
    clear c0 c1 BEL
    go_wp2_with (at_builtin; fail)
    go_ret
    refine ⟨v6, rfl, ?_, HB1.out.bel.trans (BX3.out.mono HB1.out.bel.size)⟩
    rw [HRES.out]
    exact HO.out
set_option maxHeartbeats 8000000 in
set_option maxRecDepth 100000 in
theorem sAccepts_any (vt vb : Value) (ts : List Int) (l : List St) (B : Nat) (w : World) (ht : IntS w B vt ts) (hl : StS w B vb l) (hB : B ≤ w.heap.size) (hsz : szL l ≤ 4194300) :
    Calls Try.prog 11 #[.agg #[vt, vb]] w fun e w' => e = .returned (.bool (validP ts l && decide ((chkRes ts l).length = 0))) ∧ Below w.heap.size w w' := by
  go_enter Try.func11, Try.ntmps11
  go_wp2_with fail
  refine (sProgramValid_any vt vb ts l w.heap.size _ ((ht.low (bel_a _ _) hB).more hB) ((hl.low (bel_a _ _) hB).more hB) (by simp) (by omega)).mono ?_
  rintro e w1 ⟨rfl, hb1⟩
  have HB1 := Lib.hid ((bel_a _ _).trans (hb1.mono (by simp)))
  have hc := box_kept hb1 (by simp)
  have hc0 := hc 0
  have hc1 := hc 1
  simp at hc0 hc1
  clear hb1 hc
  cases hv : validP ts l
  · have HV := Lib.hid hv
    clear hv
    go_wp2_with (at_builtin; fail)
    go_ret
    exact ⟨by rw [HV.out]; rfl, HB1.out⟩
  · have HV := Lib.hid hv
    clear hv
    go_wp2_with (at_builtin; fail)
    refine (sCheckProgram_any vt vb ts l w.heap.size w1 ((ht.low HB1.out hB).more hB) ((hl.low HB1.out hB).more hB) HB1.out.size hsz).mono ?_
    rintro e w2 ⟨v, rfl, hv2, hb2⟩
    have HB2 := Lib.hid (HB1.out.trans (hb2.mono HB1.out.size))
    have HV2 := Lib.hid (hv2.toS (by have := chkRes_len ts l; omega))
    clear hv2 hb2
    obtain ⟨L, HL⟩ : ∃ L, Hid (chkRes ts l = L) := ⟨_, Lib.hid rfl⟩
    rw [HL.out] at HV2
    obtain ⟨A2, c2, rfl, hc2⟩ := HV2.out.slice
    by_cases hz : L.length = 0
    · have HZ := Lib.hid hz
      have hz1 : ((L.length : Int) == 0) = true := by simp [hz]
      clear hz
      go_wp2_with (at_builtin; fail)
      go_ret
      exact ⟨ret_bool (by rw [HV.out, HL.out, decide_eq_true HZ.out]; rfl), HB2.out⟩
    · have HZ := Lib.hid hz
      have hz1 : ((L.length : Int) == 0) = false := by simpa using hz
      clear hz
      go_wp2_with (at_builtin; fail)
      go_ret
      exact ⟨ret_bool (by rw [HV.out, HL.out, decide_eq_false HZ.out]; rfl), HB2.out⟩
/-- the first issue -/
def firI (L : List Iss) : Iss := L.getD 0 ⟨0, 0, 0⟩
set_option maxHeartbeats 8000000 in
set_option maxRecDepth 100000 in
theorem sFirstIssue_any (vt vb : Value) (ts : List Int) (l : List St) (B : Nat) (w : World) (ht : IntS w B vt ts) (hl : StS w B vb l) (hB : B ≤ w.heap.size) (hsz : szL l ≤ 4194300) :
    Calls Try.prog 15 #[.agg #[vt, vb]] w fun e w' => e = .returned (.tuple #[.agg #[.int .i64 (firI (chkRes ts l)).pt, .int .i64 (firI (chkRes ts l)).kd, .int .i64 (firI (chkRes ts l)).wt], .bool (decide (0 < (chkRes ts l).length))]) ∧ Below w.heap.size w w' := by
  have HX := Lib.hid ((RowB.new w [vt, vb] 30).alloc (.cells #[.int .i64 0, .int .i64 0, .int .i64 0] 35))
  have HR := Lib.hid (RowB.new (w.alloc (.cells #[vt, vb] 30)) [.int .i64 0, .int .i64 0, .int .i64 0] 35)
  have hz1 : (w.alloc (.cells #[vt, vb] 30)).heap.size = w.heap.size + 1 := by simp
  rw [hz1] at HR
  have HB0 := Lib.hid ((bel_a w (.cells #[vt, vb] 30)).alloc (by simp) (.cells #[.int .i64 0, .int .i64 0, .int .i64 0] 35))
  have HT := Lib.hid ht
  have HL := Lib.hid hl
  clear hz1 ht hl
  go_enter Try.func15, Try.ntmps15
  go_upto_region 1 with (at_builtin; fail)
  generalize (w.alloc (.cells #[vt, vb] 30)).alloc (.cells #[.int .i64 0, .int .i64 0, .int .i64 0] 35) = W at *
  have x0 := HX.out.cell 0
  have x1 := HX.out.cell 1
  simp only [List.getElem?_cons_zero, List.getElem?_cons_succ] at x0 x1
  have hs0 := HB0.out.size
  have hr0 := HR.out.lt
  go_wp2_with (at_builtin; fail)
  refine (sCheckProgram_any vt vb ts l w.heap.size W ((HT.out.low HB0.out hB).more hB) ((HL.out.low HB0.out hB).more hB) hs0 hsz).mono ?_
  rintro e w2 ⟨v, rfl, hv2, hb2⟩
  have HB2 := Lib.hid (HB0.out.trans (hb2.mono hs0))
  have HR2 := Lib.hid (HR.out.low hb2 hr0)
  have HV2 := Lib.hid (hv2.toS (by have := chkRes_len ts l; omega))
  clear hv2 hb2 x0 x1
  have r0 := HR2.out.cell 0
  have r1 := HR2.out.cell 1
  have r2 := HR2.out.cell 2
  have rf0 := HR2.out.frozen 0
  have rf1 := HR2.out.frozen 1
  have rf2 := HR2.out.frozen 2
  simp only [List.getElem?_cons_zero, List.getElem?_cons_succ] at r0 r1 r2
  obtain ⟨L, HL1⟩ : ∃ L, Hid (chkRes ts l = L) := ⟨_, Lib.hid rfl⟩
  rw [HL1.out] at HV2
  obtain ⟨A2, c2, rfl, hc2⟩ := HV2.out.slice
  by_cases hz : L.length = 0
  · have hz1 : ((L.length : Int) == 0) = true := by simp [hz]
    have HZ := Lib.hid hz
    clear hz
    go_wp2_with (at_builtin; fail)
    have HR7 : RowB (w2.setCells (w.heap.size + 1) 0 [.int .i64 0, .int .i64 0, .int .i64 0]) (w.heap.size + 1) 35 _ := HR2.out.putAll _ rfl
    refine bodyPost_ret (res_box (p := 2) (u := 3) (ty := 35) rfl _ _ (w.heap.size + 1) 35 _ (0, 0) _ rfl HR7 Try.underlying35 rfl rfl) rfl ⟨?_, HB2.out.trans (below_putL (B := w.heap.size) (g := w.heap.size + 1) (by omega) [.int .i64 0, .int .i64 0, .int .i64 0] 0 w2)⟩
    rw [HL1.out, List.length_eq_zero_iff.1 HZ.out]; rfl
  · have hz1 : ((L.length : Int) == 0) = false := by simpa using hz
    obtain ⟨b, off, rfl, hb, d0, d1, d2⟩ := HV2.out.get (i := 0) (by omega)
    rw [Nat.zero_mul, Nat.add_zero] at d0 d1 d2
    have HF : Hid (L[0]'(by omega) = firI L) := Lib.hid (by unfold firI; rw [List.getD_eq_getElem?_getD, List.getElem?_eq_getElem (by omega)]; rfl)
    rw [HF.out] at d0 d1 d2
    have HP := Lib.hid (show 0 < L.length by omega)
    obtain ⟨n, hn⟩ : ∃ n, n = L.length := ⟨_, rfl⟩
    rw [← hn] at hz1 hc2 ⊢
    have hn0 : 0 < n := by omega
    obtain ⟨x0, hx0⟩ : ∃ x0, x0 = (firI L).pt := ⟨_, rfl⟩
    obtain ⟨x1, hx1⟩ : ∃ x1, x1 = (firI L).kd := ⟨_, rfl⟩
    obtain ⟨x2, hx2⟩ : ∃ x2, x2 = (firI L).wt := ⟨_, rfl⟩
    rw [← hx0] at d0
    rw [← hx1] at d1
    rw [← hx2] at d2
    have HX0 := Lib.hid hx0
    have HX1 := Lib.hid hx1
    have HX2 := Lib.hid hx2
    clear HF hz hn hx0 hx1 hx2
    go_wp2_with (at_builtin; fail)
    have HR7 : RowB (w2.setCells (w.heap.size + 1) 0 [.int .i64 x0, .int .i64 x1, .int .i64 x2]) (w.heap.size + 1) 35 _ := HR2.out.putAll _ rfl
    refine bodyPost_ret (res_box (p := 2) (u := 3) (ty := 35) rfl _ _ (w.heap.size + 1) 35 _ (0, 0) _ rfl HR7 Try.underlying35 rfl rfl) rfl ⟨?_, HB2.out.trans (below_putL (B := w.heap.size) (g := w.heap.size + 1) (by omega) [.int .i64 x0, .int .i64 x1, .int .i64 x2] 0 w2)⟩
    rw [HL1.out, decide_eq_true HP.out, ← HX0.out, ← HX1.out, ← HX2.out]; rfl
set_option maxHeartbeats 8000000 in
set_option maxRecDepth 100000 in
theorem iFirstIssue_any (vt vb : Value) (ts : List Int) (l : List St) (B : Nat) (w : World) (ht : IntS w B vt ts) (hl : StS w B vb l) (hB : B ≤ w.heap.size) (hsz : szL l ≤ 4194300) :
    Calls Try.prog 16 #[.agg #[vt, vb]] w fun e w' => e = .returned (.tuple #[.agg #[.int .i64 (firI (chkRes ts l)).pt, .int .i64 (firI (chkRes ts l)).kd, .int .i64 (firI (chkRes ts l)).wt], .bool (decide (0 < (chkRes ts l).length))]) ∧ Below w.heap.size w w' := by
  have HX := Lib.hid ((RowB.new w [vt, vb] 30).alloc (.cells #[.int .i64 0, .int .i64 0, .int .i64 0] 35))
  have HR := Lib.hid (RowB.new (w.alloc (.cells #[vt, vb] 30)) [.int .i64 0, .int .i64 0, .int .i64 0] 35)
  have hz1 : (w.alloc (.cells #[vt, vb] 30)).heap.size = w.heap.size + 1 := by simp
  rw [hz1] at HR
  have HB0 := Lib.hid ((bel_a w (.cells #[vt, vb] 30)).alloc (by simp) (.cells #[.int .i64 0, .int .i64 0, .int .i64 0] 35))
  have HT := Lib.hid ht
  have HL := Lib.hid hl
  clear hz1 ht hl
  go_enter Try.func16, Try.ntmps16
  go_upto_region 1 with (at_builtin; fail)
  generalize (w.alloc (.cells #[vt, vb] 30)).alloc (.cells #[.int .i64 0, .int .i64 0, .int .i64 0] 35) = W at *
  have x0 := HX.out.cell 0
  have x1 := HX.out.cell 1
  simp only [List.getElem?_cons_zero, List.getElem?_cons_succ] at x0 x1
  have hs0 := HB0.out.size
  have hr0 := HR.out.lt
  go_wp2_with (at_builtin; fail)
  refine (iCheckProgram_any vt vb ts l w.heap.size W ((HT.out.low HB0.out hB).more hB) ((HL.out.low HB0.out hB).more hB) hs0 hsz).mono ?_
  rintro e w2 ⟨v, rfl, hv2, hb2⟩
  have HB2 := Lib.hid (HB0.out.trans (hb2.mono hs0))
  have HR2 := Lib.hid (HR.out.low hb2 hr0)
  have HV2 := Lib.hid (hv2.toS (by have := chkRes_len ts l; omega))
  clear hv2 hb2 x0 x1
  have r0 := HR2.out.cell 0
  have r1 := HR2.out.cell 1
  have r2 := HR2.out.cell 2
  have rf0 := HR2.out.frozen 0
  have rf1 := HR2.out.frozen 1
  have rf2 := HR2.out.frozen 2
  simp only [List.getElem?_cons_zero, List.getElem?_cons_succ] at r0 r1 r2
  obtain ⟨L, HL1⟩ : ∃ L, Hid (chkRes ts l = L) := ⟨_, Lib.hid rfl⟩
  rw [HL1.out] at HV2
  obtain ⟨A2, c2, rfl, hc2⟩ := HV2.out.slice
  by_cases hz : L.length = 0
  · have hz1 : ((L.length : Int) == 0) = true := by simp [hz]
    have HZ := Lib.hid hz
    clear hz
    go_wp2_with (at_builtin; fail)
    have HR7 : RowB (w2.setCells (w.heap.size + 1) 0 [.int .i64 0, .int .i64 0, .int .i64 0]) (w.heap.size + 1) 35 _ := HR2.out.putAll _ rfl
    refine bodyPost_ret (res_box (p := 2) (u := 3) (ty := 35) rfl _ _ (w.heap.size + 1) 35 _ (0, 0) _ rfl HR7 Try.underlying35 rfl rfl) rfl ⟨?_, HB2.out.trans (below_putL (B := w.heap.size) (g := w.heap.size + 1) (by omega) [.int .i64 0, .int .i64 0, .int .i64 0] 0 w2)⟩
    rw [HL1.out, List.length_eq_zero_iff.1 HZ.out]; rfl
  · have hz1 : ((L.length : Int) == 0) = false := by simpa using hz
    obtain ⟨b, off, rfl, hb, d0, d1, d2⟩ := HV2.out.get (i := 0) (by omega)
    rw [Nat.zero_mul, Nat.add_zero] at d0 d1 d2
    have HF : Hid (L[0]'(by omega) = firI L) := Lib.hid (by unfold firI; rw [List.getD_eq_getElem?_getD, List.getElem?_eq_getElem (by omega)]; rfl)
    rw [HF.out] at d0 d1 d2
    have HP := Lib.hid (show 0 < L.length by omega)
    obtain ⟨n, hn⟩ : ∃ n, n = L.length := ⟨_, rfl⟩
    rw [← hn] at hz1 hc2 ⊢
    have hn0 : 0 < n := by omega
    obtain ⟨x0, hx0⟩ : ∃ x0, x0 = (firI L).pt := ⟨_, rfl⟩
    obtain ⟨x1, hx1⟩ : ∃ x1, x1 = (firI L).kd := ⟨_, rfl⟩
    obtain ⟨x2, hx2⟩ : ∃ x2, x2 = (firI L).wt := ⟨_, rfl⟩
    rw [← hx0] at d0
    rw [← hx1] at d1
    rw [← hx2] at d2
    have HX0 := Lib.hid hx0
    have HX1 := Lib.hid hx1
    have HX2 := Lib.hid hx2
    clear HF hz hn hx0 hx1 hx2
    go_wp2_with (at_builtin; fail)
    have HR7 : RowB (w2.setCells (w.heap.size + 1) 0 [.int .i64 x0, .int .i64 x1, .int .i64 x2]) (w.heap.size + 1) 35 _ := HR2.out.putAll _ rfl
    refine bodyPost_ret (res_box (p := 2) (u := 3) (ty := 35) rfl _ _ (w.heap.size + 1) 35 _ (0, 0) _ rfl HR7 Try.underlying35 rfl rfl) rfl ⟨?_, HB2.out.trans (below_putL (B := w.heap.size) (g := w.heap.size + 1) (by omega) [.int .i64 x0, .int .i64 x1, .int .i64 x2] 0 w2)⟩
    rw [HL1.out, decide_eq_true HP.out, ← HX0.out, ← HX1.out, ← HX2.out]; rfl

end Go.Proofs.Ytfioaohadanjmaa
