import Derived.Test.YtidlifijgooceaaW36
set_option linter.unusedVariables false

/- What is dead; impl.DropDead. -/
namespace Go.Proofs.Ytidlifijgooceaa
open Go.RowKit

/-- a statement that only sets a variable -/
def deadB (ts : List Int) (s : St) : Bool := s.op == 1 || s.op == 6 || s.op == 4 || s.op == 5 || (s.op == 3 && (typeOfP ts s.y == 1 || typeOfP ts s.y == 3))
def stD : St := .mk 0 0 0 0 [] []
noncomputable def ddOk (ts : List Int) (l : List St) (k : Int) : Bool := drOk ts l k && (deadB ts (l.getD k.toNat stD) && !hasP (liveRes ts l ((npL (l.take k.toNat) : Nat) : Int)) (l.getD k.toNat stD).x)
theorem dd_no {ts : List Int} {l : List St} {k : Int} (h : drOk ts l k = false) : ddOk ts l k = false := by unfold ddOk; rw [h]; rfl
theorem dd_eq {ts : List Int} {l : List St} {q : Nat} (h : drOk ts l (q : Int) = true) (hq : q < l.length) : ddOk ts l (q : Int) = (deadB ts l[q] && !hasP (liveRes ts l ((npL (l.take q) : Nat) : Int)) l[q].x) := by
  unfold ddOk
  rw [h, Bool.true_and, Int.toNat_natCast, getD_lt hq]
theorem typeOf_pos {ts : List Int} {v : Int} (h : typeOfP ts v ≠ 0) : 0 ≤ v ∧ v < ts.length := by
  unfold typeOfP at h
  split at h
  · rename_i h0
    refine ⟨h0, ?_⟩
    by_cases hv : v.toNat < ts.length
    · omega
    · rw [getD_ge (by omega)] at h; exact absurd rfl h
  · exact absurd rfl h
/-- a move in a valid program -/
theorem valid_st {ts : List Int} {l : List St} {q : Nat} (hv : validP ts l = true) (hq : q < l.length) : l[q].op = 3 → 0 ≤ l[q].x ∧ l[q].x < ts.length ∧ typeOfP ts l[q].x = typeOfP ts l[q].y := by
  intro h3
  have h := slOk_mem (valid_parts hv).2.1 hq
  rw [stOk_eq] at h
  have hb : isBranchP l[q].op = false := by rw [h3]; rfl
  rw [hb] at h
  simp only [Bool.false_eq_true, if_false, Bool.and_eq_true] at h
  have h2 := h.2
  unfold simpleP at h2
  rw [h3] at h2
  simp at h2
  obtain ⟨-, ⟨h4, h5⟩, -⟩ := h2
  have := typeOf_pos h5
  exact ⟨this.1, this.2, h4⟩
theorem npL_take_le (l : List St) (q : Nat) : npL (l.take q) ≤ npL l := by
  have h := cat_len (l.take q) (l.drop q)
  rw [List.take_append_drop, npL_len] at h
  have := ptsP_pos (l.drop q)
  omega
theorem fp_graph {ts : List Int} {l : List St} (hv : validP ts l = true) (q : Nat) : graphOk ts l [((npL (l.take q) : Nat) : Int)] = true := by
  have h1 := npL_take_le l q
  have h2 := npL_len l
  simp only [graphOk, List.all_cons, List.all_nil, Bool.and_true, withinP, hv, Bool.true_and, Bool.and_eq_true, decide_eq_true_eq]
  omega
/-- a dead statement dropped, a tree of different rows -/
def DdDRet (w : World) (ts : List Int) (l : List St) (k : Int) (e : Ending) (w' : World) : Prop :=
  ∃ vt vb lo, e = .returned (.tuple #[.agg #[vt, vb], .bool (ddOk ts l k)]) ∧ OInts w' w.heap.size vt (if ddOk ts l k then ts else []) ∧ (∀ g, vt.ownBlock = some g → g < lo) ∧ w.heap.size ≤ lo ∧ DT w' (rg lo w'.heap.size) vb (if ddOk ts l k then l.eraseIdx k.toNat else []) ∧ Below w.heap.size w w'
set_option maxHeartbeats 8000000 in
set_option maxRecDepth 100000 in
theorem iDropDead_any (vt vb : Value) (ts : List Int) (l : List St) (k : Int) (B : Nat) (w : World) (ht : IntS w B vt ts) (hl : StS w B vb l) (hB : B ≤ w.heap.size) (hts : ts.length ≤ 4000000) (hsz : szL l ≤ 4194000) :
    Calls Try.prog 33 #[.agg #[vt, vb], .int .i64 k] w (DdDRet w ts l k) := by
  have ht0 := ht
  obtain ⟨At, ct, rfl, -⟩ := ht0
  obtain ⟨Ab, cb, rfl, -⟩ := hl.slice
  have HX := Lib.hid ((RowB.new w [.slice At ts.length ct, .slice Ab l.length cb] 26).alloc (.cells #[.slice none 0 0, .slice none 0 0] 26))
  have HR := Lib.hid (RowB.new (w.alloc (.cells #[.slice At ts.length ct, .slice Ab l.length cb] 26)) [.slice none 0 0, .slice none 0 0] 26)
  have hz1 : (w.alloc (.cells #[.slice At ts.length ct, .slice Ab l.length cb] 26)).heap.size = w.heap.size + 1 := by simp
  rw [hz1] at HR
  have HB0 := Lib.hid ((bel_a w (.cells #[.slice At ts.length ct, .slice Ab l.length cb] 26)).alloc (by simp) (.cells #[.slice none 0 0, .slice none 0 0] 26))
  have HT := Lib.hid ht
  have HL := Lib.hid hl
  clear hz1 ht hl
  go_enter Try.func33, Try.ntmps33
  go_upto_region 1 with (at_builtin; fail)
  generalize (w.alloc (.cells #[.slice At ts.length ct, .slice Ab l.length cb] 26)).alloc (.cells #[.slice none 0 0, .slice none 0 0] 26) = W at *
  have x0 := HX.out.cell 0
  have x1 := HX.out.cell 1
  simp only [List.getElem?_cons_zero, List.getElem?_cons_succ] at x0 x1
  have hs0 := HB0.out.size
  have hr0 := HR.out.lt
  have hx0 := HX.out.lt
  have NO : Hid (∀ W', RowB W' (w.heap.size + 1) 26 [.slice none 0 0, .slice none 0 0] → Below w.heap.size w W' → ddOk ts l k = false → DdDRet w ts l k (.returned (.tuple #[.agg #[.slice none 0 0, .slice none 0 0], .bool false])) (W'.setCells (w.heap.size + 1) 0 [.slice none 0 0, .slice none 0 0])) := Lib.hid fun W' _ hb hno => by
    have hB7 := hb.trans (below_putL (B := w.heap.size) (g := w.heap.size + 1) (by omega) [.slice none 0 0, .slice none 0 0] 0 W')
    refine ⟨_, _, w.heap.size, by rw [hno], ?_, fun g e => by simp [Value.ownBlock] at e, Nat.le_refl _, ?_, hB7⟩ <;> rw [hno]
    · exact OInts.nil _ _
    · exact .nil _
  go_wp2_with (at_builtin; fail)
  refine (iProgramValid_any _ _ ts l B W (HT.out.low HB0.out hB) (HL.out.low HB0.out hB) (by omega) (by omega)).mono ?_
  rintro e w1 ⟨rfl, hb1⟩
  have HB1 := Lib.hid (HB0.out.trans (hb1.mono hs0))
  have HX1 := Lib.hid (HX.out.low hb1 hx0)
  have HR1 := Lib.hid (HR.out.low hb1 hr0)
  clear hb1 x0 x1
  have x0 := HX1.out.cell 0
  have x1 := HX1.out.cell 1
  have r0 := HR1.out.cell 0
  have r1 := HR1.out.cell 1
  have rf0 := HR1.out.frozen 0
  have rf1 := HR1.out.frozen 1
  simp only [List.getElem?_cons_zero, List.getElem?_cons_succ] at x0 x1 r0 r1
  cases hv : validP ts l
  · have HNO := Lib.hid (NO.out w1 HR1.out HB1.out (dd_no (by unfold drOk; rw [hv]; rfl)))
    clear hv
    go_wp2_with (at_builtin; fail)
    have HR7 : RowB (w1.setCells (w.heap.size + 1) 0 [.slice none 0 0, .slice none 0 0]) (w.heap.size + 1) 26 _ := HR1.out.putAll _ rfl
    exact bodyPost_ret (res_box (p := 4) (u := 5) (ty := 26) rfl _ _ (w.heap.size + 1) 26 _ (0, 0) _ rfl HR7 Try.underlying26 rfl rfl) rfl HNO.out
  · have HV := Lib.hid hv
    clear hv
    go_wp2_with (at_builtin; fail)
    refine (isStmt_any _ _ ts l k B w1 (HT.out.low HB1.out hB) (HL.out.low HB1.out hB) (by omega)).mono ?_
    rintro e w2 ⟨rfl, hb2⟩
    have hs1 := HB1.out.size
    have hx1 := HX1.out.lt
    have hr1 := HR1.out.lt
    have HB2 := Lib.hid (HB1.out.trans (hb2.mono hs1))
    have HX2 := Lib.hid (HX1.out.low hb2 hx1)
    have HR2 := Lib.hid (HR1.out.low hb2 hr1)
    clear hb2 x0 x1 r0 r1 rf0 rf1
    have x0 := HX2.out.cell 0
    have x1 := HX2.out.cell 1
    have r0 := HR2.out.cell 0
    have r1 := HR2.out.cell 1
    have rf0 := HR2.out.frozen 0
    have rf1 := HR2.out.frozen 1
    simp only [List.getElem?_cons_zero, List.getElem?_cons_succ] at x0 x1 r0 r1
    cases hw : withinP k 0 ((l.length : Int) - 1)
    · have HNO := Lib.hid (NO.out w2 HR2.out HB2.out (dd_no (by unfold drOk; rw [hw, Bool.and_false])))
      clear hw
      go_wp2_with (at_builtin; fail)
      have HR7 : RowB (w2.setCells (w.heap.size + 1) 0 [.slice none 0 0, .slice none 0 0]) (w.heap.size + 1) 26 _ := HR2.out.putAll _ rfl
      exact bodyPost_ret (res_box (p := 4) (u := 5) (ty := 26) rfl _ _ (w.heap.size + 1) 26 _ (0, 0) _ rfl HR7 Try.underlying26 rfl rfl) rfl HNO.out
    · have HOK : Hid (drOk ts l k = true) := Lib.hid (by unfold drOk; rw [HV.out, hw]; rfl)
      have hk0 : 0 ≤ k ∧ k ≤ (l.length : Int) - 1 := by simpa [withinP] using hw
      obtain ⟨q, rfl⟩ : ∃ q : Nat, k = q := ⟨k.toNat, by omega⟩
      have hql : q < l.length := by omega
      clear hw hk0
      have hx2 := HX2.out.lt
      have hr2 := HR2.out.lt
      have hs2 := HB2.out.size
      have HSO := Lib.hid (valid_st HV.out hql)
      have HDD := Lib.hid (dd_eq HOK.out hql)
      obtain ⟨b, off, tv, ev, rfl, hb, hth, hel, c0, c1, c2, c3, c4, c5⟩ := (HL.out.low HB2.out hB).get hql
      obtain ⟨A4, n4, rfl, -⟩ := hth.slice
      obtain ⟨A5, n5, rfl, -⟩ := hel.slice
      have HQL := Lib.hid hql
      generalize l[q]'hql = s at *
      have HX5 := Lib.hid (RowB.new w2 [.int .i64 s.op, .int .i64 s.x, .int .i64 s.y, .int .i64 s.n, .slice A4 s.th.length n4, .slice A5 s.el.length n5] 87)
      have HB5 := Lib.hid (bel_a w2 (.cells #[.int .i64 s.op, .int .i64 s.x, .int .i64 s.y, .int .i64 s.n, .slice A4 s.th.length n4, .slice A5 s.el.length n5] 87))
      clear hth hel
      go_upto_region 4 with (at_builtin; fail)
      clear c0 c1 c2 c3 c4 c5
      generalize w2.alloc (.cells #[.int .i64 s.op, .int .i64 s.x, .int .i64 s.y, .int .i64 s.n, .slice A4 s.th.length n4, .slice A5 s.el.length n5] 87) = w5 at *
      obtain ⟨g6, hg6⟩ : ∃ g6, g6 = w2.heap.size := ⟨_, rfl⟩
      rw [← hg6] at HX5 HB5 hx2 hr2 hs2 ⊢
      have HG6 := Lib.hid hg6
      clear hg6
      have HX2 := Lib.hid (HX2.out.low HB5.out hx2)
      have HR2 := Lib.hid (HR2.out.low HB5.out hr2)
      have HB2 := Lib.hid (HB2.out.trans (HB5.out.mono hs2))
      clear x0 x1 r0 r1 rf0 rf1
      have x0 := HX2.out.cell 0
      have x1 := HX2.out.cell 1
      have r0 := HR2.out.cell 0
      have r1 := HR2.out.cell 1
      have rf0 := HR2.out.frozen 0
      have rf1 := HR2.out.frozen 1
      have u0 := HX5.out.cell 0
      have u1 := HX5.out.cell 1
      have u2 := HX5.out.cell 2
      simp only [List.getElem?_cons_zero, List.getElem?_cons_succ] at x0 x1 r0 r1 u0 u1 u2
      have hx2 := HX2.out.lt
      have hr2 := HR2.out.lt
      have hu2 := HX5.out.lt
      have hsz2 := HB2.out.size
      have h6 := valid_ts HV.out
      have hnp := npL_take_le l q
      have HFP : Hid (graphOk ts l [((npL (l.take q) : Nat) : Int)] = true) := Lib.hid (fp_graph HV.out q)
      by_cases h1 : s.op = 1
      · have HDB : deadB ts s = true := by unfold deadB; rw [h1]; rfl
        have hq1 : (s.op == 1) = true := by rw [h1]; rfl
        cases hh : hasP (liveRes ts l ((npL (l.take q) : Nat) : Int)) s.x
        · have HH := Lib.hid hh
          clear hh
          have BEL : Hid (∀ w', w'.cell? ⟨w.heap.size, 0, none⟩ = some (.slice At ts.length ct) ∧ w'.cell? ⟨w.heap.size, 1, none⟩ = some (.slice (some ⟨b, off, none⟩) l.length cb) ∧ w'.cell? ⟨g6, 1, none⟩ = some (.int .i64 s.x) ∧ Below w5.heap.size w5 w' → Below w5.heap.size w5 w') := Lib.hid fun _ h => h.2.2.2
          go_wp2_with (at_builtin; fail)
          refine wp_region_held_drew (S := (fun w' => w'.cell? ⟨w.heap.size, 0, none⟩ = some (.slice At ts.length ct) ∧ w'.cell? ⟨w.heap.size, 1, none⟩ = some (.slice (some ⟨b, off, none⟩) l.length cb) ∧ w'.cell? ⟨g6, 1, none⟩ = some (.int .i64 s.x) ∧ Below w5.heap.size w5 w')) (by kernel_rfl) ?_ (fun hHeld => ?_)
          · exact ⟨x0, x1, u1, (Below.refl _ _).drew⟩
          refine wpAnyH_take (i := 0) (oi := ⟨some 46, _, _, _, _, _⟩) (v := ?_) rfl (by kernel_rfl) (by kernel_rfl) (by kernel_rfl) (fun _ _ _ h => h) (Or.inl ⟨by rfl, fun w' hSw => ?_⟩) (by assumption) ?_
          rotate_left
          · (try dsimp only at hSw); go_simp; (try with_reducible rfl)
          (try simp only [Act.put, List.setIfInBounds_toArray, List.set_cons_zero, List.set_cons_succ])
          refine wpAnyH_take (i := 1) (oi := ⟨some 47, _, _, _, _, _⟩) (v := ?_) rfl (by kernel_rfl) (by kernel_rfl) (by kernel_rfl) (fun _ _ _ h => h) (Or.inl ⟨by rfl, fun w' hSw => ?_⟩) (by assumption) ?_
          rotate_left
          · (try dsimp only at hSw); go_simp; (try with_reducible rfl)
          (try simp only [Act.put, List.setIfInBounds_toArray, List.set_cons_zero, List.set_cons_succ])
          refine wpAnyH_take (i := 2) (oi := ⟨some 48, _, _, _, _, _⟩) (v := ?_) rfl (by kernel_rfl) (by kernel_rfl) (by kernel_rfl) (fun _ _ _ h => h) (Or.inl ⟨by rfl, fun w' hSw => ?_⟩) (by assumption) ?_
          rotate_left
          · (try dsimp only at hSw); go_simp; (try with_reducible rfl)
          (try simp only [Act.put, List.setIfInBounds_toArray, List.set_cons_zero, List.set_cons_succ])
          refine wpAnyH_take (i := 5) (oi := ⟨some 51, _, _, _, _, _⟩) (v := ?_) rfl (by kernel_rfl) (by kernel_rfl) (by kernel_rfl) (fun _ _ _ h => h) (Or.inl ⟨by rfl, fun w' hSw => ?_⟩) (by assumption) ?_
          rotate_left
          · (try dsimp only at hSw); go_simp; (try with_reducible rfl)
          (try simp only [Act.put, List.setIfInBounds_toArray, List.set_cons_zero, List.set_cons_succ])
          refine wpAnyH_take (i := 6) (oi := ⟨some 52, _, _, _, _, _⟩) (v := ?_) rfl (by kernel_rfl) (by kernel_rfl) (by kernel_rfl) (fun _ _ _ h => h) (Or.inl ⟨by rfl, fun w' hSw => ?_⟩) (by assumption) ?_
          rotate_left
          · (try dsimp only at hSw); go_simp; (try with_reducible rfl)
          (try simp only [Act.put, List.setIfInBounds_toArray, List.set_cons_zero, List.set_cons_succ])
          refine wpAnyH_ready (rs := [3]) (by kernel_rfl) (by simp) ?_
          refine AllReadyH.cons (o := ⟨some 49, _, _, _, _, _⟩) rfl (fun K hK => ?_) AllReadyH.nil
          go_simp
          (have BY := (BEL.out _ (by assumption)))
          (refine (firstPoint_any _ _ ts l q B _ (HT.out.low (HB2.out.trans (BY.mono hsz2)) hB) (HL.out.low (HB2.out.trans (BY.mono hsz2)) hB) (by have := BY.size; omega) (by omega) (by omega) (by omega)).mono ?_)
          (rintro e w6 ⟨rfl, hb6⟩)
          (have BX6 := Lib.hid (BY.trans (hb6.mono BY.size)))
          clear hb6 BY
          go_simp
          refine hK.out _ _ ?_ (fun hHeld => ?_)
          · exact ⟨(BX6.out.cell (p := ⟨w.heap.size, 0, none⟩) hx2).trans x0, (BX6.out.cell (p := ⟨w.heap.size, 1, none⟩) hx2).trans x1, (BX6.out.cell (p := ⟨g6, 1, none⟩) hu2).trans u1, BX6.out⟩
          clear hK K
          (try simp only [Act.put, List.setIfInBounds_toArray, List.set_cons_zero, List.set_cons_succ])
          refine wpAnyH_ready (rs := [4]) (by kernel_rfl) (by simp) ?_
          refine AllReadyH.cons (o := ⟨some 50, _, _, _, _, _⟩) rfl (fun K hK => ?_) AllReadyH.nil
          go_simp
          (have BY := (BEL.out _ (by assumption)))
          (refine (iLiveAfter_any _ _ ts l ((npL (l.take q) : Nat) : Int) B _ (HT.out.low (HB2.out.trans (BY.mono hsz2)) hB) (HL.out.low (HB2.out.trans (BY.mono hsz2)) hB) (by have := BY.size; omega) (by omega)).mono ?_)
          (rintro e w7 ⟨v7, rfl, hi7, hb7⟩)
          (have BX7 := Lib.hid (BY.trans (hb7.mono BY.size)))
          (have HI7 := Lib.hid hi7)
          (obtain ⟨A7, c7, rfl, -, -, -⟩ := id hi7)
          clear hb7 hi7 BY
          go_simp
          refine hK.out _ _ ?_ (fun hHeld => ?_)
          · exact ⟨(BX7.out.cell (p := ⟨w.heap.size, 0, none⟩) hx2).trans x0, (BX7.out.cell (p := ⟨w.heap.size, 1, none⟩) hx2).trans x1, (BX7.out.cell (p := ⟨g6, 1, none⟩) hu2).trans u1, BX7.out⟩
          clear hK K
          (try simp only [Act.put, List.setIfInBounds_toArray, List.set_cons_zero, List.set_cons_succ])
          refine wpAnyH_ready (rs := [7]) (by kernel_rfl) (by simp) ?_
          refine AllReadyH.cons (o := ⟨some 53, _, _, _, _, _⟩) rfl (fun K hK => ?_) AllReadyH.nil
          go_simp
          (have BY := (BEL.out _ (by assumption)))
          (refine (contains_any _ _ s.x _ _ HI7.out).mono ?_)
          (rintro e w8 ⟨rfl, rfl⟩)
          (rw [HH.out])
          go_simp
          refine hK.out _ _ ?_ (fun hHeld => ?_)
          · assumption
          clear hK K
          (try simp only [Act.put, List.setIfInBounds_toArray, List.set_cons_zero, List.set_cons_succ])
          refine wpAnyH_done (by kernel_rfl) ?_ _
          have HRZ := Lib.hid (HR2.out.low BX7.out hr2)
          have HBZ := Lib.hid (HB2.out.trans (BX7.out.mono hsz2))
          clear x0 x1 r0 r1 rf0 rf1 u0 u1 u2 BEL BX6 hHeld
          have x0 := (BX7.out.cell (p := ⟨w.heap.size, 0, none⟩) hx2).trans (HX2.out.cell 0)
          have x1 := (BX7.out.cell (p := ⟨w.heap.size, 1, none⟩) hx2).trans (HX2.out.cell 1)
          have r0 := HRZ.out.cell 0
          have r1 := HRZ.out.cell 1
          have rf0 := HRZ.out.frozen 0
          have rf1 := HRZ.out.frozen 1
          simp only [List.getElem?_cons_zero, List.getElem?_cons_succ] at x0 x1 r0 r1
          have HYES : Hid (ddOk ts l (q : Int) = true) := Lib.hid (by rw [HDD.out, HH.out, HDB]; rfl)
          go_wp2_with (at_builtin; fail)
          refine (dropped_any _ _ ts l q B w7 (HT.out.low HBZ.out hB) (HL.out.low HBZ.out hB) (by have := HBZ.out.size; omega) HQL.out hts hsz).mono ?_
          rintro e w9 ⟨vt3, vb3, lo, rfl, hoi, hown, hlo, hdt, hb3⟩
          have hsz7 := HBZ.out.size
          have hrz := HRZ.out.lt
          have HB9 := Lib.hid (HBZ.out.trans (hb3.mono hsz7))
          have HR9 := Lib.hid (HRZ.out.low hb3 hrz)
          have HOI := Lib.hid hoi
          have HDT := Lib.hid hdt
          have HOW := Lib.hid hown
          obtain ⟨A8, c8, rfl, -⟩ := hoi.slice
          obtain ⟨A9, c9, rfl, -⟩ := hdt.slice
          have HL2 : Hid ((if ddOk ts l (q : Int) then l.eraseIdx (q : Int).toNat else []) = l.eraseIdx q) := Lib.hid (by rw [HYES.out]; rfl)
          have HT2 : Hid ((if ddOk ts l (q : Int) then ts else []) = ts) := Lib.hid (by rw [HYES.out]; rfl)
          generalize l.eraseIdx q = l2 at *
          clear x0 x1 r0 r1 rf0 rf1 hb3 hoi hown hdt
          have r0 := HR9.out.cell 0
          have r1 := HR9.out.cell 1
          have rf0 := HR9.out.frozen 0
          have rf1 := HR9.out.frozen 1
          simp only [List.getElem?_cons_zero, List.getElem?_cons_succ] at r0 r1
          go_wp2_with (at_builtin; fail)
          have HR7 : RowB (w9.setCells (w.heap.size + 1) 0 [.slice A8 ts.length c8, .slice A9 l2.length c9]) (w.heap.size + 1) 26 _ := HR9.out.putAll _ rfl
          have HB7 := HB9.out.trans (below_putL (B := w.heap.size) (g := w.heap.size + 1) (by omega) [.slice A8 ts.length c8, .slice A9 l2.length c9] 0 w9)
          have hz7 := (size_putL (g := w.heap.size + 1) [.slice A8 ts.length c8, .slice A9 l2.length c9] 0 w9)
          refine bodyPost_ret (res_box (p := 4) (u := 5) (ty := 26) rfl _ _ (w.heap.size + 1) 26 _ (0, 0) _ rfl HR7 Try.underlying26 rfl rfl) rfl ⟨_, _, lo, by rw [HYES.out]; rfl, ?_, HOW.out, by omega, ?_, HB7⟩
          · rw [HT2.out]
            exact HOI.out.keepBlk (by omega) fun b e => heap_putL (g := w.heap.size + 1) (by have := (HOI.out.own_lt e).1; omega) [.slice A8 ts.length c8, .slice A9 l2.length c9] 0 w9
          · rw [HL2.out]
            have := (HDT.out.frame (w' := w9.setCells (w.heap.size + 1) 0 [.slice A8 ts.length c8, .slice A9 l2.length c9]) fun b hb hl => heap_putL (by have := hb.1; omega) _ _ _).mono (Q := rg lo (w9.setCells (w.heap.size + 1) 0 [.slice A8 ts.length c8, .slice A9 l2.length c9]).heap.size) fun b hb => ⟨hb.1, by have := hb.2; rw [hz7]; omega⟩
            exact this
        · have HH := Lib.hid hh
          clear hh
          have BEL : Hid (∀ w', w'.cell? ⟨w.heap.size, 0, none⟩ = some (.slice At ts.length ct) ∧ w'.cell? ⟨w.heap.size, 1, none⟩ = some (.slice (some ⟨b, off, none⟩) l.length cb) ∧ w'.cell? ⟨g6, 1, none⟩ = some (.int .i64 s.x) ∧ Below w5.heap.size w5 w' → Below w5.heap.size w5 w') := Lib.hid fun _ h => h.2.2.2
          go_wp2_with (at_builtin; fail)
          refine wp_region_held_drew (S := (fun w' => w'.cell? ⟨w.heap.size, 0, none⟩ = some (.slice At ts.length ct) ∧ w'.cell? ⟨w.heap.size, 1, none⟩ = some (.slice (some ⟨b, off, none⟩) l.length cb) ∧ w'.cell? ⟨g6, 1, none⟩ = some (.int .i64 s.x) ∧ Below w5.heap.size w5 w')) (by kernel_rfl) ?_ (fun hHeld => ?_)
          · exact ⟨x0, x1, u1, (Below.refl _ _).drew⟩
          refine wpAnyH_take (i := 0) (oi := ⟨some 46, _, _, _, _, _⟩) (v := ?_) rfl (by kernel_rfl) (by kernel_rfl) (by kernel_rfl) (fun _ _ _ h => h) (Or.inl ⟨by rfl, fun w' hSw => ?_⟩) (by assumption) ?_
          rotate_left
          · (try dsimp only at hSw); go_simp; (try with_reducible rfl)
          (try simp only [Act.put, List.setIfInBounds_toArray, List.set_cons_zero, List.set_cons_succ])
          refine wpAnyH_take (i := 1) (oi := ⟨some 47, _, _, _, _, _⟩) (v := ?_) rfl (by kernel_rfl) (by kernel_rfl) (by kernel_rfl) (fun _ _ _ h => h) (Or.inl ⟨by rfl, fun w' hSw => ?_⟩) (by assumption) ?_
          rotate_left
          · (try dsimp only at hSw); go_simp; (try with_reducible rfl)
          (try simp only [Act.put, List.setIfInBounds_toArray, List.set_cons_zero, List.set_cons_succ])
          refine wpAnyH_take (i := 2) (oi := ⟨some 48, _, _, _, _, _⟩) (v := ?_) rfl (by kernel_rfl) (by kernel_rfl) (by kernel_rfl) (fun _ _ _ h => h) (Or.inl ⟨by rfl, fun w' hSw => ?_⟩) (by assumption) ?_
          rotate_left
          · (try dsimp only at hSw); go_simp; (try with_reducible rfl)
          (try simp only [Act.put, List.setIfInBounds_toArray, List.set_cons_zero, List.set_cons_succ])
          refine wpAnyH_take (i := 5) (oi := ⟨some 51, _, _, _, _, _⟩) (v := ?_) rfl (by kernel_rfl) (by kernel_rfl) (by kernel_rfl) (fun _ _ _ h => h) (Or.inl ⟨by rfl, fun w' hSw => ?_⟩) (by assumption) ?_
          rotate_left
          · (try dsimp only at hSw); go_simp; (try with_reducible rfl)
          (try simp only [Act.put, List.setIfInBounds_toArray, List.set_cons_zero, List.set_cons_succ])
          refine wpAnyH_take (i := 6) (oi := ⟨some 52, _, _, _, _, _⟩) (v := ?_) rfl (by kernel_rfl) (by kernel_rfl) (by kernel_rfl) (fun _ _ _ h => h) (Or.inl ⟨by rfl, fun w' hSw => ?_⟩) (by assumption) ?_
          rotate_left
          · (try dsimp only at hSw); go_simp; (try with_reducible rfl)
          (try simp only [Act.put, List.setIfInBounds_toArray, List.set_cons_zero, List.set_cons_succ])
          refine wpAnyH_ready (rs := [3]) (by kernel_rfl) (by simp) ?_
          refine AllReadyH.cons (o := ⟨some 49, _, _, _, _, _⟩) rfl (fun K hK => ?_) AllReadyH.nil
          go_simp
          (have BY := (BEL.out _ (by assumption)))
          (refine (firstPoint_any _ _ ts l q B _ (HT.out.low (HB2.out.trans (BY.mono hsz2)) hB) (HL.out.low (HB2.out.trans (BY.mono hsz2)) hB) (by have := BY.size; omega) (by omega) (by omega) (by omega)).mono ?_)
          (rintro e w6 ⟨rfl, hb6⟩)
          (have BX6 := Lib.hid (BY.trans (hb6.mono BY.size)))
          clear hb6 BY
          go_simp
          refine hK.out _ _ ?_ (fun hHeld => ?_)
          · exact ⟨(BX6.out.cell (p := ⟨w.heap.size, 0, none⟩) hx2).trans x0, (BX6.out.cell (p := ⟨w.heap.size, 1, none⟩) hx2).trans x1, (BX6.out.cell (p := ⟨g6, 1, none⟩) hu2).trans u1, BX6.out⟩
          clear hK K
          (try simp only [Act.put, List.setIfInBounds_toArray, List.set_cons_zero, List.set_cons_succ])
          refine wpAnyH_ready (rs := [4]) (by kernel_rfl) (by simp) ?_
          refine AllReadyH.cons (o := ⟨some 50, _, _, _, _, _⟩) rfl (fun K hK => ?_) AllReadyH.nil
          go_simp
          (have BY := (BEL.out _ (by assumption)))
          (refine (iLiveAfter_any _ _ ts l ((npL (l.take q) : Nat) : Int) B _ (HT.out.low (HB2.out.trans (BY.mono hsz2)) hB) (HL.out.low (HB2.out.trans (BY.mono hsz2)) hB) (by have := BY.size; omega) (by omega)).mono ?_)
          (rintro e w7 ⟨v7, rfl, hi7, hb7⟩)
          (have BX7 := Lib.hid (BY.trans (hb7.mono BY.size)))
          (have HI7 := Lib.hid hi7)
          (obtain ⟨A7, c7, rfl, -, -, -⟩ := id hi7)
          clear hb7 hi7 BY
          go_simp
          refine hK.out _ _ ?_ (fun hHeld => ?_)
          · exact ⟨(BX7.out.cell (p := ⟨w.heap.size, 0, none⟩) hx2).trans x0, (BX7.out.cell (p := ⟨w.heap.size, 1, none⟩) hx2).trans x1, (BX7.out.cell (p := ⟨g6, 1, none⟩) hu2).trans u1, BX7.out⟩
          clear hK K
          (try simp only [Act.put, List.setIfInBounds_toArray, List.set_cons_zero, List.set_cons_succ])
          refine wpAnyH_ready (rs := [7]) (by kernel_rfl) (by simp) ?_
          refine AllReadyH.cons (o := ⟨some 53, _, _, _, _, _⟩) rfl (fun K hK => ?_) AllReadyH.nil
          go_simp
          (have BY := (BEL.out _ (by assumption)))
          (refine (contains_any _ _ s.x _ _ HI7.out).mono ?_)
          (rintro e w8 ⟨rfl, rfl⟩)
          (rw [HH.out])
          go_simp
          refine hK.out _ _ ?_ (fun hHeld => ?_)
          · assumption
          clear hK K
          (try simp only [Act.put, List.setIfInBounds_toArray, List.set_cons_zero, List.set_cons_succ])
          refine wpAnyH_done (by kernel_rfl) ?_ _
          have HRZ := Lib.hid (HR2.out.low BX7.out hr2)
          have HBZ := Lib.hid (HB2.out.trans (BX7.out.mono hsz2))
          clear x0 x1 r0 r1 rf0 rf1 u0 u1 u2 BEL BX6 hHeld
          have x0 := (BX7.out.cell (p := ⟨w.heap.size, 0, none⟩) hx2).trans (HX2.out.cell 0)
          have x1 := (BX7.out.cell (p := ⟨w.heap.size, 1, none⟩) hx2).trans (HX2.out.cell 1)
          have r0 := HRZ.out.cell 0
          have r1 := HRZ.out.cell 1
          have rf0 := HRZ.out.frozen 0
          have rf1 := HRZ.out.frozen 1
          simp only [List.getElem?_cons_zero, List.getElem?_cons_succ] at x0 x1 r0 r1
          have HNO := Lib.hid (NO.out w7 HRZ.out HBZ.out (by rw [HDD.out, HH.out]; simp))
          go_wp2_with (at_builtin; fail)
          have HR7 : RowB (w7.setCells (w.heap.size + 1) 0 [.slice none 0 0, .slice none 0 0]) (w.heap.size + 1) 26 _ := HRZ.out.putAll _ rfl
          exact bodyPost_ret (res_box (p := 4) (u := 5) (ty := 26) rfl _ _ (w.heap.size + 1) 26 _ (0, 0) _ rfl HR7 Try.underlying26 rfl rfl) rfl HNO.out
      · have hq1 : (s.op == 1) = false := by simpa using h1
        by_cases h6 : s.op = 6
        · have HDB : deadB ts s = true := by unfold deadB; rw [h6]; rfl
          have hq6 : (s.op == 6) = true := by rw [h6]; rfl
          cases hh : hasP (liveRes ts l ((npL (l.take q) : Nat) : Int)) s.x
          · have HH := Lib.hid hh
            clear hh
            have BEL : Hid (∀ w', w'.cell? ⟨w.heap.size, 0, none⟩ = some (.slice At ts.length ct) ∧ w'.cell? ⟨w.heap.size, 1, none⟩ = some (.slice (some ⟨b, off, none⟩) l.length cb) ∧ w'.cell? ⟨g6, 1, none⟩ = some (.int .i64 s.x) ∧ Below w5.heap.size w5 w' → Below w5.heap.size w5 w') := Lib.hid fun _ h => h.2.2.2
            go_wp2_with (at_builtin; fail)
            refine wp_region_held_drew (S := (fun w' => w'.cell? ⟨w.heap.size, 0, none⟩ = some (.slice At ts.length ct) ∧ w'.cell? ⟨w.heap.size, 1, none⟩ = some (.slice (some ⟨b, off, none⟩) l.length cb) ∧ w'.cell? ⟨g6, 1, none⟩ = some (.int .i64 s.x) ∧ Below w5.heap.size w5 w')) (by kernel_rfl) ?_ (fun hHeld => ?_)
            · exact ⟨x0, x1, u1, (Below.refl _ _).drew⟩
            refine wpAnyH_take (i := 0) (oi := ⟨some 46, _, _, _, _, _⟩) (v := ?_) rfl (by kernel_rfl) (by kernel_rfl) (by kernel_rfl) (fun _ _ _ h => h) (Or.inl ⟨by rfl, fun w' hSw => ?_⟩) (by assumption) ?_
            rotate_left
            · (try dsimp only at hSw); go_simp; (try with_reducible rfl)
            (try simp only [Act.put, List.setIfInBounds_toArray, List.set_cons_zero, List.set_cons_succ])
            refine wpAnyH_take (i := 1) (oi := ⟨some 47, _, _, _, _, _⟩) (v := ?_) rfl (by kernel_rfl) (by kernel_rfl) (by kernel_rfl) (fun _ _ _ h => h) (Or.inl ⟨by rfl, fun w' hSw => ?_⟩) (by assumption) ?_
            rotate_left
            · (try dsimp only at hSw); go_simp; (try with_reducible rfl)
            (try simp only [Act.put, List.setIfInBounds_toArray, List.set_cons_zero, List.set_cons_succ])
            refine wpAnyH_take (i := 2) (oi := ⟨some 48, _, _, _, _, _⟩) (v := ?_) rfl (by kernel_rfl) (by kernel_rfl) (by kernel_rfl) (fun _ _ _ h => h) (Or.inl ⟨by rfl, fun w' hSw => ?_⟩) (by assumption) ?_
            rotate_left
            · (try dsimp only at hSw); go_simp; (try with_reducible rfl)
            (try simp only [Act.put, List.setIfInBounds_toArray, List.set_cons_zero, List.set_cons_succ])
            refine wpAnyH_take (i := 5) (oi := ⟨some 51, _, _, _, _, _⟩) (v := ?_) rfl (by kernel_rfl) (by kernel_rfl) (by kernel_rfl) (fun _ _ _ h => h) (Or.inl ⟨by rfl, fun w' hSw => ?_⟩) (by assumption) ?_
            rotate_left
            · (try dsimp only at hSw); go_simp; (try with_reducible rfl)
            (try simp only [Act.put, List.setIfInBounds_toArray, List.set_cons_zero, List.set_cons_succ])
            refine wpAnyH_take (i := 6) (oi := ⟨some 52, _, _, _, _, _⟩) (v := ?_) rfl (by kernel_rfl) (by kernel_rfl) (by kernel_rfl) (fun _ _ _ h => h) (Or.inl ⟨by rfl, fun w' hSw => ?_⟩) (by assumption) ?_
            rotate_left
            · (try dsimp only at hSw); go_simp; (try with_reducible rfl)
            (try simp only [Act.put, List.setIfInBounds_toArray, List.set_cons_zero, List.set_cons_succ])
            refine wpAnyH_ready (rs := [3]) (by kernel_rfl) (by simp) ?_
            refine AllReadyH.cons (o := ⟨some 49, _, _, _, _, _⟩) rfl (fun K hK => ?_) AllReadyH.nil
            go_simp
            (have BY := (BEL.out _ (by assumption)))
            (refine (firstPoint_any _ _ ts l q B _ (HT.out.low (HB2.out.trans (BY.mono hsz2)) hB) (HL.out.low (HB2.out.trans (BY.mono hsz2)) hB) (by have := BY.size; omega) (by omega) (by omega) (by omega)).mono ?_)
            (rintro e w6 ⟨rfl, hb6⟩)
            (have BX6 := Lib.hid (BY.trans (hb6.mono BY.size)))
            clear hb6 BY
            go_simp
            refine hK.out _ _ ?_ (fun hHeld => ?_)
            · exact ⟨(BX6.out.cell (p := ⟨w.heap.size, 0, none⟩) hx2).trans x0, (BX6.out.cell (p := ⟨w.heap.size, 1, none⟩) hx2).trans x1, (BX6.out.cell (p := ⟨g6, 1, none⟩) hu2).trans u1, BX6.out⟩
            clear hK K
            (try simp only [Act.put, List.setIfInBounds_toArray, List.set_cons_zero, List.set_cons_succ])
            refine wpAnyH_ready (rs := [4]) (by kernel_rfl) (by simp) ?_
            refine AllReadyH.cons (o := ⟨some 50, _, _, _, _, _⟩) rfl (fun K hK => ?_) AllReadyH.nil
            go_simp
            (have BY := (BEL.out _ (by assumption)))
            (refine (iLiveAfter_any _ _ ts l ((npL (l.take q) : Nat) : Int) B _ (HT.out.low (HB2.out.trans (BY.mono hsz2)) hB) (HL.out.low (HB2.out.trans (BY.mono hsz2)) hB) (by have := BY.size; omega) (by omega)).mono ?_)
            (rintro e w7 ⟨v7, rfl, hi7, hb7⟩)
            (have BX7 := Lib.hid (BY.trans (hb7.mono BY.size)))
            (have HI7 := Lib.hid hi7)
            (obtain ⟨A7, c7, rfl, -, -, -⟩ := id hi7)
            clear hb7 hi7 BY
            go_simp
            refine hK.out _ _ ?_ (fun hHeld => ?_)
            · exact ⟨(BX7.out.cell (p := ⟨w.heap.size, 0, none⟩) hx2).trans x0, (BX7.out.cell (p := ⟨w.heap.size, 1, none⟩) hx2).trans x1, (BX7.out.cell (p := ⟨g6, 1, none⟩) hu2).trans u1, BX7.out⟩
            clear hK K
            (try simp only [Act.put, List.setIfInBounds_toArray, List.set_cons_zero, List.set_cons_succ])
            refine wpAnyH_ready (rs := [7]) (by kernel_rfl) (by simp) ?_
            refine AllReadyH.cons (o := ⟨some 53, _, _, _, _, _⟩) rfl (fun K hK => ?_) AllReadyH.nil
            go_simp
            (have BY := (BEL.out _ (by assumption)))
            (refine (contains_any _ _ s.x _ _ HI7.out).mono ?_)
            (rintro e w8 ⟨rfl, rfl⟩)
            (rw [HH.out])
            go_simp
            refine hK.out _ _ ?_ (fun hHeld => ?_)
            · assumption
            clear hK K
            (try simp only [Act.put, List.setIfInBounds_toArray, List.set_cons_zero, List.set_cons_succ])
            refine wpAnyH_done (by kernel_rfl) ?_ _
            have HRZ := Lib.hid (HR2.out.low BX7.out hr2)
            have HBZ := Lib.hid (HB2.out.trans (BX7.out.mono hsz2))
            clear x0 x1 r0 r1 rf0 rf1 u0 u1 u2 BEL BX6 hHeld
            have x0 := (BX7.out.cell (p := ⟨w.heap.size, 0, none⟩) hx2).trans (HX2.out.cell 0)
            have x1 := (BX7.out.cell (p := ⟨w.heap.size, 1, none⟩) hx2).trans (HX2.out.cell 1)
            have r0 := HRZ.out.cell 0
            have r1 := HRZ.out.cell 1
            have rf0 := HRZ.out.frozen 0
            have rf1 := HRZ.out.frozen 1
            simp only [List.getElem?_cons_zero, List.getElem?_cons_succ] at x0 x1 r0 r1
            have HYES : Hid (ddOk ts l (q : Int) = true) := Lib.hid (by rw [HDD.out, HH.out, HDB]; rfl)
            go_wp2_with (at_builtin; fail)
            refine (dropped_any _ _ ts l q B w7 (HT.out.low HBZ.out hB) (HL.out.low HBZ.out hB) (by have := HBZ.out.size; omega) HQL.out hts hsz).mono ?_
            rintro e w9 ⟨vt3, vb3, lo, rfl, hoi, hown, hlo, hdt, hb3⟩
            have hsz7 := HBZ.out.size
            have hrz := HRZ.out.lt
            have HB9 := Lib.hid (HBZ.out.trans (hb3.mono hsz7))
            have HR9 := Lib.hid (HRZ.out.low hb3 hrz)
            have HOI := Lib.hid hoi
            have HDT := Lib.hid hdt
            have HOW := Lib.hid hown
            obtain ⟨A8, c8, rfl, -⟩ := hoi.slice
            obtain ⟨A9, c9, rfl, -⟩ := hdt.slice
            have HL2 : Hid ((if ddOk ts l (q : Int) then l.eraseIdx (q : Int).toNat else []) = l.eraseIdx q) := Lib.hid (by rw [HYES.out]; rfl)
            have HT2 : Hid ((if ddOk ts l (q : Int) then ts else []) = ts) := Lib.hid (by rw [HYES.out]; rfl)
            generalize l.eraseIdx q = l2 at *
            clear x0 x1 r0 r1 rf0 rf1 hb3 hoi hown hdt
            have r0 := HR9.out.cell 0
            have r1 := HR9.out.cell 1
            have rf0 := HR9.out.frozen 0
            have rf1 := HR9.out.frozen 1
            simp only [List.getElem?_cons_zero, List.getElem?_cons_succ] at r0 r1
            go_wp2_with (at_builtin; fail)
            have HR7 : RowB (w9.setCells (w.heap.size + 1) 0 [.slice A8 ts.length c8, .slice A9 l2.length c9]) (w.heap.size + 1) 26 _ := HR9.out.putAll _ rfl
            have HB7 := HB9.out.trans (below_putL (B := w.heap.size) (g := w.heap.size + 1) (by omega) [.slice A8 ts.length c8, .slice A9 l2.length c9] 0 w9)
            have hz7 := (size_putL (g := w.heap.size + 1) [.slice A8 ts.length c8, .slice A9 l2.length c9] 0 w9)
            refine bodyPost_ret (res_box (p := 4) (u := 5) (ty := 26) rfl _ _ (w.heap.size + 1) 26 _ (0, 0) _ rfl HR7 Try.underlying26 rfl rfl) rfl ⟨_, _, lo, by rw [HYES.out]; rfl, ?_, HOW.out, by omega, ?_, HB7⟩
            · rw [HT2.out]
              exact HOI.out.keepBlk (by omega) fun b e => heap_putL (g := w.heap.size + 1) (by have := (HOI.out.own_lt e).1; omega) [.slice A8 ts.length c8, .slice A9 l2.length c9] 0 w9
            · rw [HL2.out]
              have := (HDT.out.frame (w' := w9.setCells (w.heap.size + 1) 0 [.slice A8 ts.length c8, .slice A9 l2.length c9]) fun b hb hl => heap_putL (by have := hb.1; omega) _ _ _).mono (Q := rg lo (w9.setCells (w.heap.size + 1) 0 [.slice A8 ts.length c8, .slice A9 l2.length c9]).heap.size) fun b hb => ⟨hb.1, by have := hb.2; rw [hz7]; omega⟩
              exact this
          · have HH := Lib.hid hh
            clear hh
            have BEL : Hid (∀ w', w'.cell? ⟨w.heap.size, 0, none⟩ = some (.slice At ts.length ct) ∧ w'.cell? ⟨w.heap.size, 1, none⟩ = some (.slice (some ⟨b, off, none⟩) l.length cb) ∧ w'.cell? ⟨g6, 1, none⟩ = some (.int .i64 s.x) ∧ Below w5.heap.size w5 w' → Below w5.heap.size w5 w') := Lib.hid fun _ h => h.2.2.2
            go_wp2_with (at_builtin; fail)
            refine wp_region_held_drew (S := (fun w' => w'.cell? ⟨w.heap.size, 0, none⟩ = some (.slice At ts.length ct) ∧ w'.cell? ⟨w.heap.size, 1, none⟩ = some (.slice (some ⟨b, off, none⟩) l.length cb) ∧ w'.cell? ⟨g6, 1, none⟩ = some (.int .i64 s.x) ∧ Below w5.heap.size w5 w')) (by kernel_rfl) ?_ (fun hHeld => ?_)
            · exact ⟨x0, x1, u1, (Below.refl _ _).drew⟩
            refine wpAnyH_take (i := 0) (oi := ⟨some 46, _, _, _, _, _⟩) (v := ?_) rfl (by kernel_rfl) (by kernel_rfl) (by kernel_rfl) (fun _ _ _ h => h) (Or.inl ⟨by rfl, fun w' hSw => ?_⟩) (by assumption) ?_
            rotate_left
            · (try dsimp only at hSw); go_simp; (try with_reducible rfl)
            (try simp only [Act.put, List.setIfInBounds_toArray, List.set_cons_zero, List.set_cons_succ])
            refine wpAnyH_take (i := 1) (oi := ⟨some 47, _, _, _, _, _⟩) (v := ?_) rfl (by kernel_rfl) (by kernel_rfl) (by kernel_rfl) (fun _ _ _ h => h) (Or.inl ⟨by rfl, fun w' hSw => ?_⟩) (by assumption) ?_
            rotate_left
            · (try dsimp only at hSw); go_simp; (try with_reducible rfl)
            (try simp only [Act.put, List.setIfInBounds_toArray, List.set_cons_zero, List.set_cons_succ])
            refine wpAnyH_take (i := 2) (oi := ⟨some 48, _, _, _, _, _⟩) (v := ?_) rfl (by kernel_rfl) (by kernel_rfl) (by kernel_rfl) (fun _ _ _ h => h) (Or.inl ⟨by rfl, fun w' hSw => ?_⟩) (by assumption) ?_
            rotate_left
            · (try dsimp only at hSw); go_simp; (try with_reducible rfl)
            (try simp only [Act.put, List.setIfInBounds_toArray, List.set_cons_zero, List.set_cons_succ])
            refine wpAnyH_take (i := 5) (oi := ⟨some 51, _, _, _, _, _⟩) (v := ?_) rfl (by kernel_rfl) (by kernel_rfl) (by kernel_rfl) (fun _ _ _ h => h) (Or.inl ⟨by rfl, fun w' hSw => ?_⟩) (by assumption) ?_
            rotate_left
            · (try dsimp only at hSw); go_simp; (try with_reducible rfl)
            (try simp only [Act.put, List.setIfInBounds_toArray, List.set_cons_zero, List.set_cons_succ])
            refine wpAnyH_take (i := 6) (oi := ⟨some 52, _, _, _, _, _⟩) (v := ?_) rfl (by kernel_rfl) (by kernel_rfl) (by kernel_rfl) (fun _ _ _ h => h) (Or.inl ⟨by rfl, fun w' hSw => ?_⟩) (by assumption) ?_
            rotate_left
            · (try dsimp only at hSw); go_simp; (try with_reducible rfl)
            (try simp only [Act.put, List.setIfInBounds_toArray, List.set_cons_zero, List.set_cons_succ])
            refine wpAnyH_ready (rs := [3]) (by kernel_rfl) (by simp) ?_
            refine AllReadyH.cons (o := ⟨some 49, _, _, _, _, _⟩) rfl (fun K hK => ?_) AllReadyH.nil
            go_simp
            (have BY := (BEL.out _ (by assumption)))
            (refine (firstPoint_any _ _ ts l q B _ (HT.out.low (HB2.out.trans (BY.mono hsz2)) hB) (HL.out.low (HB2.out.trans (BY.mono hsz2)) hB) (by have := BY.size; omega) (by omega) (by omega) (by omega)).mono ?_)
            (rintro e w6 ⟨rfl, hb6⟩)
            (have BX6 := Lib.hid (BY.trans (hb6.mono BY.size)))
            clear hb6 BY
            go_simp
            refine hK.out _ _ ?_ (fun hHeld => ?_)
            · exact ⟨(BX6.out.cell (p := ⟨w.heap.size, 0, none⟩) hx2).trans x0, (BX6.out.cell (p := ⟨w.heap.size, 1, none⟩) hx2).trans x1, (BX6.out.cell (p := ⟨g6, 1, none⟩) hu2).trans u1, BX6.out⟩
            clear hK K
            (try simp only [Act.put, List.setIfInBounds_toArray, List.set_cons_zero, List.set_cons_succ])
            refine wpAnyH_ready (rs := [4]) (by kernel_rfl) (by simp) ?_
            refine AllReadyH.cons (o := ⟨some 50, _, _, _, _, _⟩) rfl (fun K hK => ?_) AllReadyH.nil
            go_simp
            (have BY := (BEL.out _ (by assumption)))
            (refine (iLiveAfter_any _ _ ts l ((npL (l.take q) : Nat) : Int) B _ (HT.out.low (HB2.out.trans (BY.mono hsz2)) hB) (HL.out.low (HB2.out.trans (BY.mono hsz2)) hB) (by have := BY.size; omega) (by omega)).mono ?_)
            (rintro e w7 ⟨v7, rfl, hi7, hb7⟩)
            (have BX7 := Lib.hid (BY.trans (hb7.mono BY.size)))
            (have HI7 := Lib.hid hi7)
            (obtain ⟨A7, c7, rfl, -, -, -⟩ := id hi7)
            clear hb7 hi7 BY
            go_simp
            refine hK.out _ _ ?_ (fun hHeld => ?_)
            · exact ⟨(BX7.out.cell (p := ⟨w.heap.size, 0, none⟩) hx2).trans x0, (BX7.out.cell (p := ⟨w.heap.size, 1, none⟩) hx2).trans x1, (BX7.out.cell (p := ⟨g6, 1, none⟩) hu2).trans u1, BX7.out⟩
            clear hK K
            (try simp only [Act.put, List.setIfInBounds_toArray, List.set_cons_zero, List.set_cons_succ])
            refine wpAnyH_ready (rs := [7]) (by kernel_rfl) (by simp) ?_
            refine AllReadyH.cons (o := ⟨some 53, _, _, _, _, _⟩) rfl (fun K hK => ?_) AllReadyH.nil
            go_simp
            (have BY := (BEL.out _ (by assumption)))
            (refine (contains_any _ _ s.x _ _ HI7.out).mono ?_)
            (rintro e w8 ⟨rfl, rfl⟩)
            (rw [HH.out])
            go_simp
            refine hK.out _ _ ?_ (fun hHeld => ?_)
            · assumption
            clear hK K
            (try simp only [Act.put, List.setIfInBounds_toArray, List.set_cons_zero, List.set_cons_succ])
            refine wpAnyH_done (by kernel_rfl) ?_ _
            have HRZ := Lib.hid (HR2.out.low BX7.out hr2)
            have HBZ := Lib.hid (HB2.out.trans (BX7.out.mono hsz2))
            clear x0 x1 r0 r1 rf0 rf1 u0 u1 u2 BEL BX6 hHeld
            have x0 := (BX7.out.cell (p := ⟨w.heap.size, 0, none⟩) hx2).trans (HX2.out.cell 0)
            have x1 := (BX7.out.cell (p := ⟨w.heap.size, 1, none⟩) hx2).trans (HX2.out.cell 1)
            have r0 := HRZ.out.cell 0
            have r1 := HRZ.out.cell 1
            have rf0 := HRZ.out.frozen 0
            have rf1 := HRZ.out.frozen 1
            simp only [List.getElem?_cons_zero, List.getElem?_cons_succ] at x0 x1 r0 r1
            have HNO := Lib.hid (NO.out w7 HRZ.out HBZ.out (by rw [HDD.out, HH.out]; simp))
            go_wp2_with (at_builtin; fail)
            have HR7 : RowB (w7.setCells (w.heap.size + 1) 0 [.slice none 0 0, .slice none 0 0]) (w.heap.size + 1) 26 _ := HRZ.out.putAll _ rfl
            exact bodyPost_ret (res_box (p := 4) (u := 5) (ty := 26) rfl _ _ (w.heap.size + 1) 26 _ (0, 0) _ rfl HR7 Try.underlying26 rfl rfl) rfl HNO.out
        · have hq6 : (s.op == 6) = false := by simpa using h6
          by_cases h4 : s.op = 4
          · have HDB : deadB ts s = true := by unfold deadB; rw [h4]; rfl
            have hq4 : (s.op == 4) = true := by rw [h4]; rfl
            cases hh : hasP (liveRes ts l ((npL (l.take q) : Nat) : Int)) s.x
            · have HH := Lib.hid hh
              clear hh
              have BEL : Hid (∀ w', w'.cell? ⟨w.heap.size, 0, none⟩ = some (.slice At ts.length ct) ∧ w'.cell? ⟨w.heap.size, 1, none⟩ = some (.slice (some ⟨b, off, none⟩) l.length cb) ∧ w'.cell? ⟨g6, 1, none⟩ = some (.int .i64 s.x) ∧ Below w5.heap.size w5 w' → Below w5.heap.size w5 w') := Lib.hid fun _ h => h.2.2.2
              go_wp2_with (at_builtin; fail)
              refine wp_region_held_drew (S := (fun w' => w'.cell? ⟨w.heap.size, 0, none⟩ = some (.slice At ts.length ct) ∧ w'.cell? ⟨w.heap.size, 1, none⟩ = some (.slice (some ⟨b, off, none⟩) l.length cb) ∧ w'.cell? ⟨g6, 1, none⟩ = some (.int .i64 s.x) ∧ Below w5.heap.size w5 w')) (by kernel_rfl) ?_ (fun hHeld => ?_)
              · exact ⟨x0, x1, u1, (Below.refl _ _).drew⟩
              refine wpAnyH_take (i := 0) (oi := ⟨some 46, _, _, _, _, _⟩) (v := ?_) rfl (by kernel_rfl) (by kernel_rfl) (by kernel_rfl) (fun _ _ _ h => h) (Or.inl ⟨by rfl, fun w' hSw => ?_⟩) (by assumption) ?_
              rotate_left
              · (try dsimp only at hSw); go_simp; (try with_reducible rfl)
              (try simp only [Act.put, List.setIfInBounds_toArray, List.set_cons_zero, List.set_cons_succ])
              refine wpAnyH_take (i := 1) (oi := ⟨some 47, _, _, _, _, _⟩) (v := ?_) rfl (by kernel_rfl) (by kernel_rfl) (by kernel_rfl) (fun _ _ _ h => h) (Or.inl ⟨by rfl, fun w' hSw => ?_⟩) (by assumption) ?_
              rotate_left
              · (try dsimp only at hSw); go_simp; (try with_reducible rfl)
              (try simp only [Act.put, List.setIfInBounds_toArray, List.set_cons_zero, List.set_cons_succ])
              refine wpAnyH_take (i := 2) (oi := ⟨some 48, _, _, _, _, _⟩) (v := ?_) rfl (by kernel_rfl) (by kernel_rfl) (by kernel_rfl) (fun _ _ _ h => h) (Or.inl ⟨by rfl, fun w' hSw => ?_⟩) (by assumption) ?_
              rotate_left
              · (try dsimp only at hSw); go_simp; (try with_reducible rfl)
              (try simp only [Act.put, List.setIfInBounds_toArray, List.set_cons_zero, List.set_cons_succ])
              refine wpAnyH_take (i := 5) (oi := ⟨some 51, _, _, _, _, _⟩) (v := ?_) rfl (by kernel_rfl) (by kernel_rfl) (by kernel_rfl) (fun _ _ _ h => h) (Or.inl ⟨by rfl, fun w' hSw => ?_⟩) (by assumption) ?_
              rotate_left
              · (try dsimp only at hSw); go_simp; (try with_reducible rfl)
              (try simp only [Act.put, List.setIfInBounds_toArray, List.set_cons_zero, List.set_cons_succ])
              refine wpAnyH_take (i := 6) (oi := ⟨some 52, _, _, _, _, _⟩) (v := ?_) rfl (by kernel_rfl) (by kernel_rfl) (by kernel_rfl) (fun _ _ _ h => h) (Or.inl ⟨by rfl, fun w' hSw => ?_⟩) (by assumption) ?_
              rotate_left
              · (try dsimp only at hSw); go_simp; (try with_reducible rfl)
              (try simp only [Act.put, List.setIfInBounds_toArray, List.set_cons_zero, List.set_cons_succ])
              refine wpAnyH_ready (rs := [3]) (by kernel_rfl) (by simp) ?_
              refine AllReadyH.cons (o := ⟨some 49, _, _, _, _, _⟩) rfl (fun K hK => ?_) AllReadyH.nil
              go_simp
              (have BY := (BEL.out _ (by assumption)))
              (refine (firstPoint_any _ _ ts l q B _ (HT.out.low (HB2.out.trans (BY.mono hsz2)) hB) (HL.out.low (HB2.out.trans (BY.mono hsz2)) hB) (by have := BY.size; omega) (by omega) (by omega) (by omega)).mono ?_)
              (rintro e w6 ⟨rfl, hb6⟩)
              (have BX6 := Lib.hid (BY.trans (hb6.mono BY.size)))
              clear hb6 BY
              go_simp
              refine hK.out _ _ ?_ (fun hHeld => ?_)
              · exact ⟨(BX6.out.cell (p := ⟨w.heap.size, 0, none⟩) hx2).trans x0, (BX6.out.cell (p := ⟨w.heap.size, 1, none⟩) hx2).trans x1, (BX6.out.cell (p := ⟨g6, 1, none⟩) hu2).trans u1, BX6.out⟩
              clear hK K
              (try simp only [Act.put, List.setIfInBounds_toArray, List.set_cons_zero, List.set_cons_succ])
              refine wpAnyH_ready (rs := [4]) (by kernel_rfl) (by simp) ?_
              refine AllReadyH.cons (o := ⟨some 50, _, _, _, _, _⟩) rfl (fun K hK => ?_) AllReadyH.nil
              go_simp
              (have BY := (BEL.out _ (by assumption)))
              (refine (iLiveAfter_any _ _ ts l ((npL (l.take q) : Nat) : Int) B _ (HT.out.low (HB2.out.trans (BY.mono hsz2)) hB) (HL.out.low (HB2.out.trans (BY.mono hsz2)) hB) (by have := BY.size; omega) (by omega)).mono ?_)
              (rintro e w7 ⟨v7, rfl, hi7, hb7⟩)
              (have BX7 := Lib.hid (BY.trans (hb7.mono BY.size)))
              (have HI7 := Lib.hid hi7)
              (obtain ⟨A7, c7, rfl, -, -, -⟩ := id hi7)
              clear hb7 hi7 BY
              go_simp
              refine hK.out _ _ ?_ (fun hHeld => ?_)
              · exact ⟨(BX7.out.cell (p := ⟨w.heap.size, 0, none⟩) hx2).trans x0, (BX7.out.cell (p := ⟨w.heap.size, 1, none⟩) hx2).trans x1, (BX7.out.cell (p := ⟨g6, 1, none⟩) hu2).trans u1, BX7.out⟩
              clear hK K
              (try simp only [Act.put, List.setIfInBounds_toArray, List.set_cons_zero, List.set_cons_succ])
              refine wpAnyH_ready (rs := [7]) (by kernel_rfl) (by simp) ?_
              refine AllReadyH.cons (o := ⟨some 53, _, _, _, _, _⟩) rfl (fun K hK => ?_) AllReadyH.nil
              go_simp
              (have BY := (BEL.out _ (by assumption)))
              (refine (contains_any _ _ s.x _ _ HI7.out).mono ?_)
              (rintro e w8 ⟨rfl, rfl⟩)
              (rw [HH.out])
              go_simp
              refine hK.out _ _ ?_ (fun hHeld => ?_)
              · assumption
              clear hK K
              (try simp only [Act.put, List.setIfInBounds_toArray, List.set_cons_zero, List.set_cons_succ])
              refine wpAnyH_done (by kernel_rfl) ?_ _
              have HRZ := Lib.hid (HR2.out.low BX7.out hr2)
              have HBZ := Lib.hid (HB2.out.trans (BX7.out.mono hsz2))
              clear x0 x1 r0 r1 rf0 rf1 u0 u1 u2 BEL BX6 hHeld
              have x0 := (BX7.out.cell (p := ⟨w.heap.size, 0, none⟩) hx2).trans (HX2.out.cell 0)
              have x1 := (BX7.out.cell (p := ⟨w.heap.size, 1, none⟩) hx2).trans (HX2.out.cell 1)
              have r0 := HRZ.out.cell 0
              have r1 := HRZ.out.cell 1
              have rf0 := HRZ.out.frozen 0
              have rf1 := HRZ.out.frozen 1
              simp only [List.getElem?_cons_zero, List.getElem?_cons_succ] at x0 x1 r0 r1
              have HYES : Hid (ddOk ts l (q : Int) = true) := Lib.hid (by rw [HDD.out, HH.out, HDB]; rfl)
              go_wp2_with (at_builtin; fail)
              refine (dropped_any _ _ ts l q B w7 (HT.out.low HBZ.out hB) (HL.out.low HBZ.out hB) (by have := HBZ.out.size; omega) HQL.out hts hsz).mono ?_
              rintro e w9 ⟨vt3, vb3, lo, rfl, hoi, hown, hlo, hdt, hb3⟩
              have hsz7 := HBZ.out.size
              have hrz := HRZ.out.lt
              have HB9 := Lib.hid (HBZ.out.trans (hb3.mono hsz7))
              have HR9 := Lib.hid (HRZ.out.low hb3 hrz)
              have HOI := Lib.hid hoi
              have HDT := Lib.hid hdt
              have HOW := Lib.hid hown
              obtain ⟨A8, c8, rfl, -⟩ := hoi.slice
              obtain ⟨A9, c9, rfl, -⟩ := hdt.slice
              have HL2 : Hid ((if ddOk ts l (q : Int) then l.eraseIdx (q : Int).toNat else []) = l.eraseIdx q) := Lib.hid (by rw [HYES.out]; rfl)
              have HT2 : Hid ((if ddOk ts l (q : Int) then ts else []) = ts) := Lib.hid (by rw [HYES.out]; rfl)
              generalize l.eraseIdx q = l2 at *
              clear x0 x1 r0 r1 rf0 rf1 hb3 hoi hown hdt
              have r0 := HR9.out.cell 0
              have r1 := HR9.out.cell 1
              have rf0 := HR9.out.frozen 0
              have rf1 := HR9.out.frozen 1
              simp only [List.getElem?_cons_zero, List.getElem?_cons_succ] at r0 r1
              go_wp2_with (at_builtin; fail)
              have HR7 : RowB (w9.setCells (w.heap.size + 1) 0 [.slice A8 ts.length c8, .slice A9 l2.length c9]) (w.heap.size + 1) 26 _ := HR9.out.putAll _ rfl
              have HB7 := HB9.out.trans (below_putL (B := w.heap.size) (g := w.heap.size + 1) (by omega) [.slice A8 ts.length c8, .slice A9 l2.length c9] 0 w9)
              have hz7 := (size_putL (g := w.heap.size + 1) [.slice A8 ts.length c8, .slice A9 l2.length c9] 0 w9)
              refine bodyPost_ret (res_box (p := 4) (u := 5) (ty := 26) rfl _ _ (w.heap.size + 1) 26 _ (0, 0) _ rfl HR7 Try.underlying26 rfl rfl) rfl ⟨_, _, lo, by rw [HYES.out]; rfl, ?_, HOW.out, by omega, ?_, HB7⟩
              · rw [HT2.out]
                exact HOI.out.keepBlk (by omega) fun b e => heap_putL (g := w.heap.size + 1) (by have := (HOI.out.own_lt e).1; omega) [.slice A8 ts.length c8, .slice A9 l2.length c9] 0 w9
              · rw [HL2.out]
                have := (HDT.out.frame (w' := w9.setCells (w.heap.size + 1) 0 [.slice A8 ts.length c8, .slice A9 l2.length c9]) fun b hb hl => heap_putL (by have := hb.1; omega) _ _ _).mono (Q := rg lo (w9.setCells (w.heap.size + 1) 0 [.slice A8 ts.length c8, .slice A9 l2.length c9]).heap.size) fun b hb => ⟨hb.1, by have := hb.2; rw [hz7]; omega⟩
                exact this
            · have HH := Lib.hid hh
              clear hh
              have BEL : Hid (∀ w', w'.cell? ⟨w.heap.size, 0, none⟩ = some (.slice At ts.length ct) ∧ w'.cell? ⟨w.heap.size, 1, none⟩ = some (.slice (some ⟨b, off, none⟩) l.length cb) ∧ w'.cell? ⟨g6, 1, none⟩ = some (.int .i64 s.x) ∧ Below w5.heap.size w5 w' → Below w5.heap.size w5 w') := Lib.hid fun _ h => h.2.2.2
              go_wp2_with (at_builtin; fail)
              refine wp_region_held_drew (S := (fun w' => w'.cell? ⟨w.heap.size, 0, none⟩ = some (.slice At ts.length ct) ∧ w'.cell? ⟨w.heap.size, 1, none⟩ = some (.slice (some ⟨b, off, none⟩) l.length cb) ∧ w'.cell? ⟨g6, 1, none⟩ = some (.int .i64 s.x) ∧ Below w5.heap.size w5 w')) (by kernel_rfl) ?_ (fun hHeld => ?_)
              · exact ⟨x0, x1, u1, (Below.refl _ _).drew⟩
              refine wpAnyH_take (i := 0) (oi := ⟨some 46, _, _, _, _, _⟩) (v := ?_) rfl (by kernel_rfl) (by kernel_rfl) (by kernel_rfl) (fun _ _ _ h => h) (Or.inl ⟨by rfl, fun w' hSw => ?_⟩) (by assumption) ?_
              rotate_left
              · (try dsimp only at hSw); go_simp; (try with_reducible rfl)
              (try simp only [Act.put, List.setIfInBounds_toArray, List.set_cons_zero, List.set_cons_succ])
              refine wpAnyH_take (i := 1) (oi := ⟨some 47, _, _, _, _, _⟩) (v := ?_) rfl (by kernel_rfl) (by kernel_rfl) (by kernel_rfl) (fun _ _ _ h => h) (Or.inl ⟨by rfl, fun w' hSw => ?_⟩) (by assumption) ?_
              rotate_left
              · (try dsimp only at hSw); go_simp; (try with_reducible rfl)
              (try simp only [Act.put, List.setIfInBounds_toArray, List.set_cons_zero, List.set_cons_succ])
              refine wpAnyH_take (i := 2) (oi := ⟨some 48, _, _, _, _, _⟩) (v := ?_) rfl (by kernel_rfl) (by kernel_rfl) (by kernel_rfl) (fun _ _ _ h => h) (Or.inl ⟨by rfl, fun w' hSw => ?_⟩) (by assumption) ?_
              rotate_left
              · (try dsimp only at hSw); go_simp; (try with_reducible rfl)
              (try simp only [Act.put, List.setIfInBounds_toArray, List.set_cons_zero, List.set_cons_succ])
              refine wpAnyH_take (i := 5) (oi := ⟨some 51, _, _, _, _, _⟩) (v := ?_) rfl (by kernel_rfl) (by kernel_rfl) (by kernel_rfl) (fun _ _ _ h => h) (Or.inl ⟨by rfl, fun w' hSw => ?_⟩) (by assumption) ?_
              rotate_left
              · (try dsimp only at hSw); go_simp; (try with_reducible rfl)
              (try simp only [Act.put, List.setIfInBounds_toArray, List.set_cons_zero, List.set_cons_succ])
              refine wpAnyH_take (i := 6) (oi := ⟨some 52, _, _, _, _, _⟩) (v := ?_) rfl (by kernel_rfl) (by kernel_rfl) (by kernel_rfl) (fun _ _ _ h => h) (Or.inl ⟨by rfl, fun w' hSw => ?_⟩) (by assumption) ?_
              rotate_left
              · (try dsimp only at hSw); go_simp; (try with_reducible rfl)
              (try simp only [Act.put, List.setIfInBounds_toArray, List.set_cons_zero, List.set_cons_succ])
              refine wpAnyH_ready (rs := [3]) (by kernel_rfl) (by simp) ?_
              refine AllReadyH.cons (o := ⟨some 49, _, _, _, _, _⟩) rfl (fun K hK => ?_) AllReadyH.nil
              go_simp
              (have BY := (BEL.out _ (by assumption)))
              (refine (firstPoint_any _ _ ts l q B _ (HT.out.low (HB2.out.trans (BY.mono hsz2)) hB) (HL.out.low (HB2.out.trans (BY.mono hsz2)) hB) (by have := BY.size; omega) (by omega) (by omega) (by omega)).mono ?_)
              (rintro e w6 ⟨rfl, hb6⟩)
              (have BX6 := Lib.hid (BY.trans (hb6.mono BY.size)))
              clear hb6 BY
              go_simp
              refine hK.out _ _ ?_ (fun hHeld => ?_)
              · exact ⟨(BX6.out.cell (p := ⟨w.heap.size, 0, none⟩) hx2).trans x0, (BX6.out.cell (p := ⟨w.heap.size, 1, none⟩) hx2).trans x1, (BX6.out.cell (p := ⟨g6, 1, none⟩) hu2).trans u1, BX6.out⟩
              clear hK K
              (try simp only [Act.put, List.setIfInBounds_toArray, List.set_cons_zero, List.set_cons_succ])
              refine wpAnyH_ready (rs := [4]) (by kernel_rfl) (by simp) ?_
              refine AllReadyH.cons (o := ⟨some 50, _, _, _, _, _⟩) rfl (fun K hK => ?_) AllReadyH.nil
              go_simp
              (have BY := (BEL.out _ (by assumption)))
              (refine (iLiveAfter_any _ _ ts l ((npL (l.take q) : Nat) : Int) B _ (HT.out.low (HB2.out.trans (BY.mono hsz2)) hB) (HL.out.low (HB2.out.trans (BY.mono hsz2)) hB) (by have := BY.size; omega) (by omega)).mono ?_)
              (rintro e w7 ⟨v7, rfl, hi7, hb7⟩)
              (have BX7 := Lib.hid (BY.trans (hb7.mono BY.size)))
              (have HI7 := Lib.hid hi7)
              (obtain ⟨A7, c7, rfl, -, -, -⟩ := id hi7)
              clear hb7 hi7 BY
              go_simp
              refine hK.out _ _ ?_ (fun hHeld => ?_)
              · exact ⟨(BX7.out.cell (p := ⟨w.heap.size, 0, none⟩) hx2).trans x0, (BX7.out.cell (p := ⟨w.heap.size, 1, none⟩) hx2).trans x1, (BX7.out.cell (p := ⟨g6, 1, none⟩) hu2).trans u1, BX7.out⟩
              clear hK K
              (try simp only [Act.put, List.setIfInBounds_toArray, List.set_cons_zero, List.set_cons_succ])
              refine wpAnyH_ready (rs := [7]) (by kernel_rfl) (by simp) ?_
              refine AllReadyH.cons (o := ⟨some 53, _, _, _, _, _⟩) rfl (fun K hK => ?_) AllReadyH.nil
              go_simp
              (have BY := (BEL.out _ (by assumption)))
              (refine (contains_any _ _ s.x _ _ HI7.out).mono ?_)
              (rintro e w8 ⟨rfl, rfl⟩)
              (rw [HH.out])
              go_simp
              refine hK.out _ _ ?_ (fun hHeld => ?_)
              · assumption
              clear hK K
              (try simp only [Act.put, List.setIfInBounds_toArray, List.set_cons_zero, List.set_cons_succ])
              refine wpAnyH_done (by kernel_rfl) ?_ _
              have HRZ := Lib.hid (HR2.out.low BX7.out hr2)
              have HBZ := Lib.hid (HB2.out.trans (BX7.out.mono hsz2))
              clear x0 x1 r0 r1 rf0 rf1 u0 u1 u2 BEL BX6 hHeld
              have x0 := (BX7.out.cell (p := ⟨w.heap.size, 0, none⟩) hx2).trans (HX2.out.cell 0)
              have x1 := (BX7.out.cell (p := ⟨w.heap.size, 1, none⟩) hx2).trans (HX2.out.cell 1)
              have r0 := HRZ.out.cell 0
              have r1 := HRZ.out.cell 1
              have rf0 := HRZ.out.frozen 0
              have rf1 := HRZ.out.frozen 1
              simp only [List.getElem?_cons_zero, List.getElem?_cons_succ] at x0 x1 r0 r1
              have HNO := Lib.hid (NO.out w7 HRZ.out HBZ.out (by rw [HDD.out, HH.out]; simp))
              go_wp2_with (at_builtin; fail)
              have HR7 : RowB (w7.setCells (w.heap.size + 1) 0 [.slice none 0 0, .slice none 0 0]) (w.heap.size + 1) 26 _ := HRZ.out.putAll _ rfl
              exact bodyPost_ret (res_box (p := 4) (u := 5) (ty := 26) rfl _ _ (w.heap.size + 1) 26 _ (0, 0) _ rfl HR7 Try.underlying26 rfl rfl) rfl HNO.out
          · have hq4 : (s.op == 4) = false := by simpa using h4
            by_cases h5 : s.op = 5
            · have HDB : deadB ts s = true := by unfold deadB; rw [h5]; rfl
              have hq5 : (s.op == 5) = true := by rw [h5]; rfl
              cases hh : hasP (liveRes ts l ((npL (l.take q) : Nat) : Int)) s.x
              · have HH := Lib.hid hh
                clear hh
                have BEL : Hid (∀ w', w'.cell? ⟨w.heap.size, 0, none⟩ = some (.slice At ts.length ct) ∧ w'.cell? ⟨w.heap.size, 1, none⟩ = some (.slice (some ⟨b, off, none⟩) l.length cb) ∧ w'.cell? ⟨g6, 1, none⟩ = some (.int .i64 s.x) ∧ Below w5.heap.size w5 w' → Below w5.heap.size w5 w') := Lib.hid fun _ h => h.2.2.2
                go_wp2_with (at_builtin; fail)
                refine wp_region_held_drew (S := (fun w' => w'.cell? ⟨w.heap.size, 0, none⟩ = some (.slice At ts.length ct) ∧ w'.cell? ⟨w.heap.size, 1, none⟩ = some (.slice (some ⟨b, off, none⟩) l.length cb) ∧ w'.cell? ⟨g6, 1, none⟩ = some (.int .i64 s.x) ∧ Below w5.heap.size w5 w')) (by kernel_rfl) ?_ (fun hHeld => ?_)
                · exact ⟨x0, x1, u1, (Below.refl _ _).drew⟩
                refine wpAnyH_take (i := 0) (oi := ⟨some 46, _, _, _, _, _⟩) (v := ?_) rfl (by kernel_rfl) (by kernel_rfl) (by kernel_rfl) (fun _ _ _ h => h) (Or.inl ⟨by rfl, fun w' hSw => ?_⟩) (by assumption) ?_
                rotate_left
                · (try dsimp only at hSw); go_simp; (try with_reducible rfl)
                (try simp only [Act.put, List.setIfInBounds_toArray, List.set_cons_zero, List.set_cons_succ])
                refine wpAnyH_take (i := 1) (oi := ⟨some 47, _, _, _, _, _⟩) (v := ?_) rfl (by kernel_rfl) (by kernel_rfl) (by kernel_rfl) (fun _ _ _ h => h) (Or.inl ⟨by rfl, fun w' hSw => ?_⟩) (by assumption) ?_
                rotate_left
                · (try dsimp only at hSw); go_simp; (try with_reducible rfl)
                (try simp only [Act.put, List.setIfInBounds_toArray, List.set_cons_zero, List.set_cons_succ])
                refine wpAnyH_take (i := 2) (oi := ⟨some 48, _, _, _, _, _⟩) (v := ?_) rfl (by kernel_rfl) (by kernel_rfl) (by kernel_rfl) (fun _ _ _ h => h) (Or.inl ⟨by rfl, fun w' hSw => ?_⟩) (by assumption) ?_
                rotate_left
                · (try dsimp only at hSw); go_simp; (try with_reducible rfl)
                (try simp only [Act.put, List.setIfInBounds_toArray, List.set_cons_zero, List.set_cons_succ])
                refine wpAnyH_take (i := 5) (oi := ⟨some 51, _, _, _, _, _⟩) (v := ?_) rfl (by kernel_rfl) (by kernel_rfl) (by kernel_rfl) (fun _ _ _ h => h) (Or.inl ⟨by rfl, fun w' hSw => ?_⟩) (by assumption) ?_
                rotate_left
                · (try dsimp only at hSw); go_simp; (try with_reducible rfl)
                (try simp only [Act.put, List.setIfInBounds_toArray, List.set_cons_zero, List.set_cons_succ])
                refine wpAnyH_take (i := 6) (oi := ⟨some 52, _, _, _, _, _⟩) (v := ?_) rfl (by kernel_rfl) (by kernel_rfl) (by kernel_rfl) (fun _ _ _ h => h) (Or.inl ⟨by rfl, fun w' hSw => ?_⟩) (by assumption) ?_
                rotate_left
                · (try dsimp only at hSw); go_simp; (try with_reducible rfl)
                (try simp only [Act.put, List.setIfInBounds_toArray, List.set_cons_zero, List.set_cons_succ])
                refine wpAnyH_ready (rs := [3]) (by kernel_rfl) (by simp) ?_
                refine AllReadyH.cons (o := ⟨some 49, _, _, _, _, _⟩) rfl (fun K hK => ?_) AllReadyH.nil
                go_simp
                (have BY := (BEL.out _ (by assumption)))
                (refine (firstPoint_any _ _ ts l q B _ (HT.out.low (HB2.out.trans (BY.mono hsz2)) hB) (HL.out.low (HB2.out.trans (BY.mono hsz2)) hB) (by have := BY.size; omega) (by omega) (by omega) (by omega)).mono ?_)
                (rintro e w6 ⟨rfl, hb6⟩)
                (have BX6 := Lib.hid (BY.trans (hb6.mono BY.size)))
                clear hb6 BY
                go_simp
                refine hK.out _ _ ?_ (fun hHeld => ?_)
                · exact ⟨(BX6.out.cell (p := ⟨w.heap.size, 0, none⟩) hx2).trans x0, (BX6.out.cell (p := ⟨w.heap.size, 1, none⟩) hx2).trans x1, (BX6.out.cell (p := ⟨g6, 1, none⟩) hu2).trans u1, BX6.out⟩
                clear hK K
                (try simp only [Act.put, List.setIfInBounds_toArray, List.set_cons_zero, List.set_cons_succ])
                refine wpAnyH_ready (rs := [4]) (by kernel_rfl) (by simp) ?_
                refine AllReadyH.cons (o := ⟨some 50, _, _, _, _, _⟩) rfl (fun K hK => ?_) AllReadyH.nil
                go_simp
                (have BY := (BEL.out _ (by assumption)))
                (refine (iLiveAfter_any _ _ ts l ((npL (l.take q) : Nat) : Int) B _ (HT.out.low (HB2.out.trans (BY.mono hsz2)) hB) (HL.out.low (HB2.out.trans (BY.mono hsz2)) hB) (by have := BY.size; omega) (by omega)).mono ?_)
                (rintro e w7 ⟨v7, rfl, hi7, hb7⟩)
                (have BX7 := Lib.hid (BY.trans (hb7.mono BY.size)))
                (have HI7 := Lib.hid hi7)
                (obtain ⟨A7, c7, rfl, -, -, -⟩ := id hi7)
                clear hb7 hi7 BY
                go_simp
                refine hK.out _ _ ?_ (fun hHeld => ?_)
                · exact ⟨(BX7.out.cell (p := ⟨w.heap.size, 0, none⟩) hx2).trans x0, (BX7.out.cell (p := ⟨w.heap.size, 1, none⟩) hx2).trans x1, (BX7.out.cell (p := ⟨g6, 1, none⟩) hu2).trans u1, BX7.out⟩
                clear hK K
                (try simp only [Act.put, List.setIfInBounds_toArray, List.set_cons_zero, List.set_cons_succ])
                refine wpAnyH_ready (rs := [7]) (by kernel_rfl) (by simp) ?_
                refine AllReadyH.cons (o := ⟨some 53, _, _, _, _, _⟩) rfl (fun K hK => ?_) AllReadyH.nil
                go_simp
                (have BY := (BEL.out _ (by assumption)))
                (refine (contains_any _ _ s.x _ _ HI7.out).mono ?_)
                (rintro e w8 ⟨rfl, rfl⟩)
                (rw [HH.out])
                go_simp
                refine hK.out _ _ ?_ (fun hHeld => ?_)
                · assumption
                clear hK K
                (try simp only [Act.put, List.setIfInBounds_toArray, List.set_cons_zero, List.set_cons_succ])
                refine wpAnyH_done (by kernel_rfl) ?_ _
                have HRZ := Lib.hid (HR2.out.low BX7.out hr2)
                have HBZ := Lib.hid (HB2.out.trans (BX7.out.mono hsz2))
                clear x0 x1 r0 r1 rf0 rf1 u0 u1 u2 BEL BX6 hHeld
                have x0 := (BX7.out.cell (p := ⟨w.heap.size, 0, none⟩) hx2).trans (HX2.out.cell 0)
                have x1 := (BX7.out.cell (p := ⟨w.heap.size, 1, none⟩) hx2).trans (HX2.out.cell 1)
                have r0 := HRZ.out.cell 0
                have r1 := HRZ.out.cell 1
                have rf0 := HRZ.out.frozen 0
                have rf1 := HRZ.out.frozen 1
                simp only [List.getElem?_cons_zero, List.getElem?_cons_succ] at x0 x1 r0 r1
                have HYES : Hid (ddOk ts l (q : Int) = true) := Lib.hid (by rw [HDD.out, HH.out, HDB]; rfl)
                go_wp2_with (at_builtin; fail)
                refine (dropped_any _ _ ts l q B w7 (HT.out.low HBZ.out hB) (HL.out.low HBZ.out hB) (by have := HBZ.out.size; omega) HQL.out hts hsz).mono ?_
                rintro e w9 ⟨vt3, vb3, lo, rfl, hoi, hown, hlo, hdt, hb3⟩
                have hsz7 := HBZ.out.size
                have hrz := HRZ.out.lt
                have HB9 := Lib.hid (HBZ.out.trans (hb3.mono hsz7))
                have HR9 := Lib.hid (HRZ.out.low hb3 hrz)
                have HOI := Lib.hid hoi
                have HDT := Lib.hid hdt
                have HOW := Lib.hid hown
                obtain ⟨A8, c8, rfl, -⟩ := hoi.slice
                obtain ⟨A9, c9, rfl, -⟩ := hdt.slice
                have HL2 : Hid ((if ddOk ts l (q : Int) then l.eraseIdx (q : Int).toNat else []) = l.eraseIdx q) := Lib.hid (by rw [HYES.out]; rfl)
                have HT2 : Hid ((if ddOk ts l (q : Int) then ts else []) = ts) := Lib.hid (by rw [HYES.out]; rfl)
                generalize l.eraseIdx q = l2 at *
                clear x0 x1 r0 r1 rf0 rf1 hb3 hoi hown hdt
                have r0 := HR9.out.cell 0
                have r1 := HR9.out.cell 1
                have rf0 := HR9.out.frozen 0
                have rf1 := HR9.out.frozen 1
                simp only [List.getElem?_cons_zero, List.getElem?_cons_succ] at r0 r1
                go_wp2_with (at_builtin; fail)
                have HR7 : RowB (w9.setCells (w.heap.size + 1) 0 [.slice A8 ts.length c8, .slice A9 l2.length c9]) (w.heap.size + 1) 26 _ := HR9.out.putAll _ rfl
                have HB7 := HB9.out.trans (below_putL (B := w.heap.size) (g := w.heap.size + 1) (by omega) [.slice A8 ts.length c8, .slice A9 l2.length c9] 0 w9)
                have hz7 := (size_putL (g := w.heap.size + 1) [.slice A8 ts.length c8, .slice A9 l2.length c9] 0 w9)
                refine bodyPost_ret (res_box (p := 4) (u := 5) (ty := 26) rfl _ _ (w.heap.size + 1) 26 _ (0, 0) _ rfl HR7 Try.underlying26 rfl rfl) rfl ⟨_, _, lo, by rw [HYES.out]; rfl, ?_, HOW.out, by omega, ?_, HB7⟩
                · rw [HT2.out]
                  exact HOI.out.keepBlk (by omega) fun b e => heap_putL (g := w.heap.size + 1) (by have := (HOI.out.own_lt e).1; omega) [.slice A8 ts.length c8, .slice A9 l2.length c9] 0 w9
                · rw [HL2.out]
                  have := (HDT.out.frame (w' := w9.setCells (w.heap.size + 1) 0 [.slice A8 ts.length c8, .slice A9 l2.length c9]) fun b hb hl => heap_putL (by have := hb.1; omega) _ _ _).mono (Q := rg lo (w9.setCells (w.heap.size + 1) 0 [.slice A8 ts.length c8, .slice A9 l2.length c9]).heap.size) fun b hb => ⟨hb.1, by have := hb.2; rw [hz7]; omega⟩
                  exact this
              · have HH := Lib.hid hh
                clear hh
                have BEL : Hid (∀ w', w'.cell? ⟨w.heap.size, 0, none⟩ = some (.slice At ts.length ct) ∧ w'.cell? ⟨w.heap.size, 1, none⟩ = some (.slice (some ⟨b, off, none⟩) l.length cb) ∧ w'.cell? ⟨g6, 1, none⟩ = some (.int .i64 s.x) ∧ Below w5.heap.size w5 w' → Below w5.heap.size w5 w') := Lib.hid fun _ h => h.2.2.2
                go_wp2_with (at_builtin; fail)
                refine wp_region_held_drew (S := (fun w' => w'.cell? ⟨w.heap.size, 0, none⟩ = some (.slice At ts.length ct) ∧ w'.cell? ⟨w.heap.size, 1, none⟩ = some (.slice (some ⟨b, off, none⟩) l.length cb) ∧ w'.cell? ⟨g6, 1, none⟩ = some (.int .i64 s.x) ∧ Below w5.heap.size w5 w')) (by kernel_rfl) ?_ (fun hHeld => ?_)
                · exact ⟨x0, x1, u1, (Below.refl _ _).drew⟩
                refine wpAnyH_take (i := 0) (oi := ⟨some 46, _, _, _, _, _⟩) (v := ?_) rfl (by kernel_rfl) (by kernel_rfl) (by kernel_rfl) (fun _ _ _ h => h) (Or.inl ⟨by rfl, fun w' hSw => ?_⟩) (by assumption) ?_
                rotate_left
                · (try dsimp only at hSw); go_simp; (try with_reducible rfl)
                (try simp only [Act.put, List.setIfInBounds_toArray, List.set_cons_zero, List.set_cons_succ])
                refine wpAnyH_take (i := 1) (oi := ⟨some 47, _, _, _, _, _⟩) (v := ?_) rfl (by kernel_rfl) (by kernel_rfl) (by kernel_rfl) (fun _ _ _ h => h) (Or.inl ⟨by rfl, fun w' hSw => ?_⟩) (by assumption) ?_
                rotate_left
                · (try dsimp only at hSw); go_simp; (try with_reducible rfl)
                (try simp only [Act.put, List.setIfInBounds_toArray, List.set_cons_zero, List.set_cons_succ])
                refine wpAnyH_take (i := 2) (oi := ⟨some 48, _, _, _, _, _⟩) (v := ?_) rfl (by kernel_rfl) (by kernel_rfl) (by kernel_rfl) (fun _ _ _ h => h) (Or.inl ⟨by rfl, fun w' hSw => ?_⟩) (by assumption) ?_
                rotate_left
                · (try dsimp only at hSw); go_simp; (try with_reducible rfl)
                (try simp only [Act.put, List.setIfInBounds_toArray, List.set_cons_zero, List.set_cons_succ])
                refine wpAnyH_take (i := 5) (oi := ⟨some 51, _, _, _, _, _⟩) (v := ?_) rfl (by kernel_rfl) (by kernel_rfl) (by kernel_rfl) (fun _ _ _ h => h) (Or.inl ⟨by rfl, fun w' hSw => ?_⟩) (by assumption) ?_
                rotate_left
                · (try dsimp only at hSw); go_simp; (try with_reducible rfl)
                (try simp only [Act.put, List.setIfInBounds_toArray, List.set_cons_zero, List.set_cons_succ])
                refine wpAnyH_take (i := 6) (oi := ⟨some 52, _, _, _, _, _⟩) (v := ?_) rfl (by kernel_rfl) (by kernel_rfl) (by kernel_rfl) (fun _ _ _ h => h) (Or.inl ⟨by rfl, fun w' hSw => ?_⟩) (by assumption) ?_
                rotate_left
                · (try dsimp only at hSw); go_simp; (try with_reducible rfl)
                (try simp only [Act.put, List.setIfInBounds_toArray, List.set_cons_zero, List.set_cons_succ])
                refine wpAnyH_ready (rs := [3]) (by kernel_rfl) (by simp) ?_
                refine AllReadyH.cons (o := ⟨some 49, _, _, _, _, _⟩) rfl (fun K hK => ?_) AllReadyH.nil
                go_simp
                (have BY := (BEL.out _ (by assumption)))
                (refine (firstPoint_any _ _ ts l q B _ (HT.out.low (HB2.out.trans (BY.mono hsz2)) hB) (HL.out.low (HB2.out.trans (BY.mono hsz2)) hB) (by have := BY.size; omega) (by omega) (by omega) (by omega)).mono ?_)
                (rintro e w6 ⟨rfl, hb6⟩)
                (have BX6 := Lib.hid (BY.trans (hb6.mono BY.size)))
                clear hb6 BY
                go_simp
                refine hK.out _ _ ?_ (fun hHeld => ?_)
                · exact ⟨(BX6.out.cell (p := ⟨w.heap.size, 0, none⟩) hx2).trans x0, (BX6.out.cell (p := ⟨w.heap.size, 1, none⟩) hx2).trans x1, (BX6.out.cell (p := ⟨g6, 1, none⟩) hu2).trans u1, BX6.out⟩
                clear hK K
                (try simp only [Act.put, List.setIfInBounds_toArray, List.set_cons_zero, List.set_cons_succ])
                refine wpAnyH_ready (rs := [4]) (by kernel_rfl) (by simp) ?_
                refine AllReadyH.cons (o := ⟨some 50, _, _, _, _, _⟩) rfl (fun K hK => ?_) AllReadyH.nil
                go_simp
                (have BY := (BEL.out _ (by assumption)))
                (refine (iLiveAfter_any _ _ ts l ((npL (l.take q) : Nat) : Int) B _ (HT.out.low (HB2.out.trans (BY.mono hsz2)) hB) (HL.out.low (HB2.out.trans (BY.mono hsz2)) hB) (by have := BY.size; omega) (by omega)).mono ?_)
                (rintro e w7 ⟨v7, rfl, hi7, hb7⟩)
                (have BX7 := Lib.hid (BY.trans (hb7.mono BY.size)))
                (have HI7 := Lib.hid hi7)
                (obtain ⟨A7, c7, rfl, -, -, -⟩ := id hi7)
                clear hb7 hi7 BY
                go_simp
                refine hK.out _ _ ?_ (fun hHeld => ?_)
                · exact ⟨(BX7.out.cell (p := ⟨w.heap.size, 0, none⟩) hx2).trans x0, (BX7.out.cell (p := ⟨w.heap.size, 1, none⟩) hx2).trans x1, (BX7.out.cell (p := ⟨g6, 1, none⟩) hu2).trans u1, BX7.out⟩
                clear hK K
                (try simp only [Act.put, List.setIfInBounds_toArray, List.set_cons_zero, List.set_cons_succ])
                refine wpAnyH_ready (rs := [7]) (by kernel_rfl) (by simp) ?_
                refine AllReadyH.cons (o := ⟨some 53, _, _, _, _, _⟩) rfl (fun K hK => ?_) AllReadyH.nil
                go_simp
                (have BY := (BEL.out _ (by assumption)))
                (refine (contains_any _ _ s.x _ _ HI7.out).mono ?_)
                (rintro e w8 ⟨rfl, rfl⟩)
                (rw [HH.out])
                go_simp
                refine hK.out _ _ ?_ (fun hHeld => ?_)
                · assumption
                clear hK K
                (try simp only [Act.put, List.setIfInBounds_toArray, List.set_cons_zero, List.set_cons_succ])
                refine wpAnyH_done (by kernel_rfl) ?_ _
                have HRZ := Lib.hid (HR2.out.low BX7.out hr2)
                have HBZ := Lib.hid (HB2.out.trans (BX7.out.mono hsz2))
                clear x0 x1 r0 r1 rf0 rf1 u0 u1 u2 BEL BX6 hHeld
                have x0 := (BX7.out.cell (p := ⟨w.heap.size, 0, none⟩) hx2).trans (HX2.out.cell 0)
                have x1 := (BX7.out.cell (p := ⟨w.heap.size, 1, none⟩) hx2).trans (HX2.out.cell 1)
                have r0 := HRZ.out.cell 0
                have r1 := HRZ.out.cell 1
                have rf0 := HRZ.out.frozen 0
                have rf1 := HRZ.out.frozen 1
                simp only [List.getElem?_cons_zero, List.getElem?_cons_succ] at x0 x1 r0 r1
                have HNO := Lib.hid (NO.out w7 HRZ.out HBZ.out (by rw [HDD.out, HH.out]; simp))
                go_wp2_with (at_builtin; fail)
                have HR7 : RowB (w7.setCells (w.heap.size + 1) 0 [.slice none 0 0, .slice none 0 0]) (w.heap.size + 1) 26 _ := HRZ.out.putAll _ rfl
                exact bodyPost_ret (res_box (p := 4) (u := 5) (ty := 26) rfl _ _ (w.heap.size + 1) 26 _ (0, 0) _ rfl HR7 Try.underlying26 rfl rfl) rfl HNO.out
            · have hq5 : (s.op == 5) = false := by simpa using h5
              by_cases h3 : s.op = 3
              · have hq3 : (s.op == 3) = true := by rw [h3]; rfl
                obtain ⟨hx0', hxl', hxy⟩ := HSO.out h3
                obtain ⟨tb, tof, tc, et, htb, htc, htl, hcx⟩ := (HT.out.low HB2.out hB).get hx0' hxl'
                injection et with et1 et9 et2
                subst et1 et2
                clear et9
                have hxl9 : s.x < (ts.length : Int) := hxl'
                obtain ⟨tt, htt⟩ : ∃ tt, tt = typeOfP ts s.x := ⟨_, rfl⟩
                have HTT := Lib.hid htt
                rw [← htt] at hcx
                have HDE : Hid (deadB ts s = (tt == 1 || tt == 3)) := Lib.hid (by unfold deadB; rw [h3, ← hxy, ← htt]; rfl)
                clear htt
                by_cases t1 : tt = 1
                · have ht1 : (tt != 1) = false := by rw [t1]; rfl
                  have HDB : deadB ts s = true := by rw [HDE.out, t1]; rfl
                  cases hh : hasP (liveRes ts l ((npL (l.take q) : Nat) : Int)) s.x
                  · have HH := Lib.hid hh
                    clear hh
                    have BEL : Hid (∀ w', w'.cell? ⟨w.heap.size, 0, none⟩ = some (.slice (some ⟨tb, tof, none⟩) ts.length ct) ∧ w'.cell? ⟨w.heap.size, 1, none⟩ = some (.slice (some ⟨b, off, none⟩) l.length cb) ∧ w'.cell? ⟨g6, 1, none⟩ = some (.int .i64 s.x) ∧ Below w5.heap.size w5 w' → Below w5.heap.size w5 w') := Lib.hid fun _ h => h.2.2.2
                    go_wp2_with (at_builtin; fail)
                    refine wp_region_held_drew (S := (fun w' => w'.cell? ⟨w.heap.size, 0, none⟩ = some (.slice (some ⟨tb, tof, none⟩) ts.length ct) ∧ w'.cell? ⟨w.heap.size, 1, none⟩ = some (.slice (some ⟨b, off, none⟩) l.length cb) ∧ w'.cell? ⟨g6, 1, none⟩ = some (.int .i64 s.x) ∧ Below w5.heap.size w5 w')) (by kernel_rfl) ?_ (fun hHeld => ?_)
                    · exact ⟨x0, x1, u1, (Below.refl _ _).drew⟩
                    refine wpAnyH_take (i := 0) (oi := ⟨some 46, _, _, _, _, _⟩) (v := ?_) rfl (by kernel_rfl) (by kernel_rfl) (by kernel_rfl) (fun _ _ _ h => h) (Or.inl ⟨by rfl, fun w' hSw => ?_⟩) (by assumption) ?_
                    rotate_left
                    · (try dsimp only at hSw); go_simp; (try with_reducible rfl)
                    (try simp only [Act.put, List.setIfInBounds_toArray, List.set_cons_zero, List.set_cons_succ])
                    refine wpAnyH_take (i := 1) (oi := ⟨some 47, _, _, _, _, _⟩) (v := ?_) rfl (by kernel_rfl) (by kernel_rfl) (by kernel_rfl) (fun _ _ _ h => h) (Or.inl ⟨by rfl, fun w' hSw => ?_⟩) (by assumption) ?_
                    rotate_left
                    · (try dsimp only at hSw); go_simp; (try with_reducible rfl)
                    (try simp only [Act.put, List.setIfInBounds_toArray, List.set_cons_zero, List.set_cons_succ])
                    refine wpAnyH_take (i := 2) (oi := ⟨some 48, _, _, _, _, _⟩) (v := ?_) rfl (by kernel_rfl) (by kernel_rfl) (by kernel_rfl) (fun _ _ _ h => h) (Or.inl ⟨by rfl, fun w' hSw => ?_⟩) (by assumption) ?_
                    rotate_left
                    · (try dsimp only at hSw); go_simp; (try with_reducible rfl)
                    (try simp only [Act.put, List.setIfInBounds_toArray, List.set_cons_zero, List.set_cons_succ])
                    refine wpAnyH_take (i := 5) (oi := ⟨some 51, _, _, _, _, _⟩) (v := ?_) rfl (by kernel_rfl) (by kernel_rfl) (by kernel_rfl) (fun _ _ _ h => h) (Or.inl ⟨by rfl, fun w' hSw => ?_⟩) (by assumption) ?_
                    rotate_left
                    · (try dsimp only at hSw); go_simp; (try with_reducible rfl)
                    (try simp only [Act.put, List.setIfInBounds_toArray, List.set_cons_zero, List.set_cons_succ])
                    refine wpAnyH_take (i := 6) (oi := ⟨some 52, _, _, _, _, _⟩) (v := ?_) rfl (by kernel_rfl) (by kernel_rfl) (by kernel_rfl) (fun _ _ _ h => h) (Or.inl ⟨by rfl, fun w' hSw => ?_⟩) (by assumption) ?_
                    rotate_left
                    · (try dsimp only at hSw); go_simp; (try with_reducible rfl)
                    (try simp only [Act.put, List.setIfInBounds_toArray, List.set_cons_zero, List.set_cons_succ])
                    refine wpAnyH_ready (rs := [3]) (by kernel_rfl) (by simp) ?_
                    refine AllReadyH.cons (o := ⟨some 49, _, _, _, _, _⟩) rfl (fun K hK => ?_) AllReadyH.nil
                    go_simp
                    (have BY := (BEL.out _ (by assumption)))
                    (refine (firstPoint_any _ _ ts l q B _ (HT.out.low (HB2.out.trans (BY.mono hsz2)) hB) (HL.out.low (HB2.out.trans (BY.mono hsz2)) hB) (by have := BY.size; omega) (by omega) (by omega) (by omega)).mono ?_)
                    (rintro e w6 ⟨rfl, hb6⟩)
                    (have BX6 := Lib.hid (BY.trans (hb6.mono BY.size)))
                    clear hb6 BY
                    go_simp
                    refine hK.out _ _ ?_ (fun hHeld => ?_)
                    · exact ⟨(BX6.out.cell (p := ⟨w.heap.size, 0, none⟩) hx2).trans x0, (BX6.out.cell (p := ⟨w.heap.size, 1, none⟩) hx2).trans x1, (BX6.out.cell (p := ⟨g6, 1, none⟩) hu2).trans u1, BX6.out⟩
                    clear hK K
                    (try simp only [Act.put, List.setIfInBounds_toArray, List.set_cons_zero, List.set_cons_succ])
                    refine wpAnyH_ready (rs := [4]) (by kernel_rfl) (by simp) ?_
                    refine AllReadyH.cons (o := ⟨some 50, _, _, _, _, _⟩) rfl (fun K hK => ?_) AllReadyH.nil
                    go_simp
                    (have BY := (BEL.out _ (by assumption)))
                    (refine (iLiveAfter_any _ _ ts l ((npL (l.take q) : Nat) : Int) B _ (HT.out.low (HB2.out.trans (BY.mono hsz2)) hB) (HL.out.low (HB2.out.trans (BY.mono hsz2)) hB) (by have := BY.size; omega) (by omega)).mono ?_)
                    (rintro e w7 ⟨v7, rfl, hi7, hb7⟩)
                    (have BX7 := Lib.hid (BY.trans (hb7.mono BY.size)))
                    (have HI7 := Lib.hid hi7)
                    (obtain ⟨A7, c7, rfl, -, -, -⟩ := id hi7)
                    clear hb7 hi7 BY
                    go_simp
                    refine hK.out _ _ ?_ (fun hHeld => ?_)
                    · exact ⟨(BX7.out.cell (p := ⟨w.heap.size, 0, none⟩) hx2).trans x0, (BX7.out.cell (p := ⟨w.heap.size, 1, none⟩) hx2).trans x1, (BX7.out.cell (p := ⟨g6, 1, none⟩) hu2).trans u1, BX7.out⟩
                    clear hK K
                    (try simp only [Act.put, List.setIfInBounds_toArray, List.set_cons_zero, List.set_cons_succ])
                    refine wpAnyH_ready (rs := [7]) (by kernel_rfl) (by simp) ?_
                    refine AllReadyH.cons (o := ⟨some 53, _, _, _, _, _⟩) rfl (fun K hK => ?_) AllReadyH.nil
                    go_simp
                    (have BY := (BEL.out _ (by assumption)))
                    (refine (contains_any _ _ s.x _ _ HI7.out).mono ?_)
                    (rintro e w8 ⟨rfl, rfl⟩)
                    (rw [HH.out])
                    go_simp
                    refine hK.out _ _ ?_ (fun hHeld => ?_)
                    · assumption
                    clear hK K
                    (try simp only [Act.put, List.setIfInBounds_toArray, List.set_cons_zero, List.set_cons_succ])
                    refine wpAnyH_done (by kernel_rfl) ?_ _
                    have HRZ := Lib.hid (HR2.out.low BX7.out hr2)
                    have HBZ := Lib.hid (HB2.out.trans (BX7.out.mono hsz2))
                    clear x0 x1 r0 r1 rf0 rf1 u0 u1 u2 BEL BX6 hHeld
                    have x0 := (BX7.out.cell (p := ⟨w.heap.size, 0, none⟩) hx2).trans (HX2.out.cell 0)
                    have x1 := (BX7.out.cell (p := ⟨w.heap.size, 1, none⟩) hx2).trans (HX2.out.cell 1)
                    have r0 := HRZ.out.cell 0
                    have r1 := HRZ.out.cell 1
                    have rf0 := HRZ.out.frozen 0
                    have rf1 := HRZ.out.frozen 1
                    simp only [List.getElem?_cons_zero, List.getElem?_cons_succ] at x0 x1 r0 r1
                    have HYES : Hid (ddOk ts l (q : Int) = true) := Lib.hid (by rw [HDD.out, HH.out, HDB]; rfl)
                    go_wp2_with (at_builtin; fail)
                    refine (dropped_any _ _ ts l q B w7 (HT.out.low HBZ.out hB) (HL.out.low HBZ.out hB) (by have := HBZ.out.size; omega) HQL.out hts hsz).mono ?_
                    rintro e w9 ⟨vt3, vb3, lo, rfl, hoi, hown, hlo, hdt, hb3⟩
                    have hsz7 := HBZ.out.size
                    have hrz := HRZ.out.lt
                    have HB9 := Lib.hid (HBZ.out.trans (hb3.mono hsz7))
                    have HR9 := Lib.hid (HRZ.out.low hb3 hrz)
                    have HOI := Lib.hid hoi
                    have HDT := Lib.hid hdt
                    have HOW := Lib.hid hown
                    obtain ⟨A8, c8, rfl, -⟩ := hoi.slice
                    obtain ⟨A9, c9, rfl, -⟩ := hdt.slice
                    have HL2 : Hid ((if ddOk ts l (q : Int) then l.eraseIdx (q : Int).toNat else []) = l.eraseIdx q) := Lib.hid (by rw [HYES.out]; rfl)
                    have HT2 : Hid ((if ddOk ts l (q : Int) then ts else []) = ts) := Lib.hid (by rw [HYES.out]; rfl)
                    generalize l.eraseIdx q = l2 at *
                    clear x0 x1 r0 r1 rf0 rf1 hb3 hoi hown hdt
                    have r0 := HR9.out.cell 0
                    have r1 := HR9.out.cell 1
                    have rf0 := HR9.out.frozen 0
                    have rf1 := HR9.out.frozen 1
                    simp only [List.getElem?_cons_zero, List.getElem?_cons_succ] at r0 r1
                    go_wp2_with (at_builtin; fail)
                    have HR7 : RowB (w9.setCells (w.heap.size + 1) 0 [.slice A8 ts.length c8, .slice A9 l2.length c9]) (w.heap.size + 1) 26 _ := HR9.out.putAll _ rfl
                    have HB7 := HB9.out.trans (below_putL (B := w.heap.size) (g := w.heap.size + 1) (by omega) [.slice A8 ts.length c8, .slice A9 l2.length c9] 0 w9)
                    have hz7 := (size_putL (g := w.heap.size + 1) [.slice A8 ts.length c8, .slice A9 l2.length c9] 0 w9)
                    refine bodyPost_ret (res_box (p := 4) (u := 5) (ty := 26) rfl _ _ (w.heap.size + 1) 26 _ (0, 0) _ rfl HR7 Try.underlying26 rfl rfl) rfl ⟨_, _, lo, by rw [HYES.out]; rfl, ?_, HOW.out, by omega, ?_, HB7⟩
                    · rw [HT2.out]
                      exact HOI.out.keepBlk (by omega) fun b e => heap_putL (g := w.heap.size + 1) (by have := (HOI.out.own_lt e).1; omega) [.slice A8 ts.length c8, .slice A9 l2.length c9] 0 w9
                    · rw [HL2.out]
                      have := (HDT.out.frame (w' := w9.setCells (w.heap.size + 1) 0 [.slice A8 ts.length c8, .slice A9 l2.length c9]) fun b hb hl => heap_putL (by have := hb.1; omega) _ _ _).mono (Q := rg lo (w9.setCells (w.heap.size + 1) 0 [.slice A8 ts.length c8, .slice A9 l2.length c9]).heap.size) fun b hb => ⟨hb.1, by have := hb.2; rw [hz7]; omega⟩
                      exact this
                  · have HH := Lib.hid hh
                    clear hh
                    have BEL : Hid (∀ w', w'.cell? ⟨w.heap.size, 0, none⟩ = some (.slice (some ⟨tb, tof, none⟩) ts.length ct) ∧ w'.cell? ⟨w.heap.size, 1, none⟩ = some (.slice (some ⟨b, off, none⟩) l.length cb) ∧ w'.cell? ⟨g6, 1, none⟩ = some (.int .i64 s.x) ∧ Below w5.heap.size w5 w' → Below w5.heap.size w5 w') := Lib.hid fun _ h => h.2.2.2
                    go_wp2_with (at_builtin; fail)
                    refine wp_region_held_drew (S := (fun w' => w'.cell? ⟨w.heap.size, 0, none⟩ = some (.slice (some ⟨tb, tof, none⟩) ts.length ct) ∧ w'.cell? ⟨w.heap.size, 1, none⟩ = some (.slice (some ⟨b, off, none⟩) l.length cb) ∧ w'.cell? ⟨g6, 1, none⟩ = some (.int .i64 s.x) ∧ Below w5.heap.size w5 w')) (by kernel_rfl) ?_ (fun hHeld => ?_)
                    · exact ⟨x0, x1, u1, (Below.refl _ _).drew⟩
                    refine wpAnyH_take (i := 0) (oi := ⟨some 46, _, _, _, _, _⟩) (v := ?_) rfl (by kernel_rfl) (by kernel_rfl) (by kernel_rfl) (fun _ _ _ h => h) (Or.inl ⟨by rfl, fun w' hSw => ?_⟩) (by assumption) ?_
                    rotate_left
                    · (try dsimp only at hSw); go_simp; (try with_reducible rfl)
                    (try simp only [Act.put, List.setIfInBounds_toArray, List.set_cons_zero, List.set_cons_succ])
                    refine wpAnyH_take (i := 1) (oi := ⟨some 47, _, _, _, _, _⟩) (v := ?_) rfl (by kernel_rfl) (by kernel_rfl) (by kernel_rfl) (fun _ _ _ h => h) (Or.inl ⟨by rfl, fun w' hSw => ?_⟩) (by assumption) ?_
                    rotate_left
                    · (try dsimp only at hSw); go_simp; (try with_reducible rfl)
                    (try simp only [Act.put, List.setIfInBounds_toArray, List.set_cons_zero, List.set_cons_succ])
                    refine wpAnyH_take (i := 2) (oi := ⟨some 48, _, _, _, _, _⟩) (v := ?_) rfl (by kernel_rfl) (by kernel_rfl) (by kernel_rfl) (fun _ _ _ h => h) (Or.inl ⟨by rfl, fun w' hSw => ?_⟩) (by assumption) ?_
                    rotate_left
                    · (try dsimp only at hSw); go_simp; (try with_reducible rfl)
                    (try simp only [Act.put, List.setIfInBounds_toArray, List.set_cons_zero, List.set_cons_succ])
                    refine wpAnyH_take (i := 5) (oi := ⟨some 51, _, _, _, _, _⟩) (v := ?_) rfl (by kernel_rfl) (by kernel_rfl) (by kernel_rfl) (fun _ _ _ h => h) (Or.inl ⟨by rfl, fun w' hSw => ?_⟩) (by assumption) ?_
                    rotate_left
                    · (try dsimp only at hSw); go_simp; (try with_reducible rfl)
                    (try simp only [Act.put, List.setIfInBounds_toArray, List.set_cons_zero, List.set_cons_succ])
                    refine wpAnyH_take (i := 6) (oi := ⟨some 52, _, _, _, _, _⟩) (v := ?_) rfl (by kernel_rfl) (by kernel_rfl) (by kernel_rfl) (fun _ _ _ h => h) (Or.inl ⟨by rfl, fun w' hSw => ?_⟩) (by assumption) ?_
                    rotate_left
                    · (try dsimp only at hSw); go_simp; (try with_reducible rfl)
                    (try simp only [Act.put, List.setIfInBounds_toArray, List.set_cons_zero, List.set_cons_succ])
                    refine wpAnyH_ready (rs := [3]) (by kernel_rfl) (by simp) ?_
                    refine AllReadyH.cons (o := ⟨some 49, _, _, _, _, _⟩) rfl (fun K hK => ?_) AllReadyH.nil
                    go_simp
                    (have BY := (BEL.out _ (by assumption)))
                    (refine (firstPoint_any _ _ ts l q B _ (HT.out.low (HB2.out.trans (BY.mono hsz2)) hB) (HL.out.low (HB2.out.trans (BY.mono hsz2)) hB) (by have := BY.size; omega) (by omega) (by omega) (by omega)).mono ?_)
                    (rintro e w6 ⟨rfl, hb6⟩)
                    (have BX6 := Lib.hid (BY.trans (hb6.mono BY.size)))
                    clear hb6 BY
                    go_simp
                    refine hK.out _ _ ?_ (fun hHeld => ?_)
                    · exact ⟨(BX6.out.cell (p := ⟨w.heap.size, 0, none⟩) hx2).trans x0, (BX6.out.cell (p := ⟨w.heap.size, 1, none⟩) hx2).trans x1, (BX6.out.cell (p := ⟨g6, 1, none⟩) hu2).trans u1, BX6.out⟩
                    clear hK K
                    (try simp only [Act.put, List.setIfInBounds_toArray, List.set_cons_zero, List.set_cons_succ])
                    refine wpAnyH_ready (rs := [4]) (by kernel_rfl) (by simp) ?_
                    refine AllReadyH.cons (o := ⟨some 50, _, _, _, _, _⟩) rfl (fun K hK => ?_) AllReadyH.nil
                    go_simp
                    (have BY := (BEL.out _ (by assumption)))
                    (refine (iLiveAfter_any _ _ ts l ((npL (l.take q) : Nat) : Int) B _ (HT.out.low (HB2.out.trans (BY.mono hsz2)) hB) (HL.out.low (HB2.out.trans (BY.mono hsz2)) hB) (by have := BY.size; omega) (by omega)).mono ?_)
                    (rintro e w7 ⟨v7, rfl, hi7, hb7⟩)
                    (have BX7 := Lib.hid (BY.trans (hb7.mono BY.size)))
                    (have HI7 := Lib.hid hi7)
                    (obtain ⟨A7, c7, rfl, -, -, -⟩ := id hi7)
                    clear hb7 hi7 BY
                    go_simp
                    refine hK.out _ _ ?_ (fun hHeld => ?_)
                    · exact ⟨(BX7.out.cell (p := ⟨w.heap.size, 0, none⟩) hx2).trans x0, (BX7.out.cell (p := ⟨w.heap.size, 1, none⟩) hx2).trans x1, (BX7.out.cell (p := ⟨g6, 1, none⟩) hu2).trans u1, BX7.out⟩
                    clear hK K
                    (try simp only [Act.put, List.setIfInBounds_toArray, List.set_cons_zero, List.set_cons_succ])
                    refine wpAnyH_ready (rs := [7]) (by kernel_rfl) (by simp) ?_
                    refine AllReadyH.cons (o := ⟨some 53, _, _, _, _, _⟩) rfl (fun K hK => ?_) AllReadyH.nil
                    go_simp
                    (have BY := (BEL.out _ (by assumption)))
                    (refine (contains_any _ _ s.x _ _ HI7.out).mono ?_)
                    (rintro e w8 ⟨rfl, rfl⟩)
                    (rw [HH.out])
                    go_simp
                    refine hK.out _ _ ?_ (fun hHeld => ?_)
                    · assumption
                    clear hK K
                    (try simp only [Act.put, List.setIfInBounds_toArray, List.set_cons_zero, List.set_cons_succ])
                    refine wpAnyH_done (by kernel_rfl) ?_ _
                    have HRZ := Lib.hid (HR2.out.low BX7.out hr2)
                    have HBZ := Lib.hid (HB2.out.trans (BX7.out.mono hsz2))
                    clear x0 x1 r0 r1 rf0 rf1 u0 u1 u2 BEL BX6 hHeld
                    have x0 := (BX7.out.cell (p := ⟨w.heap.size, 0, none⟩) hx2).trans (HX2.out.cell 0)
                    have x1 := (BX7.out.cell (p := ⟨w.heap.size, 1, none⟩) hx2).trans (HX2.out.cell 1)
                    have r0 := HRZ.out.cell 0
                    have r1 := HRZ.out.cell 1
                    have rf0 := HRZ.out.frozen 0
                    have rf1 := HRZ.out.frozen 1
                    simp only [List.getElem?_cons_zero, List.getElem?_cons_succ] at x0 x1 r0 r1
                    have HNO := Lib.hid (NO.out w7 HRZ.out HBZ.out (by rw [HDD.out, HH.out]; simp))
                    go_wp2_with (at_builtin; fail)
                    have HR7 : RowB (w7.setCells (w.heap.size + 1) 0 [.slice none 0 0, .slice none 0 0]) (w.heap.size + 1) 26 _ := HRZ.out.putAll _ rfl
                    exact bodyPost_ret (res_box (p := 4) (u := 5) (ty := 26) rfl _ _ (w.heap.size + 1) 26 _ (0, 0) _ rfl HR7 Try.underlying26 rfl rfl) rfl HNO.out
                · have ht1 : (tt != 1) = true := by simpa using t1
                  by_cases t3 : tt = 3
                  · have ht3 : (tt != 3) = false := by rw [t3]; rfl
                    have HDB : deadB ts s = true := by rw [HDE.out, t3]; rfl
                    cases hh : hasP (liveRes ts l ((npL (l.take q) : Nat) : Int)) s.x
                    · have HH := Lib.hid hh
                      clear hh
                      have BEL : Hid (∀ w', w'.cell? ⟨w.heap.size, 0, none⟩ = some (.slice (some ⟨tb, tof, none⟩) ts.length ct) ∧ w'.cell? ⟨w.heap.size, 1, none⟩ = some (.slice (some ⟨b, off, none⟩) l.length cb) ∧ w'.cell? ⟨g6, 1, none⟩ = some (.int .i64 s.x) ∧ Below w5.heap.size w5 w' → Below w5.heap.size w5 w') := Lib.hid fun _ h => h.2.2.2
                      go_wp2_with (at_builtin; fail)
                      refine wp_region_held_drew (S := (fun w' => w'.cell? ⟨w.heap.size, 0, none⟩ = some (.slice (some ⟨tb, tof, none⟩) ts.length ct) ∧ w'.cell? ⟨w.heap.size, 1, none⟩ = some (.slice (some ⟨b, off, none⟩) l.length cb) ∧ w'.cell? ⟨g6, 1, none⟩ = some (.int .i64 s.x) ∧ Below w5.heap.size w5 w')) (by kernel_rfl) ?_ (fun hHeld => ?_)
                      · exact ⟨x0, x1, u1, (Below.refl _ _).drew⟩
                      refine wpAnyH_take (i := 0) (oi := ⟨some 46, _, _, _, _, _⟩) (v := ?_) rfl (by kernel_rfl) (by kernel_rfl) (by kernel_rfl) (fun _ _ _ h => h) (Or.inl ⟨by rfl, fun w' hSw => ?_⟩) (by assumption) ?_
                      rotate_left
                      · (try dsimp only at hSw); go_simp; (try with_reducible rfl)
                      (try simp only [Act.put, List.setIfInBounds_toArray, List.set_cons_zero, List.set_cons_succ])
                      refine wpAnyH_take (i := 1) (oi := ⟨some 47, _, _, _, _, _⟩) (v := ?_) rfl (by kernel_rfl) (by kernel_rfl) (by kernel_rfl) (fun _ _ _ h => h) (Or.inl ⟨by rfl, fun w' hSw => ?_⟩) (by assumption) ?_
                      rotate_left
                      · (try dsimp only at hSw); go_simp; (try with_reducible rfl)
                      (try simp only [Act.put, List.setIfInBounds_toArray, List.set_cons_zero, List.set_cons_succ])
                      refine wpAnyH_take (i := 2) (oi := ⟨some 48, _, _, _, _, _⟩) (v := ?_) rfl (by kernel_rfl) (by kernel_rfl) (by kernel_rfl) (fun _ _ _ h => h) (Or.inl ⟨by rfl, fun w' hSw => ?_⟩) (by assumption) ?_
                      rotate_left
                      · (try dsimp only at hSw); go_simp; (try with_reducible rfl)
                      (try simp only [Act.put, List.setIfInBounds_toArray, List.set_cons_zero, List.set_cons_succ])
                      refine wpAnyH_take (i := 5) (oi := ⟨some 51, _, _, _, _, _⟩) (v := ?_) rfl (by kernel_rfl) (by kernel_rfl) (by kernel_rfl) (fun _ _ _ h => h) (Or.inl ⟨by rfl, fun w' hSw => ?_⟩) (by assumption) ?_
                      rotate_left
                      · (try dsimp only at hSw); go_simp; (try with_reducible rfl)
                      (try simp only [Act.put, List.setIfInBounds_toArray, List.set_cons_zero, List.set_cons_succ])
                      refine wpAnyH_take (i := 6) (oi := ⟨some 52, _, _, _, _, _⟩) (v := ?_) rfl (by kernel_rfl) (by kernel_rfl) (by kernel_rfl) (fun _ _ _ h => h) (Or.inl ⟨by rfl, fun w' hSw => ?_⟩) (by assumption) ?_
                      rotate_left
                      · (try dsimp only at hSw); go_simp; (try with_reducible rfl)
                      (try simp only [Act.put, List.setIfInBounds_toArray, List.set_cons_zero, List.set_cons_succ])
                      refine wpAnyH_ready (rs := [3]) (by kernel_rfl) (by simp) ?_
                      refine AllReadyH.cons (o := ⟨some 49, _, _, _, _, _⟩) rfl (fun K hK => ?_) AllReadyH.nil
                      go_simp
                      (have BY := (BEL.out _ (by assumption)))
                      (refine (firstPoint_any _ _ ts l q B _ (HT.out.low (HB2.out.trans (BY.mono hsz2)) hB) (HL.out.low (HB2.out.trans (BY.mono hsz2)) hB) (by have := BY.size; omega) (by omega) (by omega) (by omega)).mono ?_)
                      (rintro e w6 ⟨rfl, hb6⟩)
                      (have BX6 := Lib.hid (BY.trans (hb6.mono BY.size)))
                      clear hb6 BY
                      go_simp
                      refine hK.out _ _ ?_ (fun hHeld => ?_)
                      · exact ⟨(BX6.out.cell (p := ⟨w.heap.size, 0, none⟩) hx2).trans x0, (BX6.out.cell (p := ⟨w.heap.size, 1, none⟩) hx2).trans x1, (BX6.out.cell (p := ⟨g6, 1, none⟩) hu2).trans u1, BX6.out⟩
                      clear hK K
                      (try simp only [Act.put, List.setIfInBounds_toArray, List.set_cons_zero, List.set_cons_succ])
                      refine wpAnyH_ready (rs := [4]) (by kernel_rfl) (by simp) ?_
                      refine AllReadyH.cons (o := ⟨some 50, _, _, _, _, _⟩) rfl (fun K hK => ?_) AllReadyH.nil
                      go_simp
                      (have BY := (BEL.out _ (by assumption)))
                      (refine (iLiveAfter_any _ _ ts l ((npL (l.take q) : Nat) : Int) B _ (HT.out.low (HB2.out.trans (BY.mono hsz2)) hB) (HL.out.low (HB2.out.trans (BY.mono hsz2)) hB) (by have := BY.size; omega) (by omega)).mono ?_)
                      (rintro e w7 ⟨v7, rfl, hi7, hb7⟩)
                      (have BX7 := Lib.hid (BY.trans (hb7.mono BY.size)))
                      (have HI7 := Lib.hid hi7)
                      (obtain ⟨A7, c7, rfl, -, -, -⟩ := id hi7)
                      clear hb7 hi7 BY
                      go_simp
                      refine hK.out _ _ ?_ (fun hHeld => ?_)
                      · exact ⟨(BX7.out.cell (p := ⟨w.heap.size, 0, none⟩) hx2).trans x0, (BX7.out.cell (p := ⟨w.heap.size, 1, none⟩) hx2).trans x1, (BX7.out.cell (p := ⟨g6, 1, none⟩) hu2).trans u1, BX7.out⟩
                      clear hK K
                      (try simp only [Act.put, List.setIfInBounds_toArray, List.set_cons_zero, List.set_cons_succ])
                      refine wpAnyH_ready (rs := [7]) (by kernel_rfl) (by simp) ?_
                      refine AllReadyH.cons (o := ⟨some 53, _, _, _, _, _⟩) rfl (fun K hK => ?_) AllReadyH.nil
                      go_simp
                      (have BY := (BEL.out _ (by assumption)))
                      (refine (contains_any _ _ s.x _ _ HI7.out).mono ?_)
                      (rintro e w8 ⟨rfl, rfl⟩)
                      (rw [HH.out])
                      go_simp
                      refine hK.out _ _ ?_ (fun hHeld => ?_)
                      · assumption
                      clear hK K
                      (try simp only [Act.put, List.setIfInBounds_toArray, List.set_cons_zero, List.set_cons_succ])
                      refine wpAnyH_done (by kernel_rfl) ?_ _
                      have HRZ := Lib.hid (HR2.out.low BX7.out hr2)
                      have HBZ := Lib.hid (HB2.out.trans (BX7.out.mono hsz2))
                      clear x0 x1 r0 r1 rf0 rf1 u0 u1 u2 BEL BX6 hHeld
                      have x0 := (BX7.out.cell (p := ⟨w.heap.size, 0, none⟩) hx2).trans (HX2.out.cell 0)
                      have x1 := (BX7.out.cell (p := ⟨w.heap.size, 1, none⟩) hx2).trans (HX2.out.cell 1)
                      have r0 := HRZ.out.cell 0
                      have r1 := HRZ.out.cell 1
                      have rf0 := HRZ.out.frozen 0
                      have rf1 := HRZ.out.frozen 1
                      simp only [List.getElem?_cons_zero, List.getElem?_cons_succ] at x0 x1 r0 r1
                      have HYES : Hid (ddOk ts l (q : Int) = true) := Lib.hid (by rw [HDD.out, HH.out, HDB]; rfl)
                      go_wp2_with (at_builtin; fail)
                      refine (dropped_any _ _ ts l q B w7 (HT.out.low HBZ.out hB) (HL.out.low HBZ.out hB) (by have := HBZ.out.size; omega) HQL.out hts hsz).mono ?_
                      rintro e w9 ⟨vt3, vb3, lo, rfl, hoi, hown, hlo, hdt, hb3⟩
                      have hsz7 := HBZ.out.size
                      have hrz := HRZ.out.lt
                      have HB9 := Lib.hid (HBZ.out.trans (hb3.mono hsz7))
                      have HR9 := Lib.hid (HRZ.out.low hb3 hrz)
                      have HOI := Lib.hid hoi
                      have HDT := Lib.hid hdt
                      have HOW := Lib.hid hown
                      obtain ⟨A8, c8, rfl, -⟩ := hoi.slice
                      obtain ⟨A9, c9, rfl, -⟩ := hdt.slice
                      have HL2 : Hid ((if ddOk ts l (q : Int) then l.eraseIdx (q : Int).toNat else []) = l.eraseIdx q) := Lib.hid (by rw [HYES.out]; rfl)
                      have HT2 : Hid ((if ddOk ts l (q : Int) then ts else []) = ts) := Lib.hid (by rw [HYES.out]; rfl)
                      generalize l.eraseIdx q = l2 at *
                      clear x0 x1 r0 r1 rf0 rf1 hb3 hoi hown hdt
                      have r0 := HR9.out.cell 0
                      have r1 := HR9.out.cell 1
                      have rf0 := HR9.out.frozen 0
                      have rf1 := HR9.out.frozen 1
                      simp only [List.getElem?_cons_zero, List.getElem?_cons_succ] at r0 r1
                      go_wp2_with (at_builtin; fail)
                      have HR7 : RowB (w9.setCells (w.heap.size + 1) 0 [.slice A8 ts.length c8, .slice A9 l2.length c9]) (w.heap.size + 1) 26 _ := HR9.out.putAll _ rfl
                      have HB7 := HB9.out.trans (below_putL (B := w.heap.size) (g := w.heap.size + 1) (by omega) [.slice A8 ts.length c8, .slice A9 l2.length c9] 0 w9)
                      have hz7 := (size_putL (g := w.heap.size + 1) [.slice A8 ts.length c8, .slice A9 l2.length c9] 0 w9)
                      refine bodyPost_ret (res_box (p := 4) (u := 5) (ty := 26) rfl _ _ (w.heap.size + 1) 26 _ (0, 0) _ rfl HR7 Try.underlying26 rfl rfl) rfl ⟨_, _, lo, by rw [HYES.out]; rfl, ?_, HOW.out, by omega, ?_, HB7⟩
                      · rw [HT2.out]
                        exact HOI.out.keepBlk (by omega) fun b e => heap_putL (g := w.heap.size + 1) (by have := (HOI.out.own_lt e).1; omega) [.slice A8 ts.length c8, .slice A9 l2.length c9] 0 w9
                      · rw [HL2.out]
                        have := (HDT.out.frame (w' := w9.setCells (w.heap.size + 1) 0 [.slice A8 ts.length c8, .slice A9 l2.length c9]) fun b hb hl => heap_putL (by have := hb.1; omega) _ _ _).mono (Q := rg lo (w9.setCells (w.heap.size + 1) 0 [.slice A8 ts.length c8, .slice A9 l2.length c9]).heap.size) fun b hb => ⟨hb.1, by have := hb.2; rw [hz7]; omega⟩
                        exact this
                    · have HH := Lib.hid hh
                      clear hh
                      have BEL : Hid (∀ w', w'.cell? ⟨w.heap.size, 0, none⟩ = some (.slice (some ⟨tb, tof, none⟩) ts.length ct) ∧ w'.cell? ⟨w.heap.size, 1, none⟩ = some (.slice (some ⟨b, off, none⟩) l.length cb) ∧ w'.cell? ⟨g6, 1, none⟩ = some (.int .i64 s.x) ∧ Below w5.heap.size w5 w' → Below w5.heap.size w5 w') := Lib.hid fun _ h => h.2.2.2
                      go_wp2_with (at_builtin; fail)
                      refine wp_region_held_drew (S := (fun w' => w'.cell? ⟨w.heap.size, 0, none⟩ = some (.slice (some ⟨tb, tof, none⟩) ts.length ct) ∧ w'.cell? ⟨w.heap.size, 1, none⟩ = some (.slice (some ⟨b, off, none⟩) l.length cb) ∧ w'.cell? ⟨g6, 1, none⟩ = some (.int .i64 s.x) ∧ Below w5.heap.size w5 w')) (by kernel_rfl) ?_ (fun hHeld => ?_)
                      · exact ⟨x0, x1, u1, (Below.refl _ _).drew⟩
                      refine wpAnyH_take (i := 0) (oi := ⟨some 46, _, _, _, _, _⟩) (v := ?_) rfl (by kernel_rfl) (by kernel_rfl) (by kernel_rfl) (fun _ _ _ h => h) (Or.inl ⟨by rfl, fun w' hSw => ?_⟩) (by assumption) ?_
                      rotate_left
                      · (try dsimp only at hSw); go_simp; (try with_reducible rfl)
                      (try simp only [Act.put, List.setIfInBounds_toArray, List.set_cons_zero, List.set_cons_succ])
                      refine wpAnyH_take (i := 1) (oi := ⟨some 47, _, _, _, _, _⟩) (v := ?_) rfl (by kernel_rfl) (by kernel_rfl) (by kernel_rfl) (fun _ _ _ h => h) (Or.inl ⟨by rfl, fun w' hSw => ?_⟩) (by assumption) ?_
                      rotate_left
                      · (try dsimp only at hSw); go_simp; (try with_reducible rfl)
                      (try simp only [Act.put, List.setIfInBounds_toArray, List.set_cons_zero, List.set_cons_succ])
                      refine wpAnyH_take (i := 2) (oi := ⟨some 48, _, _, _, _, _⟩) (v := ?_) rfl (by kernel_rfl) (by kernel_rfl) (by kernel_rfl) (fun _ _ _ h => h) (Or.inl ⟨by rfl, fun w' hSw => ?_⟩) (by assumption) ?_
                      rotate_left
                      · (try dsimp only at hSw); go_simp; (try with_reducible rfl)
                      (try simp only [Act.put, List.setIfInBounds_toArray, List.set_cons_zero, List.set_cons_succ])
                      refine wpAnyH_take (i := 5) (oi := ⟨some 51, _, _, _, _, _⟩) (v := ?_) rfl (by kernel_rfl) (by kernel_rfl) (by kernel_rfl) (fun _ _ _ h => h) (Or.inl ⟨by rfl, fun w' hSw => ?_⟩) (by assumption) ?_
                      rotate_left
                      · (try dsimp only at hSw); go_simp; (try with_reducible rfl)
                      (try simp only [Act.put, List.setIfInBounds_toArray, List.set_cons_zero, List.set_cons_succ])
                      refine wpAnyH_take (i := 6) (oi := ⟨some 52, _, _, _, _, _⟩) (v := ?_) rfl (by kernel_rfl) (by kernel_rfl) (by kernel_rfl) (fun _ _ _ h => h) (Or.inl ⟨by rfl, fun w' hSw => ?_⟩) (by assumption) ?_
                      rotate_left
                      · (try dsimp only at hSw); go_simp; (try with_reducible rfl)
                      (try simp only [Act.put, List.setIfInBounds_toArray, List.set_cons_zero, List.set_cons_succ])
                      refine wpAnyH_ready (rs := [3]) (by kernel_rfl) (by simp) ?_
                      refine AllReadyH.cons (o := ⟨some 49, _, _, _, _, _⟩) rfl (fun K hK => ?_) AllReadyH.nil
                      go_simp
                      (have BY := (BEL.out _ (by assumption)))
                      (refine (firstPoint_any _ _ ts l q B _ (HT.out.low (HB2.out.trans (BY.mono hsz2)) hB) (HL.out.low (HB2.out.trans (BY.mono hsz2)) hB) (by have := BY.size; omega) (by omega) (by omega) (by omega)).mono ?_)
                      (rintro e w6 ⟨rfl, hb6⟩)
                      (have BX6 := Lib.hid (BY.trans (hb6.mono BY.size)))
                      clear hb6 BY
                      go_simp
                      refine hK.out _ _ ?_ (fun hHeld => ?_)
                      · exact ⟨(BX6.out.cell (p := ⟨w.heap.size, 0, none⟩) hx2).trans x0, (BX6.out.cell (p := ⟨w.heap.size, 1, none⟩) hx2).trans x1, (BX6.out.cell (p := ⟨g6, 1, none⟩) hu2).trans u1, BX6.out⟩
                      clear hK K
                      (try simp only [Act.put, List.setIfInBounds_toArray, List.set_cons_zero, List.set_cons_succ])
                      refine wpAnyH_ready (rs := [4]) (by kernel_rfl) (by simp) ?_
                      refine AllReadyH.cons (o := ⟨some 50, _, _, _, _, _⟩) rfl (fun K hK => ?_) AllReadyH.nil
                      go_simp
                      (have BY := (BEL.out _ (by assumption)))
                      (refine (iLiveAfter_any _ _ ts l ((npL (l.take q) : Nat) : Int) B _ (HT.out.low (HB2.out.trans (BY.mono hsz2)) hB) (HL.out.low (HB2.out.trans (BY.mono hsz2)) hB) (by have := BY.size; omega) (by omega)).mono ?_)
                      (rintro e w7 ⟨v7, rfl, hi7, hb7⟩)
                      (have BX7 := Lib.hid (BY.trans (hb7.mono BY.size)))
                      (have HI7 := Lib.hid hi7)
                      (obtain ⟨A7, c7, rfl, -, -, -⟩ := id hi7)
                      clear hb7 hi7 BY
                      go_simp
                      refine hK.out _ _ ?_ (fun hHeld => ?_)
                      · exact ⟨(BX7.out.cell (p := ⟨w.heap.size, 0, none⟩) hx2).trans x0, (BX7.out.cell (p := ⟨w.heap.size, 1, none⟩) hx2).trans x1, (BX7.out.cell (p := ⟨g6, 1, none⟩) hu2).trans u1, BX7.out⟩
                      clear hK K
                      (try simp only [Act.put, List.setIfInBounds_toArray, List.set_cons_zero, List.set_cons_succ])
                      refine wpAnyH_ready (rs := [7]) (by kernel_rfl) (by simp) ?_
                      refine AllReadyH.cons (o := ⟨some 53, _, _, _, _, _⟩) rfl (fun K hK => ?_) AllReadyH.nil
                      go_simp
                      (have BY := (BEL.out _ (by assumption)))
                      (refine (contains_any _ _ s.x _ _ HI7.out).mono ?_)
                      (rintro e w8 ⟨rfl, rfl⟩)
                      (rw [HH.out])
                      go_simp
                      refine hK.out _ _ ?_ (fun hHeld => ?_)
                      · assumption
                      clear hK K
                      (try simp only [Act.put, List.setIfInBounds_toArray, List.set_cons_zero, List.set_cons_succ])
                      refine wpAnyH_done (by kernel_rfl) ?_ _
                      have HRZ := Lib.hid (HR2.out.low BX7.out hr2)
                      have HBZ := Lib.hid (HB2.out.trans (BX7.out.mono hsz2))
                      clear x0 x1 r0 r1 rf0 rf1 u0 u1 u2 BEL BX6 hHeld
                      have x0 := (BX7.out.cell (p := ⟨w.heap.size, 0, none⟩) hx2).trans (HX2.out.cell 0)
                      have x1 := (BX7.out.cell (p := ⟨w.heap.size, 1, none⟩) hx2).trans (HX2.out.cell 1)
                      have r0 := HRZ.out.cell 0
                      have r1 := HRZ.out.cell 1
                      have rf0 := HRZ.out.frozen 0
                      have rf1 := HRZ.out.frozen 1
                      simp only [List.getElem?_cons_zero, List.getElem?_cons_succ] at x0 x1 r0 r1
                      have HNO := Lib.hid (NO.out w7 HRZ.out HBZ.out (by rw [HDD.out, HH.out]; simp))
                      go_wp2_with (at_builtin; fail)
                      have HR7 : RowB (w7.setCells (w.heap.size + 1) 0 [.slice none 0 0, .slice none 0 0]) (w.heap.size + 1) 26 _ := HRZ.out.putAll _ rfl
                      exact bodyPost_ret (res_box (p := 4) (u := 5) (ty := 26) rfl _ _ (w.heap.size + 1) 26 _ (0, 0) _ rfl HR7 Try.underlying26 rfl rfl) rfl HNO.out
                  · have ht3 : (tt != 3) = true := by simpa using t3
                    have HDB : deadB ts s = false := by rw [HDE.out]; simp [t1, t3]
                    have HNO := Lib.hid (NO.out w5 HR2.out HB2.out (by rw [HDD.out, HDB]; rfl))
                    go_wp2_with (at_builtin; fail)
                    have HR7 : RowB (w5.setCells (w.heap.size + 1) 0 [.slice none 0 0, .slice none 0 0]) (w.heap.size + 1) 26 _ := HR2.out.putAll _ rfl
                    exact bodyPost_ret (res_box (p := 4) (u := 5) (ty := 26) rfl _ _ (w.heap.size + 1) 26 _ (0, 0) _ rfl HR7 Try.underlying26 rfl rfl) rfl HNO.out
              · have hq3 : (s.op == 3) = false := by simpa using h3
                have HDB : deadB ts s = false := by unfold deadB; rw [hq1, hq6, hq4, hq5, hq3]; rfl
                have HNO := Lib.hid (NO.out w5 HR2.out HB2.out (by rw [HDD.out, HDB]; rfl))
                go_wp2_with (at_builtin; fail)
                have HR7 : RowB (w5.setCells (w.heap.size + 1) 0 [.slice none 0 0, .slice none 0 0]) (w.heap.size + 1) 26 _ := HR2.out.putAll _ rfl
                exact bodyPost_ret (res_box (p := 4) (u := 5) (ty := 26) rfl _ _ (w.heap.size + 1) 26 _ (0, 0) _ rfl HR7 Try.underlying26 rfl rfl) rfl HNO.out

end Go.Proofs.Ytidlifijgooceaa
