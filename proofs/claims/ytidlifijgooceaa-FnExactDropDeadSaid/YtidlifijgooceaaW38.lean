import Derived.Test.YtidlifijgooceaaW37
set_option linter.unusedVariables false

/- spec.DropDead. -/
namespace Go.Proofs.Ytidlifijgooceaa
open Go.RowKit

theorem IntS.setBox {w : World} {B g : Nat} {t : TypeId} {v : Value} {l : List Int} (h : IntS w B v l) (hr : RowB w g t [.slice none 0 0, .slice none 0 0]) (vs : List Value) : IntS (w.setCells g 0 vs) B v l := by
  obtain ⟨A, c, rfl, h1, h2, hx, hn⟩ := h
  refine ⟨A, c, rfl, h1, h2, hx, fun h0 => ?_⟩
  obtain ⟨b, off, e, hb, hc⟩ := hn h0
  refine ⟨b, off, e, hb, fun j u hu => ?_⟩
  have hbg : b ≠ g := by
    rintro rfl
    have := hc j u hu
    rw [hr.cell] at this
    have hu2 : ∃ z, u = .int .i64 z := by
      rw [List.getElem?_map] at hu
      obtain ⟨z, -, hz⟩ := Option.map_eq_some_iff.1 hu
      exact ⟨z, hz.symm⟩
    obtain ⟨z, rfl⟩ := hu2
    have hj : off + j = 0 ∨ off + j = 1 ∨ 2 ≤ off + j := by omega
    rcases hj with hj | hj | hj
    · rw [hj] at this; simp at this
    · rw [hj] at this; simp at this
    · rw [List.getElem?_eq_none (by simpa using hj)] at this; cases this
  exact (World.cell?_of_block (w := w) (a := ⟨b, off + j, none⟩) (heap_putL hbg _ _ _)).trans (hc j u hu)
theorem StS.setBox {w : World} {B g : Nat} {t : TypeId} {v : Value} {l : List St} (h : StS w B v l) (hr : RowB w g t [.slice none 0 0, .slice none 0 0]) (vs : List Value) : StS (w.setCells g 0 vs) B v l := by
  induction h with
  | mk A c l tv ev hc hn ht he iht ihe =>
    refine .mk A c l tv ev hc (fun h0 => ?_) iht ihe
    obtain ⟨b, off, e, hb, hcell⟩ := hn h0
    have hbg : b ≠ g := by
      rintro rfl
      have := (hcell 0 h0).1
      rw [hr.cell] at this
      have hj : off + 0 * 6 = 0 ∨ off + 0 * 6 = 1 ∨ 2 ≤ off + 0 * 6 := by omega
      rcases hj with hj | hj | hj
      · rw [hj] at this; simp at this
      · rw [hj] at this; simp at this
      · rw [List.getElem?_eq_none (by simpa using hj)] at this; cases this
    have key : ∀ o, (w.setCells g 0 vs).cell? ⟨b, o, none⟩ = w.cell? ⟨b, o, none⟩ := fun o => World.cell?_of_block (w := w) (a := ⟨b, o, none⟩) (heap_putL hbg _ _ _)
    exact ⟨b, off, e, hb, fun i hi => by simp only [key]; exact hcell i hi⟩
theorem row_bool {w : World} {g v : Nat} {r : List Bool} (h : RowB w g 4 (bv r)) (hv : v < r.length) : w.cell? ⟨g, v, none⟩ = some (.bool (r.getD v false)) := by
  rw [h.cell]
  unfold bv
  rw [List.getElem?_map, List.getElem?_eq_getElem hv, getD_lt hv]
  rfl
/-- a dead statement's variable is one -/
theorem valid_dead {ts : List Int} {l : List St} {q : Nat} (hv : validP ts l = true) (hq : q < l.length) : deadB ts l[q] = true → 0 ≤ l[q].x ∧ l[q].x < ts.length := by
  intro hd
  have h := slOk_mem (valid_parts hv).2.1 hq
  rw [stOk_eq] at h
  have ho : l[q].op = 1 ∨ l[q].op = 6 ∨ l[q].op = 4 ∨ l[q].op = 5 ∨ l[q].op = 3 := by
    unfold deadB at hd
    simp only [Bool.or_eq_true, Bool.and_eq_true, beq_iff_eq] at hd
    omega
  have hb : isBranchP l[q].op = false := by rcases ho with h | h | h | h | h <;> rw [h] <;> rfl
  rw [hb] at h
  simp only [Bool.false_eq_true, if_false, Bool.and_eq_true] at h
  have h2 := h.2
  unfold simpleP at h2
  refine typeOf_pos fun e => ?_
  rcases ho with h | h | h | h | h <;> rw [h, e] at h2 <;> simp at h2
theorem move_y {ts : List Int} {l : List St} {q : Nat} (hv : validP ts l = true) (hq : q < l.length) : l[q].op = 3 → 0 ≤ l[q].x ∧ l[q].x < ts.length ∧ typeOfP ts l[q].x = typeOfP ts l[q].y ∧ 0 ≤ l[q].y ∧ l[q].y < ts.length := by
  intro h3
  obtain ⟨h1, h2, h4⟩ := valid_st hv hq h3
  have hd := slOk_mem (valid_parts hv).2.1 hq
  rw [stOk_eq] at hd
  have hb : isBranchP l[q].op = false := by rw [h3]; rfl
  rw [hb] at hd
  simp only [Bool.false_eq_true, if_false, Bool.and_eq_true] at hd
  have h5 := hd.2
  unfold simpleP at h5
  rw [h3] at h5
  simp at h5
  have := typeOf_pos (ts := ts) (v := l[q].y) (by rw [← h4]; exact h5.2.1.2)
  exact ⟨h1, h2, h4, this.1, this.2⟩
/-- what a row of the live variables says -/
theorem live_has {ts : List Int} {l : List St} (hv : validP ts l = true) (q : Nat) (x : Int) : ∀ rows : List (List Bool), (∀ i v, rget rows i v = true ↔ ∃ p, (ptsP l)[i]? = some p ∧ ∃ k ∈ p.next, Nd ts (ptsP l) k v) → ∀ v : Nat, x = v → v < ts.length → (rows.getD (npL (l.take q)) []).getD v false = hasP (liveRes ts l ((npL (l.take q) : Nat) : Int)) x := by
  rintro rows hr v rfl hvl
  have hg := fp_graph hv q
  have hnp := npL_take_le l q
  have hpn := npL_len l
  have hp : (ptsP l)[npL (l.take q)]? = some (ptsP l)[npL (l.take q)] := List.getElem?_eq_getElem (by omega)
  have e1 : liveRes ts l ((npL (l.take q) : Nat) : Int) = liveAt ts (ptsP l) (npL (l.take q)) := by unfold liveRes; rw [if_pos hg]; rfl
  rw [e1, liveAt_has hp hvl]
  show rget rows _ v = _
  rw [Bool.eq_iff_iff, hr, List.any_eq_true]
  constructor
  · rintro ⟨p, hp2, k, hk, hd⟩
    rw [hp] at hp2
    injection hp2 with hp2
    subst hp2
    exact ⟨k, hk, dec_true hd⟩
  · rintro ⟨k, hk, hd⟩
    exact ⟨_, hp, k, hk, dec_iff.1 hd⟩
/-- a dead statement dropped, for a reader -/
def DdRet (w : World) (ts : List Int) (l : List St) (k : Int) (e : Ending) (w' : World) : Prop :=
  ∃ vt vb, e = .returned (.tuple #[.agg #[vt, vb], .bool (ddOk ts l k)]) ∧ IntS w' w'.heap.size vt (if ddOk ts l k then ts else []) ∧ StS w' w'.heap.size vb (if ddOk ts l k then l.eraseIdx k.toNat else []) ∧ Below w.heap.size w w'
set_option maxHeartbeats 8000000 in
set_option maxRecDepth 100000 in
theorem sDropDead_any (vt vb : Value) (ts : List Int) (l : List St) (k : Int) (B : Nat) (w : World) (ht : IntS w B vt ts) (hl : StS w B vb l) (hB : B ≤ w.heap.size) (hsz : szL l ≤ 4194000) :
    Calls Try.prog 31 #[.agg #[vt, vb], .int .i64 k] w (DdRet w ts l k) := by
  have hll := len_le_szL l
  have ht0 := ht
  obtain ⟨At, ct, rfl, -⟩ := ht0
  obtain ⟨Ab, cb, rfl, -⟩ := hl.slice
  have HX := Lib.hid ((RowB.new w [.slice At ts.length ct, .slice Ab l.length cb] 26).alloc (.cells #[.slice none 0 0, .slice none 0 0] 26))
  have HR := Lib.hid (RowB.new (w.alloc (.cells #[.slice At ts.length ct, .slice Ab l.length cb] 26)) [.slice none 0 0, .slice none 0 0] 26)
  have hz1 : (w.alloc (.cells #[.slice At ts.length ct, .slice Ab l.length cb] 26)).heap.size = w.heap.size + 1 := by simp
  rw [hz1] at HR
  have HB0 := Lib.hid ((bel_a w (.cells #[.slice At ts.length ct, .slice Ab l.length cb] 26)).alloc (by simp) (.cells #[.slice none 0 0, .slice none 0 0] 26))
  have HT := Lib.hid ht
  have HL := Lib.hid hl
  clear hz1 ht hl
  go_enter Try.func31, Try.ntmps31
  go_upto_region 1 with (at_builtin; fail)
  generalize (w.alloc (.cells #[.slice At ts.length ct, .slice Ab l.length cb] 26)).alloc (.cells #[.slice none 0 0, .slice none 0 0] 26) = W at *
  have x0 := HX.out.cell 0
  have x1 := HX.out.cell 1
  simp only [List.getElem?_cons_zero, List.getElem?_cons_succ] at x0 x1
  have hs0 := HB0.out.size
  have hr0 := HR.out.lt
  have hx0 := HX.out.lt
  have NO : Hid (∀ W', Below w.heap.size w W' → ddOk ts l k = false → DdRet w ts l k (.returned (.tuple #[.agg #[.slice none 0 0, .slice none 0 0], .bool false])) (W'.setCells (w.heap.size + 1) 0 [.slice none 0 0, .slice none 0 0])) := Lib.hid fun W' hb hno => by
    have hB7 := hb.trans (below_putL (B := w.heap.size) (g := w.heap.size + 1) (by omega) [.slice none 0 0, .slice none 0 0] 0 W')
    refine ⟨_, _, by rw [hno], ?_, ?_, hB7⟩ <;> rw [hno]
    · exact IntS.nil' _ _ _ _
    · exact (DT.nil (w := W'.setCells (w.heap.size + 1) 0 [.slice none 0 0, .slice none 0 0]) fun _ => True).toS
  go_wp2_with (at_builtin; fail)
  refine (sProgramValid_any _ _ ts l B W (HT.out.low HB0.out hB) (HL.out.low HB0.out hB) (by omega) (by omega)).mono ?_
  rintro e w1 ⟨rfl, hb1⟩
  have HB1 := Lib.hid (HB0.out.trans (hb1.mono hs0))
  have HX1 := Lib.hid (HX.out.low hb1 hx0)
  have HR1 := Lib.hid (HR.out.low hb1 hr0)
  clear hb1 x0 x1
  have x0 := HX1.out.cell 0
  have x1 := HX1.out.cell 1
  have r0 := HR1.out.cell 0
  have r1 := HR1.out.cell 1
  have rf0 := HR1.out.frozen 0
  have rf1 := HR1.out.frozen 1
  simp only [List.getElem?_cons_zero, List.getElem?_cons_succ] at x0 x1 r0 r1
  have HR7 : Hid (RowB (w1.setCells (w.heap.size + 1) 0 [.slice none 0 0, .slice none 0 0]) (w.heap.size + 1) 26 _) := Lib.hid (HR1.out.putAll _ rfl)
  cases hv : validP ts l
  · have HNO := Lib.hid (NO.out w1 HB1.out (dd_no (by unfold drOk; rw [hv]; rfl)))
    clear hv
    go_wp2_with (at_builtin; fail)
    exact bodyPost_ret (res_box (p := 4) (u := 5) (ty := 26) rfl _ _ (w.heap.size + 1) 26 _ (0, 0) _ rfl HR7.out Try.underlying26 rfl rfl) rfl HNO.out
  · have HV := Lib.hid hv
    have h6 := valid_ts hv
    clear hv
    by_cases hk0 : k < 0
    · have HNO := Lib.hid (NO.out w1 HB1.out (dd_no (by unfold drOk withinP; simp; omega)))
      go_wp2_with (at_builtin; fail)
      exact bodyPost_ret (res_box (p := 4) (u := 5) (ty := 26) rfl _ _ (w.heap.size + 1) 26 _ (0, 0) _ rfl HR7.out Try.underlying26 rfl rfl) rfl HNO.out
    · by_cases hkl : (l.length : Int) ≤ k
      · have HNO := Lib.hid (NO.out w1 HB1.out (dd_no (by unfold drOk withinP; simp; omega)))
        go_wp2_with (at_builtin; fail)
        exact bodyPost_ret (res_box (p := 4) (u := 5) (ty := 26) rfl _ _ (w.heap.size + 1) 26 _ (0, 0) _ rfl HR7.out Try.underlying26 rfl rfl) rfl HNO.out
      · have HOK : Hid (drOk ts l k = true) := Lib.hid (by unfold drOk withinP; rw [HV.out]; simp; omega)
        obtain ⟨q, rfl⟩ : ∃ q : Nat, k = q := ⟨k.toNat, by omega⟩
        have hql : q < l.length := by omega
        have hx1 := HX1.out.lt
        have hr1 := HR1.out.lt
        have hs1 := HB1.out.size
        have HSO := Lib.hid (move_y HV.out hql)
        have HSX := Lib.hid (valid_dead HV.out hql)
        have HDD := Lib.hid (dd_eq HOK.out hql)
        obtain ⟨b, off, tv, ev, rfl, hb, hth, hel, c0, c1, c2, c3, c4, c5⟩ := (HL.out.low HB1.out hB).get hql
        obtain ⟨A4, n4, rfl, -⟩ := hth.slice
        obtain ⟨A5, n5, rfl, -⟩ := hel.slice
        have HQL := Lib.hid hql
        generalize l[q]'hql = s at *
        have HX5 := Lib.hid (RowB.new w1 [.int .i64 s.op, .int .i64 s.x, .int .i64 s.y, .int .i64 s.n, .slice A4 s.th.length n4, .slice A5 s.el.length n5] 87)
        have HB5 := Lib.hid (bel_a w1 (.cells #[.int .i64 s.op, .int .i64 s.x, .int .i64 s.y, .int .i64 s.n, .slice A4 s.th.length n4, .slice A5 s.el.length n5] 87))
        clear hth hel HR7
        go_upto_region 4 with (at_builtin; fail)
        clear c0 c1 c2 c3 c4 c5
        generalize w1.alloc (.cells #[.int .i64 s.op, .int .i64 s.x, .int .i64 s.y, .int .i64 s.n, .slice A4 s.th.length n4, .slice A5 s.el.length n5] 87) = w4 at *
        obtain ⟨g6, hg6⟩ : ∃ g6, g6 = w1.heap.size := ⟨_, rfl⟩
        rw [← hg6] at HX5 HB5 hx1 hr1 hs1 ⊢
        clear hg6
        have HX4 := Lib.hid (HX1.out.low HB5.out hx1)
        have HR4 := Lib.hid (HR1.out.low HB5.out hr1)
        have HB4 := Lib.hid (HB1.out.trans (HB5.out.mono hs1))
        clear x0 x1 r0 r1 rf0 rf1
        have x0 := HX4.out.cell 0
        have x1 := HX4.out.cell 1
        simp only [List.getElem?_cons_zero, List.getElem?_cons_succ] at x0 x1
        go_wp2_with (at_builtin; fail)
        refine (l11First_any _ _ ts l q B w4 (HT.out.low HB4.out hB) (HL.out.low HB4.out hB) (by have := HB4.out.size; omega) (by omega) (by omega) (by omega)).mono ?_
        rintro e w5 ⟨rfl, hb5⟩
        have hx4 := HX4.out.lt
        have hr4 := HR4.out.lt
        have hu4 := HX5.out.lt
        have hs4 := HB4.out.size
        have HX2 := Lib.hid (HX4.out.low hb5 hx4)
        have HR2 := Lib.hid (HR4.out.low hb5 hr4)
        have HX5 := Lib.hid (HX5.out.low hb5 hu4)
        have HB2 := Lib.hid (HB4.out.trans (hb5.mono hs4))
        clear hb5 x0 x1
        have x0 := HX2.out.cell 0
        have x1 := HX2.out.cell 1
        have r0 := HR2.out.cell 0
        have r1 := HR2.out.cell 1
        have rf0 := HR2.out.frozen 0
        have rf1 := HR2.out.frozen 1
        have u0 := HX5.out.cell 0
        have u1 := HX5.out.cell 1
        have u2 := HX5.out.cell 2
        simp only [List.getElem?_cons_zero, List.getElem?_cons_succ] at x0 x1 r0 r1 u0 u1 u2
        have hx2 := HX2.out.lt
        have hr2 := HR2.out.lt
        have hu2 := HX5.out.lt
        have hsz2 := HB2.out.size
        have hnp := npL_take_le l q
        have hpn := npL_len l
        have HLV := Lib.hid (live_has (ts := ts) (l := l) HV.out q s.x)
        obtain ⟨np, hnpe⟩ : ∃ np, np = npL (l.take q) := ⟨_, rfl⟩
        rw [← hnpe] at hnp HLV HDD ⊢
        clear hnpe
        by_cases h1 : s.op = 1
        · have HDB : deadB ts s = true := by unfold deadB; rw [h1]; rfl
          have hq1 : (s.op == 1) = true := by rw [h1]; rfl
          obtain ⟨hxv1, hxv2⟩ := HSX.out HDB
          obtain ⟨xv, hxv⟩ : ∃ xv : Nat, s.x = xv := ⟨s.x.toNat, by omega⟩
          rw [hxv] at u1 HDD
          have HLV := Lib.hid (fun rows h => HLV.out rows h xv hxv (by omega))
          rw [hxv] at HLV
          have hxv3 : (xv : Int) < (ts.length : Int) := by omega
          have hxv2 : xv < ts.length := by omega
          clear hxv1
          cases hh : hasP (liveRes ts l ((np : Nat) : Int)) ((xv : Nat) : Int)
          · have HH := Lib.hid hh
            rw [hh] at HLV
            clear hh
            have BEL : Hid (∀ w', w'.cell? ⟨w.heap.size, 0, none⟩ = some (.slice At ts.length ct) ∧ w'.cell? ⟨w.heap.size, 1, none⟩ = some (.slice (some ⟨b, off, none⟩) l.length cb) ∧ w'.cell? ⟨g6, 1, none⟩ = some (.int .i64 xv) ∧ Below w5.heap.size w5 w' → Below w5.heap.size w5 w') := Lib.hid fun _ h => h.2.2.2
            go_wp2_with (at_builtin; fail)
            refine wp_region_held_drew (S := (fun w' => w'.cell? ⟨w.heap.size, 0, none⟩ = some (.slice At ts.length ct) ∧ w'.cell? ⟨w.heap.size, 1, none⟩ = some (.slice (some ⟨b, off, none⟩) l.length cb) ∧ w'.cell? ⟨g6, 1, none⟩ = some (.int .i64 xv) ∧ Below w5.heap.size w5 w')) (by kernel_rfl) ?_ (fun hHeld => ?_)
            · exact ⟨x0, x1, u1, (Below.refl _ _).drew⟩
            refine wpAnyH_take (i := 0) (oi := ⟨some 73, _, _, _, _, _⟩) (v := ?_) rfl (by kernel_rfl) (by kernel_rfl) (by kernel_rfl) (fun _ _ _ h => h) (Or.inl ⟨by rfl, fun w' hSw => ?_⟩) (by assumption) ?_
            rotate_left
            · (try dsimp only at hSw); go_simp; (try with_reducible rfl)
            (try simp only [Act.put, List.setIfInBounds_toArray, List.set_cons_zero, List.set_cons_succ])
            refine wpAnyH_take (i := 1) (oi := ⟨some 74, _, _, _, _, _⟩) (v := ?_) rfl (by kernel_rfl) (by kernel_rfl) (by kernel_rfl) (fun _ _ _ h => h) (Or.inl ⟨by rfl, fun w' hSw => ?_⟩) (by assumption) ?_
            rotate_left
            · (try dsimp only at hSw); go_simp; (try with_reducible rfl)
            (try simp only [Act.put, List.setIfInBounds_toArray, List.set_cons_zero, List.set_cons_succ])
            refine wpAnyH_take (i := 2) (oi := ⟨some 75, _, _, _, _, _⟩) (v := ?_) rfl (by kernel_rfl) (by kernel_rfl) (by kernel_rfl) (fun _ _ _ h => h) (Or.inl ⟨by rfl, fun w' hSw => ?_⟩) (by assumption) ?_
            rotate_left
            · (try dsimp only at hSw); go_simp; (try with_reducible rfl)
            (try simp only [Act.put, List.setIfInBounds_toArray, List.set_cons_zero, List.set_cons_succ])
            refine wpAnyH_take (i := 3) (oi := ⟨some 76, _, _, _, _, _⟩) (v := ?_) rfl (by kernel_rfl) (by kernel_rfl) (by kernel_rfl) (fun _ _ _ h => h) (Or.inl ⟨by rfl, fun w' hSw => ?_⟩) (by assumption) ?_
            rotate_left
            · (try dsimp only at hSw); go_simp; (try with_reducible rfl)
            (try simp only [Act.put, List.setIfInBounds_toArray, List.set_cons_zero, List.set_cons_succ])
            refine wpAnyH_take (i := 5) (oi := ⟨some 78, _, _, _, _, _⟩) (v := ?_) rfl (by kernel_rfl) (by kernel_rfl) (by kernel_rfl) (fun _ _ _ h => h) (Or.inl ⟨by rfl, fun w' hSw => ?_⟩) (by assumption) ?_
            rotate_left
            · (try dsimp only at hSw); go_simp; (try with_reducible rfl)
            (try simp only [Act.put, List.setIfInBounds_toArray, List.set_cons_zero, List.set_cons_succ])
            refine wpAnyH_take (i := 8) (oi := ⟨some 81, _, _, _, _, _⟩) (v := ?_) rfl (by kernel_rfl) (by kernel_rfl) (by kernel_rfl) (fun _ _ _ h => h) (Or.inl ⟨by rfl, fun w' hSw => ?_⟩) (by assumption) ?_
            rotate_left
            · (try dsimp only at hSw); go_simp; (try with_reducible rfl)
            (try simp only [Act.put, List.setIfInBounds_toArray, List.set_cons_zero, List.set_cons_succ])
            refine wpAnyH_take (i := 9) (oi := ⟨some 82, _, _, _, _, _⟩) (v := ?_) rfl (by kernel_rfl) (by kernel_rfl) (by kernel_rfl) (fun _ _ _ h => h) (Or.inl ⟨by rfl, fun w' hSw => ?_⟩) (by assumption) ?_
            rotate_left
            · (try dsimp only at hSw); go_simp; (try with_reducible rfl)
            (try simp only [Act.put, List.setIfInBounds_toArray, List.set_cons_zero, List.set_cons_succ])
            refine wpAnyH_ready (rs := [4]) (by kernel_rfl) (by simp) ?_
            refine AllReadyH.cons (o := ⟨some 77, _, _, _, _, _⟩) rfl (fun K hK => ?_) AllReadyH.nil
            go_simp
            (have BY := (BEL.out _ (by assumption)))
            (refine (l3Live_any _ _ ts l B _ (HT.out.low (HB2.out.trans (BY.mono hsz2)) hB) (HL.out.low (HB2.out.trans (BY.mono hsz2)) hB) (by have := BY.size; omega) HV.out).mono ?_)
            (rintro e w7 ⟨v7, rb7, rows7, base7, rfl, hbs7, hbr7, hl7, hi7, hrg7, hb7⟩)
            (have BX7 := Lib.hid (BY.trans (hb7.mono BY.size)))
            (have hk7 : np < rows7.length := by rw [hl7]; omega)
            (obtain ⟨g7, c7, rfl, hg71, hg72, hrc7, hcell7, -⟩ := hbr7.form (by omega))
            (have hck7 := hcell7 np hk7)
            (have hrow7 := (hbr7.row np hk7).1)
            (have hlk7 := hi7 np hk7)
            (obtain ⟨gr, hgr⟩ : ∃ gr, gr = rb7.getD np 0 := ⟨_, rfl⟩)
            (rw [← hgr] at hck7 hrow7)
            clear hgr
            (have hk71 : (np : Int) < (rows7.length : Int) := by omega)
            (have hcx7 := row_bool hrow7 (v := xv) (by rw [hlk7]; exact hxv2))
            (rw [HLV.out rows7 hrg7] at hcx7)
            clear hbr7 hl7 hi7 hrg7 hb7 hcell7 hrow7 hlk7 BY
            go_simp
            refine hK.out _ _ ?_ (fun hHeld => ?_)
            · exact ⟨(BX7.out.cell (p := ⟨w.heap.size, 0, none⟩) hx2).trans x0, (BX7.out.cell (p := ⟨w.heap.size, 1, none⟩) hx2).trans x1, (BX7.out.cell (p := ⟨g6, 1, none⟩) hu2).trans u1, BX7.out⟩
            clear hK K
            (try simp only [Act.put, List.setIfInBounds_toArray, List.set_cons_zero, List.set_cons_succ])
            refine wpAnyH_take (i := 6) (oi := ⟨some 79, _, _, _, _, _⟩) (v := ?_) rfl (by kernel_rfl) (by kernel_rfl) (by kernel_rfl) (fun _ _ _ h => h) (Or.inl ⟨by rfl, fun w' hSw => ?_⟩) (by assumption) ?_
            rotate_left
            · (try dsimp only at hSw); go_simp; (try with_reducible rfl)
            (try simp only [Act.put, List.setIfInBounds_toArray, List.set_cons_zero, List.set_cons_succ])
            refine wpAnyH_ready (rs := [7]) (by kernel_rfl) (by simp) ?_
            refine AllReadyH.cons (o := ⟨some 80, _, _, _, _, _⟩) rfl (fun K hK => ?_) AllReadyH.nil
            go_simp
            skip
            refine hK.out _ _ ?_ (fun hHeld => ?_)
            · assumption
            clear hK K
            (try simp only [Act.put, List.setIfInBounds_toArray, List.set_cons_zero, List.set_cons_succ])
            refine wpAnyH_take (i := 10) (oi := ⟨some 83, _, _, _, _, _⟩) (v := ?_) rfl (by kernel_rfl) (by kernel_rfl) (by kernel_rfl) (fun _ _ _ h => h) (Or.inl ⟨by rfl, fun w' hSw => ?_⟩) (by assumption) ?_
            rotate_left
            · (try dsimp only at hSw); go_simp; (try with_reducible rfl)
            (try simp only [Act.put, List.setIfInBounds_toArray, List.set_cons_zero, List.set_cons_succ])
            refine wpAnyH_ready (rs := [11]) (by kernel_rfl) (by simp) ?_
            refine AllReadyH.cons (o := ⟨some 84, _, _, _, _, _⟩) rfl (fun K hK => ?_) AllReadyH.nil
            go_simp
            skip
            refine hK.out _ _ ?_ (fun hHeld => ?_)
            · assumption
            clear hK K
            (try simp only [Act.put, List.setIfInBounds_toArray, List.set_cons_zero, List.set_cons_succ])
            refine wpAnyH_take (i := 12) (oi := ⟨some 85, _, _, _, _, _⟩) (v := ?_) rfl (by kernel_rfl) (by kernel_rfl) (by kernel_rfl) (fun _ _ _ h => h) (Or.inl ⟨by rfl, fun w' hSw => ?_⟩) (by assumption) ?_
            rotate_left
            · (try dsimp only at hSw); go_simp; (try with_reducible rfl)
            (try simp only [Act.put, List.setIfInBounds_toArray, List.set_cons_zero, List.set_cons_succ])
            refine wpAnyH_done (by kernel_rfl) ?_ _
            have HRZ := Lib.hid (HR2.out.low BX7.out hr2)
            have HBZ := Lib.hid (HB2.out.trans (BX7.out.mono hsz2))
            clear x0 x1 r0 r1 rf0 rf1 u0 u1 u2 BEL hHeld hck7 hcx7
            have x0 := (BX7.out.cell (p := ⟨w.heap.size, 0, none⟩) hx2).trans (HX2.out.cell 0)
            have x1 := (BX7.out.cell (p := ⟨w.heap.size, 1, none⟩) hx2).trans (HX2.out.cell 1)
            have r0 := HRZ.out.cell 0
            have r1 := HRZ.out.cell 1
            have rf0 := HRZ.out.frozen 0
            have rf1 := HRZ.out.frozen 1
            simp only [List.getElem?_cons_zero, List.getElem?_cons_succ] at x0 x1 r0 r1
            have HYES : Hid (ddOk ts l (q : Int) = true) := Lib.hid (by rw [HDD.out, HH.out, HDB]; rfl)
            go_wp2_with (at_builtin; fail)
            refine (sDropStmt_any _ _ ts l (q : Int) B w7 (HT.out.low HBZ.out hB) (HL.out.low HBZ.out hB) (by have := HBZ.out.size; omega) hsz).mono ?_
            rintro e w9 ⟨vt3, vb3, rfl, hoi, hdt, hb3⟩
            rw [HOK.out] at hoi hdt
            simp only [if_true, Int.toNat_natCast] at hoi hdt
            have hsz7 := HBZ.out.size
            have hrz := HRZ.out.lt
            have HB9 := Lib.hid (HBZ.out.trans (hb3.mono hsz7))
            have HR9 := Lib.hid (HRZ.out.low hb3 hrz)
            have HOI := Lib.hid hoi
            have HDT := Lib.hid hdt
            obtain ⟨A8, c8, rfl, -, -, -⟩ := id hoi
            obtain ⟨A9, c9, rfl, -⟩ := hdt.slice
            have HL2 : Hid ((if ddOk ts l (q : Int) then l.eraseIdx (q : Int).toNat else []) = l.eraseIdx q) := Lib.hid (by rw [HYES.out]; rfl)
            have HT2 : Hid ((if ddOk ts l (q : Int) then ts else []) = ts) := Lib.hid (by rw [HYES.out]; rfl)
            generalize l.eraseIdx q = l2 at *
            rw [HOK.out]
            clear x0 x1 r0 r1 rf0 rf1 hb3 hoi hdt
            have r0 := HR9.out.cell 0
            have r1 := HR9.out.cell 1
            have rf0 := HR9.out.frozen 0
            have rf1 := HR9.out.frozen 1
            simp only [List.getElem?_cons_zero, List.getElem?_cons_succ] at r0 r1
            go_wp2_with (at_builtin; fail)
            have HR7 : RowB (w9.setCells (w.heap.size + 1) 0 [.slice A8 ts.length c8, .slice A9 l2.length c9]) (w.heap.size + 1) 26 _ := HR9.out.putAll _ rfl
            have HB7 := HB9.out.trans (below_putL (B := w.heap.size) (g := w.heap.size + 1) (by omega) [.slice A8 ts.length c8, .slice A9 l2.length c9] 0 w9)
            have hz7 : (w9.setCells (w.heap.size + 1) 0 [.slice A8 ts.length c8, .slice A9 l2.length c9]).heap.size = w9.heap.size := size_putL _ _ _
            have hf7 := IntS.setBox HOI.out HR9.out [.slice A8 ts.length c8, .slice A9 l2.length c9]
            have hf8 := StS.setBox HDT.out HR9.out [.slice A8 ts.length c8, .slice A9 l2.length c9]
            rw [← hz7] at hf7 hf8
            exact bodyPost_ret (res_box (p := 4) (u := 5) (ty := 26) rfl _ _ (w.heap.size + 1) 26 _ (0, 0) _ rfl HR7 Try.underlying26 rfl rfl) rfl ⟨_, _, by rw [HYES.out]; rfl, by rw [HT2.out]; exact hf7, by rw [HL2.out]; exact hf8, HB7⟩
          · have HH := Lib.hid hh
            rw [hh] at HLV
            clear hh
            have BEL : Hid (∀ w', w'.cell? ⟨w.heap.size, 0, none⟩ = some (.slice At ts.length ct) ∧ w'.cell? ⟨w.heap.size, 1, none⟩ = some (.slice (some ⟨b, off, none⟩) l.length cb) ∧ w'.cell? ⟨g6, 1, none⟩ = some (.int .i64 xv) ∧ Below w5.heap.size w5 w' → Below w5.heap.size w5 w') := Lib.hid fun _ h => h.2.2.2
            go_wp2_with (at_builtin; fail)
            refine wp_region_held_drew (S := (fun w' => w'.cell? ⟨w.heap.size, 0, none⟩ = some (.slice At ts.length ct) ∧ w'.cell? ⟨w.heap.size, 1, none⟩ = some (.slice (some ⟨b, off, none⟩) l.length cb) ∧ w'.cell? ⟨g6, 1, none⟩ = some (.int .i64 xv) ∧ Below w5.heap.size w5 w')) (by kernel_rfl) ?_ (fun hHeld => ?_)
            · exact ⟨x0, x1, u1, (Below.refl _ _).drew⟩
            refine wpAnyH_take (i := 0) (oi := ⟨some 73, _, _, _, _, _⟩) (v := ?_) rfl (by kernel_rfl) (by kernel_rfl) (by kernel_rfl) (fun _ _ _ h => h) (Or.inl ⟨by rfl, fun w' hSw => ?_⟩) (by assumption) ?_
            rotate_left
            · (try dsimp only at hSw); go_simp; (try with_reducible rfl)
            (try simp only [Act.put, List.setIfInBounds_toArray, List.set_cons_zero, List.set_cons_succ])
            refine wpAnyH_take (i := 1) (oi := ⟨some 74, _, _, _, _, _⟩) (v := ?_) rfl (by kernel_rfl) (by kernel_rfl) (by kernel_rfl) (fun _ _ _ h => h) (Or.inl ⟨by rfl, fun w' hSw => ?_⟩) (by assumption) ?_
            rotate_left
            · (try dsimp only at hSw); go_simp; (try with_reducible rfl)
            (try simp only [Act.put, List.setIfInBounds_toArray, List.set_cons_zero, List.set_cons_succ])
            refine wpAnyH_take (i := 2) (oi := ⟨some 75, _, _, _, _, _⟩) (v := ?_) rfl (by kernel_rfl) (by kernel_rfl) (by kernel_rfl) (fun _ _ _ h => h) (Or.inl ⟨by rfl, fun w' hSw => ?_⟩) (by assumption) ?_
            rotate_left
            · (try dsimp only at hSw); go_simp; (try with_reducible rfl)
            (try simp only [Act.put, List.setIfInBounds_toArray, List.set_cons_zero, List.set_cons_succ])
            refine wpAnyH_take (i := 3) (oi := ⟨some 76, _, _, _, _, _⟩) (v := ?_) rfl (by kernel_rfl) (by kernel_rfl) (by kernel_rfl) (fun _ _ _ h => h) (Or.inl ⟨by rfl, fun w' hSw => ?_⟩) (by assumption) ?_
            rotate_left
            · (try dsimp only at hSw); go_simp; (try with_reducible rfl)
            (try simp only [Act.put, List.setIfInBounds_toArray, List.set_cons_zero, List.set_cons_succ])
            refine wpAnyH_take (i := 5) (oi := ⟨some 78, _, _, _, _, _⟩) (v := ?_) rfl (by kernel_rfl) (by kernel_rfl) (by kernel_rfl) (fun _ _ _ h => h) (Or.inl ⟨by rfl, fun w' hSw => ?_⟩) (by assumption) ?_
            rotate_left
            · (try dsimp only at hSw); go_simp; (try with_reducible rfl)
            (try simp only [Act.put, List.setIfInBounds_toArray, List.set_cons_zero, List.set_cons_succ])
            refine wpAnyH_take (i := 8) (oi := ⟨some 81, _, _, _, _, _⟩) (v := ?_) rfl (by kernel_rfl) (by kernel_rfl) (by kernel_rfl) (fun _ _ _ h => h) (Or.inl ⟨by rfl, fun w' hSw => ?_⟩) (by assumption) ?_
            rotate_left
            · (try dsimp only at hSw); go_simp; (try with_reducible rfl)
            (try simp only [Act.put, List.setIfInBounds_toArray, List.set_cons_zero, List.set_cons_succ])
            refine wpAnyH_take (i := 9) (oi := ⟨some 82, _, _, _, _, _⟩) (v := ?_) rfl (by kernel_rfl) (by kernel_rfl) (by kernel_rfl) (fun _ _ _ h => h) (Or.inl ⟨by rfl, fun w' hSw => ?_⟩) (by assumption) ?_
            rotate_left
            · (try dsimp only at hSw); go_simp; (try with_reducible rfl)
            (try simp only [Act.put, List.setIfInBounds_toArray, List.set_cons_zero, List.set_cons_succ])
            refine wpAnyH_ready (rs := [4]) (by kernel_rfl) (by simp) ?_
            refine AllReadyH.cons (o := ⟨some 77, _, _, _, _, _⟩) rfl (fun K hK => ?_) AllReadyH.nil
            go_simp
            (have BY := (BEL.out _ (by assumption)))
            (refine (l3Live_any _ _ ts l B _ (HT.out.low (HB2.out.trans (BY.mono hsz2)) hB) (HL.out.low (HB2.out.trans (BY.mono hsz2)) hB) (by have := BY.size; omega) HV.out).mono ?_)
            (rintro e w7 ⟨v7, rb7, rows7, base7, rfl, hbs7, hbr7, hl7, hi7, hrg7, hb7⟩)
            (have BX7 := Lib.hid (BY.trans (hb7.mono BY.size)))
            (have hk7 : np < rows7.length := by rw [hl7]; omega)
            (obtain ⟨g7, c7, rfl, hg71, hg72, hrc7, hcell7, -⟩ := hbr7.form (by omega))
            (have hck7 := hcell7 np hk7)
            (have hrow7 := (hbr7.row np hk7).1)
            (have hlk7 := hi7 np hk7)
            (obtain ⟨gr, hgr⟩ : ∃ gr, gr = rb7.getD np 0 := ⟨_, rfl⟩)
            (rw [← hgr] at hck7 hrow7)
            clear hgr
            (have hk71 : (np : Int) < (rows7.length : Int) := by omega)
            (have hcx7 := row_bool hrow7 (v := xv) (by rw [hlk7]; exact hxv2))
            (rw [HLV.out rows7 hrg7] at hcx7)
            clear hbr7 hl7 hi7 hrg7 hb7 hcell7 hrow7 hlk7 BY
            go_simp
            refine hK.out _ _ ?_ (fun hHeld => ?_)
            · exact ⟨(BX7.out.cell (p := ⟨w.heap.size, 0, none⟩) hx2).trans x0, (BX7.out.cell (p := ⟨w.heap.size, 1, none⟩) hx2).trans x1, (BX7.out.cell (p := ⟨g6, 1, none⟩) hu2).trans u1, BX7.out⟩
            clear hK K
            (try simp only [Act.put, List.setIfInBounds_toArray, List.set_cons_zero, List.set_cons_succ])
            refine wpAnyH_take (i := 6) (oi := ⟨some 79, _, _, _, _, _⟩) (v := ?_) rfl (by kernel_rfl) (by kernel_rfl) (by kernel_rfl) (fun _ _ _ h => h) (Or.inl ⟨by rfl, fun w' hSw => ?_⟩) (by assumption) ?_
            rotate_left
            · (try dsimp only at hSw); go_simp; (try with_reducible rfl)
            (try simp only [Act.put, List.setIfInBounds_toArray, List.set_cons_zero, List.set_cons_succ])
            refine wpAnyH_ready (rs := [7]) (by kernel_rfl) (by simp) ?_
            refine AllReadyH.cons (o := ⟨some 80, _, _, _, _, _⟩) rfl (fun K hK => ?_) AllReadyH.nil
            go_simp
            skip
            refine hK.out _ _ ?_ (fun hHeld => ?_)
            · assumption
            clear hK K
            (try simp only [Act.put, List.setIfInBounds_toArray, List.set_cons_zero, List.set_cons_succ])
            refine wpAnyH_take (i := 10) (oi := ⟨some 83, _, _, _, _, _⟩) (v := ?_) rfl (by kernel_rfl) (by kernel_rfl) (by kernel_rfl) (fun _ _ _ h => h) (Or.inl ⟨by rfl, fun w' hSw => ?_⟩) (by assumption) ?_
            rotate_left
            · (try dsimp only at hSw); go_simp; (try with_reducible rfl)
            (try simp only [Act.put, List.setIfInBounds_toArray, List.set_cons_zero, List.set_cons_succ])
            refine wpAnyH_ready (rs := [11]) (by kernel_rfl) (by simp) ?_
            refine AllReadyH.cons (o := ⟨some 84, _, _, _, _, _⟩) rfl (fun K hK => ?_) AllReadyH.nil
            go_simp
            skip
            refine hK.out _ _ ?_ (fun hHeld => ?_)
            · assumption
            clear hK K
            (try simp only [Act.put, List.setIfInBounds_toArray, List.set_cons_zero, List.set_cons_succ])
            refine wpAnyH_take (i := 12) (oi := ⟨some 85, _, _, _, _, _⟩) (v := ?_) rfl (by kernel_rfl) (by kernel_rfl) (by kernel_rfl) (fun _ _ _ h => h) (Or.inl ⟨by rfl, fun w' hSw => ?_⟩) (by assumption) ?_
            rotate_left
            · (try dsimp only at hSw); go_simp; (try with_reducible rfl)
            (try simp only [Act.put, List.setIfInBounds_toArray, List.set_cons_zero, List.set_cons_succ])
            refine wpAnyH_done (by kernel_rfl) ?_ _
            have HRZ := Lib.hid (HR2.out.low BX7.out hr2)
            have HBZ := Lib.hid (HB2.out.trans (BX7.out.mono hsz2))
            clear x0 x1 r0 r1 rf0 rf1 u0 u1 u2 BEL hHeld hck7 hcx7
            have x0 := (BX7.out.cell (p := ⟨w.heap.size, 0, none⟩) hx2).trans (HX2.out.cell 0)
            have x1 := (BX7.out.cell (p := ⟨w.heap.size, 1, none⟩) hx2).trans (HX2.out.cell 1)
            have r0 := HRZ.out.cell 0
            have r1 := HRZ.out.cell 1
            have rf0 := HRZ.out.frozen 0
            have rf1 := HRZ.out.frozen 1
            simp only [List.getElem?_cons_zero, List.getElem?_cons_succ] at x0 x1 r0 r1
            have HNO := Lib.hid (NO.out w7 HBZ.out (by rw [HDD.out, HH.out]; simp))
            go_wp2_with (at_builtin; fail)
            have HR7 : RowB (w7.setCells (w.heap.size + 1) 0 [.slice none 0 0, .slice none 0 0]) (w.heap.size + 1) 26 _ := HRZ.out.putAll _ rfl
            exact bodyPost_ret (res_box (p := 4) (u := 5) (ty := 26) rfl _ _ (w.heap.size + 1) 26 _ (0, 0) _ rfl HR7 Try.underlying26 rfl rfl) rfl HNO.out
        · have hq1 : (s.op == 1) = false := by simpa using h1
          by_cases h6 : s.op = 6
          · have HDB : deadB ts s = true := by unfold deadB; rw [h6]; rfl
            have hq6 : (s.op == 6) = true := by rw [h6]; rfl
            obtain ⟨hxv1, hxv2⟩ := HSX.out HDB
            obtain ⟨xv, hxv⟩ : ∃ xv : Nat, s.x = xv := ⟨s.x.toNat, by omega⟩
            rw [hxv] at u1 HDD
            have HLV := Lib.hid (fun rows h => HLV.out rows h xv hxv (by omega))
            rw [hxv] at HLV
            have hxv3 : (xv : Int) < (ts.length : Int) := by omega
            have hxv2 : xv < ts.length := by omega
            clear hxv1
            cases hh : hasP (liveRes ts l ((np : Nat) : Int)) ((xv : Nat) : Int)
            · have HH := Lib.hid hh
              rw [hh] at HLV
              clear hh
              have BEL : Hid (∀ w', w'.cell? ⟨w.heap.size, 0, none⟩ = some (.slice At ts.length ct) ∧ w'.cell? ⟨w.heap.size, 1, none⟩ = some (.slice (some ⟨b, off, none⟩) l.length cb) ∧ w'.cell? ⟨g6, 1, none⟩ = some (.int .i64 xv) ∧ Below w5.heap.size w5 w' → Below w5.heap.size w5 w') := Lib.hid fun _ h => h.2.2.2
              go_wp2_with (at_builtin; fail)
              refine wp_region_held_drew (S := (fun w' => w'.cell? ⟨w.heap.size, 0, none⟩ = some (.slice At ts.length ct) ∧ w'.cell? ⟨w.heap.size, 1, none⟩ = some (.slice (some ⟨b, off, none⟩) l.length cb) ∧ w'.cell? ⟨g6, 1, none⟩ = some (.int .i64 xv) ∧ Below w5.heap.size w5 w')) (by kernel_rfl) ?_ (fun hHeld => ?_)
              · exact ⟨x0, x1, u1, (Below.refl _ _).drew⟩
              refine wpAnyH_take (i := 0) (oi := ⟨some 73, _, _, _, _, _⟩) (v := ?_) rfl (by kernel_rfl) (by kernel_rfl) (by kernel_rfl) (fun _ _ _ h => h) (Or.inl ⟨by rfl, fun w' hSw => ?_⟩) (by assumption) ?_
              rotate_left
              · (try dsimp only at hSw); go_simp; (try with_reducible rfl)
              (try simp only [Act.put, List.setIfInBounds_toArray, List.set_cons_zero, List.set_cons_succ])
              refine wpAnyH_take (i := 1) (oi := ⟨some 74, _, _, _, _, _⟩) (v := ?_) rfl (by kernel_rfl) (by kernel_rfl) (by kernel_rfl) (fun _ _ _ h => h) (Or.inl ⟨by rfl, fun w' hSw => ?_⟩) (by assumption) ?_
              rotate_left
              · (try dsimp only at hSw); go_simp; (try with_reducible rfl)
              (try simp only [Act.put, List.setIfInBounds_toArray, List.set_cons_zero, List.set_cons_succ])
              refine wpAnyH_take (i := 2) (oi := ⟨some 75, _, _, _, _, _⟩) (v := ?_) rfl (by kernel_rfl) (by kernel_rfl) (by kernel_rfl) (fun _ _ _ h => h) (Or.inl ⟨by rfl, fun w' hSw => ?_⟩) (by assumption) ?_
              rotate_left
              · (try dsimp only at hSw); go_simp; (try with_reducible rfl)
              (try simp only [Act.put, List.setIfInBounds_toArray, List.set_cons_zero, List.set_cons_succ])
              refine wpAnyH_take (i := 3) (oi := ⟨some 76, _, _, _, _, _⟩) (v := ?_) rfl (by kernel_rfl) (by kernel_rfl) (by kernel_rfl) (fun _ _ _ h => h) (Or.inl ⟨by rfl, fun w' hSw => ?_⟩) (by assumption) ?_
              rotate_left
              · (try dsimp only at hSw); go_simp; (try with_reducible rfl)
              (try simp only [Act.put, List.setIfInBounds_toArray, List.set_cons_zero, List.set_cons_succ])
              refine wpAnyH_take (i := 5) (oi := ⟨some 78, _, _, _, _, _⟩) (v := ?_) rfl (by kernel_rfl) (by kernel_rfl) (by kernel_rfl) (fun _ _ _ h => h) (Or.inl ⟨by rfl, fun w' hSw => ?_⟩) (by assumption) ?_
              rotate_left
              · (try dsimp only at hSw); go_simp; (try with_reducible rfl)
              (try simp only [Act.put, List.setIfInBounds_toArray, List.set_cons_zero, List.set_cons_succ])
              refine wpAnyH_take (i := 8) (oi := ⟨some 81, _, _, _, _, _⟩) (v := ?_) rfl (by kernel_rfl) (by kernel_rfl) (by kernel_rfl) (fun _ _ _ h => h) (Or.inl ⟨by rfl, fun w' hSw => ?_⟩) (by assumption) ?_
              rotate_left
              · (try dsimp only at hSw); go_simp; (try with_reducible rfl)
              (try simp only [Act.put, List.setIfInBounds_toArray, List.set_cons_zero, List.set_cons_succ])
              refine wpAnyH_take (i := 9) (oi := ⟨some 82, _, _, _, _, _⟩) (v := ?_) rfl (by kernel_rfl) (by kernel_rfl) (by kernel_rfl) (fun _ _ _ h => h) (Or.inl ⟨by rfl, fun w' hSw => ?_⟩) (by assumption) ?_
              rotate_left
              · (try dsimp only at hSw); go_simp; (try with_reducible rfl)
              (try simp only [Act.put, List.setIfInBounds_toArray, List.set_cons_zero, List.set_cons_succ])
              refine wpAnyH_ready (rs := [4]) (by kernel_rfl) (by simp) ?_
              refine AllReadyH.cons (o := ⟨some 77, _, _, _, _, _⟩) rfl (fun K hK => ?_) AllReadyH.nil
              go_simp
              (have BY := (BEL.out _ (by assumption)))
              (refine (l3Live_any _ _ ts l B _ (HT.out.low (HB2.out.trans (BY.mono hsz2)) hB) (HL.out.low (HB2.out.trans (BY.mono hsz2)) hB) (by have := BY.size; omega) HV.out).mono ?_)
              (rintro e w7 ⟨v7, rb7, rows7, base7, rfl, hbs7, hbr7, hl7, hi7, hrg7, hb7⟩)
              (have BX7 := Lib.hid (BY.trans (hb7.mono BY.size)))
              (have hk7 : np < rows7.length := by rw [hl7]; omega)
              (obtain ⟨g7, c7, rfl, hg71, hg72, hrc7, hcell7, -⟩ := hbr7.form (by omega))
              (have hck7 := hcell7 np hk7)
              (have hrow7 := (hbr7.row np hk7).1)
              (have hlk7 := hi7 np hk7)
              (obtain ⟨gr, hgr⟩ : ∃ gr, gr = rb7.getD np 0 := ⟨_, rfl⟩)
              (rw [← hgr] at hck7 hrow7)
              clear hgr
              (have hk71 : (np : Int) < (rows7.length : Int) := by omega)
              (have hcx7 := row_bool hrow7 (v := xv) (by rw [hlk7]; exact hxv2))
              (rw [HLV.out rows7 hrg7] at hcx7)
              clear hbr7 hl7 hi7 hrg7 hb7 hcell7 hrow7 hlk7 BY
              go_simp
              refine hK.out _ _ ?_ (fun hHeld => ?_)
              · exact ⟨(BX7.out.cell (p := ⟨w.heap.size, 0, none⟩) hx2).trans x0, (BX7.out.cell (p := ⟨w.heap.size, 1, none⟩) hx2).trans x1, (BX7.out.cell (p := ⟨g6, 1, none⟩) hu2).trans u1, BX7.out⟩
              clear hK K
              (try simp only [Act.put, List.setIfInBounds_toArray, List.set_cons_zero, List.set_cons_succ])
              refine wpAnyH_take (i := 6) (oi := ⟨some 79, _, _, _, _, _⟩) (v := ?_) rfl (by kernel_rfl) (by kernel_rfl) (by kernel_rfl) (fun _ _ _ h => h) (Or.inl ⟨by rfl, fun w' hSw => ?_⟩) (by assumption) ?_
              rotate_left
              · (try dsimp only at hSw); go_simp; (try with_reducible rfl)
              (try simp only [Act.put, List.setIfInBounds_toArray, List.set_cons_zero, List.set_cons_succ])
              refine wpAnyH_ready (rs := [7]) (by kernel_rfl) (by simp) ?_
              refine AllReadyH.cons (o := ⟨some 80, _, _, _, _, _⟩) rfl (fun K hK => ?_) AllReadyH.nil
              go_simp
              skip
              refine hK.out _ _ ?_ (fun hHeld => ?_)
              · assumption
              clear hK K
              (try simp only [Act.put, List.setIfInBounds_toArray, List.set_cons_zero, List.set_cons_succ])
              refine wpAnyH_take (i := 10) (oi := ⟨some 83, _, _, _, _, _⟩) (v := ?_) rfl (by kernel_rfl) (by kernel_rfl) (by kernel_rfl) (fun _ _ _ h => h) (Or.inl ⟨by rfl, fun w' hSw => ?_⟩) (by assumption) ?_
              rotate_left
              · (try dsimp only at hSw); go_simp; (try with_reducible rfl)
              (try simp only [Act.put, List.setIfInBounds_toArray, List.set_cons_zero, List.set_cons_succ])
              refine wpAnyH_ready (rs := [11]) (by kernel_rfl) (by simp) ?_
              refine AllReadyH.cons (o := ⟨some 84, _, _, _, _, _⟩) rfl (fun K hK => ?_) AllReadyH.nil
              go_simp
              skip
              refine hK.out _ _ ?_ (fun hHeld => ?_)
              · assumption
              clear hK K
              (try simp only [Act.put, List.setIfInBounds_toArray, List.set_cons_zero, List.set_cons_succ])
              refine wpAnyH_take (i := 12) (oi := ⟨some 85, _, _, _, _, _⟩) (v := ?_) rfl (by kernel_rfl) (by kernel_rfl) (by kernel_rfl) (fun _ _ _ h => h) (Or.inl ⟨by rfl, fun w' hSw => ?_⟩) (by assumption) ?_
              rotate_left
              · (try dsimp only at hSw); go_simp; (try with_reducible rfl)
              (try simp only [Act.put, List.setIfInBounds_toArray, List.set_cons_zero, List.set_cons_succ])
              refine wpAnyH_done (by kernel_rfl) ?_ _
              have HRZ := Lib.hid (HR2.out.low BX7.out hr2)
              have HBZ := Lib.hid (HB2.out.trans (BX7.out.mono hsz2))
              clear x0 x1 r0 r1 rf0 rf1 u0 u1 u2 BEL hHeld hck7 hcx7
              have x0 := (BX7.out.cell (p := ⟨w.heap.size, 0, none⟩) hx2).trans (HX2.out.cell 0)
              have x1 := (BX7.out.cell (p := ⟨w.heap.size, 1, none⟩) hx2).trans (HX2.out.cell 1)
              have r0 := HRZ.out.cell 0
              have r1 := HRZ.out.cell 1
              have rf0 := HRZ.out.frozen 0
              have rf1 := HRZ.out.frozen 1
              simp only [List.getElem?_cons_zero, List.getElem?_cons_succ] at x0 x1 r0 r1
              have HYES : Hid (ddOk ts l (q : Int) = true) := Lib.hid (by rw [HDD.out, HH.out, HDB]; rfl)
              go_wp2_with (at_builtin; fail)
              refine (sDropStmt_any _ _ ts l (q : Int) B w7 (HT.out.low HBZ.out hB) (HL.out.low HBZ.out hB) (by have := HBZ.out.size; omega) hsz).mono ?_
              rintro e w9 ⟨vt3, vb3, rfl, hoi, hdt, hb3⟩
              rw [HOK.out] at hoi hdt
              simp only [if_true, Int.toNat_natCast] at hoi hdt
              have hsz7 := HBZ.out.size
              have hrz := HRZ.out.lt
              have HB9 := Lib.hid (HBZ.out.trans (hb3.mono hsz7))
              have HR9 := Lib.hid (HRZ.out.low hb3 hrz)
              have HOI := Lib.hid hoi
              have HDT := Lib.hid hdt
              obtain ⟨A8, c8, rfl, -, -, -⟩ := id hoi
              obtain ⟨A9, c9, rfl, -⟩ := hdt.slice
              have HL2 : Hid ((if ddOk ts l (q : Int) then l.eraseIdx (q : Int).toNat else []) = l.eraseIdx q) := Lib.hid (by rw [HYES.out]; rfl)
              have HT2 : Hid ((if ddOk ts l (q : Int) then ts else []) = ts) := Lib.hid (by rw [HYES.out]; rfl)
              generalize l.eraseIdx q = l2 at *
              rw [HOK.out]
              clear x0 x1 r0 r1 rf0 rf1 hb3 hoi hdt
              have r0 := HR9.out.cell 0
              have r1 := HR9.out.cell 1
              have rf0 := HR9.out.frozen 0
              have rf1 := HR9.out.frozen 1
              simp only [List.getElem?_cons_zero, List.getElem?_cons_succ] at r0 r1
              go_wp2_with (at_builtin; fail)
              have HR7 : RowB (w9.setCells (w.heap.size + 1) 0 [.slice A8 ts.length c8, .slice A9 l2.length c9]) (w.heap.size + 1) 26 _ := HR9.out.putAll _ rfl
              have HB7 := HB9.out.trans (below_putL (B := w.heap.size) (g := w.heap.size + 1) (by omega) [.slice A8 ts.length c8, .slice A9 l2.length c9] 0 w9)
              have hz7 : (w9.setCells (w.heap.size + 1) 0 [.slice A8 ts.length c8, .slice A9 l2.length c9]).heap.size = w9.heap.size := size_putL _ _ _
              have hf7 := IntS.setBox HOI.out HR9.out [.slice A8 ts.length c8, .slice A9 l2.length c9]
              have hf8 := StS.setBox HDT.out HR9.out [.slice A8 ts.length c8, .slice A9 l2.length c9]
              rw [← hz7] at hf7 hf8
              exact bodyPost_ret (res_box (p := 4) (u := 5) (ty := 26) rfl _ _ (w.heap.size + 1) 26 _ (0, 0) _ rfl HR7 Try.underlying26 rfl rfl) rfl ⟨_, _, by rw [HYES.out]; rfl, by rw [HT2.out]; exact hf7, by rw [HL2.out]; exact hf8, HB7⟩
            · have HH := Lib.hid hh
              rw [hh] at HLV
              clear hh
              have BEL : Hid (∀ w', w'.cell? ⟨w.heap.size, 0, none⟩ = some (.slice At ts.length ct) ∧ w'.cell? ⟨w.heap.size, 1, none⟩ = some (.slice (some ⟨b, off, none⟩) l.length cb) ∧ w'.cell? ⟨g6, 1, none⟩ = some (.int .i64 xv) ∧ Below w5.heap.size w5 w' → Below w5.heap.size w5 w') := Lib.hid fun _ h => h.2.2.2
              go_wp2_with (at_builtin; fail)
              refine wp_region_held_drew (S := (fun w' => w'.cell? ⟨w.heap.size, 0, none⟩ = some (.slice At ts.length ct) ∧ w'.cell? ⟨w.heap.size, 1, none⟩ = some (.slice (some ⟨b, off, none⟩) l.length cb) ∧ w'.cell? ⟨g6, 1, none⟩ = some (.int .i64 xv) ∧ Below w5.heap.size w5 w')) (by kernel_rfl) ?_ (fun hHeld => ?_)
              · exact ⟨x0, x1, u1, (Below.refl _ _).drew⟩
              refine wpAnyH_take (i := 0) (oi := ⟨some 73, _, _, _, _, _⟩) (v := ?_) rfl (by kernel_rfl) (by kernel_rfl) (by kernel_rfl) (fun _ _ _ h => h) (Or.inl ⟨by rfl, fun w' hSw => ?_⟩) (by assumption) ?_
              rotate_left
              · (try dsimp only at hSw); go_simp; (try with_reducible rfl)
              (try simp only [Act.put, List.setIfInBounds_toArray, List.set_cons_zero, List.set_cons_succ])
              refine wpAnyH_take (i := 1) (oi := ⟨some 74, _, _, _, _, _⟩) (v := ?_) rfl (by kernel_rfl) (by kernel_rfl) (by kernel_rfl) (fun _ _ _ h => h) (Or.inl ⟨by rfl, fun w' hSw => ?_⟩) (by assumption) ?_
              rotate_left
              · (try dsimp only at hSw); go_simp; (try with_reducible rfl)
              (try simp only [Act.put, List.setIfInBounds_toArray, List.set_cons_zero, List.set_cons_succ])
              refine wpAnyH_take (i := 2) (oi := ⟨some 75, _, _, _, _, _⟩) (v := ?_) rfl (by kernel_rfl) (by kernel_rfl) (by kernel_rfl) (fun _ _ _ h => h) (Or.inl ⟨by rfl, fun w' hSw => ?_⟩) (by assumption) ?_
              rotate_left
              · (try dsimp only at hSw); go_simp; (try with_reducible rfl)
              (try simp only [Act.put, List.setIfInBounds_toArray, List.set_cons_zero, List.set_cons_succ])
              refine wpAnyH_take (i := 3) (oi := ⟨some 76, _, _, _, _, _⟩) (v := ?_) rfl (by kernel_rfl) (by kernel_rfl) (by kernel_rfl) (fun _ _ _ h => h) (Or.inl ⟨by rfl, fun w' hSw => ?_⟩) (by assumption) ?_
              rotate_left
              · (try dsimp only at hSw); go_simp; (try with_reducible rfl)
              (try simp only [Act.put, List.setIfInBounds_toArray, List.set_cons_zero, List.set_cons_succ])
              refine wpAnyH_take (i := 5) (oi := ⟨some 78, _, _, _, _, _⟩) (v := ?_) rfl (by kernel_rfl) (by kernel_rfl) (by kernel_rfl) (fun _ _ _ h => h) (Or.inl ⟨by rfl, fun w' hSw => ?_⟩) (by assumption) ?_
              rotate_left
              · (try dsimp only at hSw); go_simp; (try with_reducible rfl)
              (try simp only [Act.put, List.setIfInBounds_toArray, List.set_cons_zero, List.set_cons_succ])
              refine wpAnyH_take (i := 8) (oi := ⟨some 81, _, _, _, _, _⟩) (v := ?_) rfl (by kernel_rfl) (by kernel_rfl) (by kernel_rfl) (fun _ _ _ h => h) (Or.inl ⟨by rfl, fun w' hSw => ?_⟩) (by assumption) ?_
              rotate_left
              · (try dsimp only at hSw); go_simp; (try with_reducible rfl)
              (try simp only [Act.put, List.setIfInBounds_toArray, List.set_cons_zero, List.set_cons_succ])
              refine wpAnyH_take (i := 9) (oi := ⟨some 82, _, _, _, _, _⟩) (v := ?_) rfl (by kernel_rfl) (by kernel_rfl) (by kernel_rfl) (fun _ _ _ h => h) (Or.inl ⟨by rfl, fun w' hSw => ?_⟩) (by assumption) ?_
              rotate_left
              · (try dsimp only at hSw); go_simp; (try with_reducible rfl)
              (try simp only [Act.put, List.setIfInBounds_toArray, List.set_cons_zero, List.set_cons_succ])
              refine wpAnyH_ready (rs := [4]) (by kernel_rfl) (by simp) ?_
              refine AllReadyH.cons (o := ⟨some 77, _, _, _, _, _⟩) rfl (fun K hK => ?_) AllReadyH.nil
              go_simp
              (have BY := (BEL.out _ (by assumption)))
              (refine (l3Live_any _ _ ts l B _ (HT.out.low (HB2.out.trans (BY.mono hsz2)) hB) (HL.out.low (HB2.out.trans (BY.mono hsz2)) hB) (by have := BY.size; omega) HV.out).mono ?_)
              (rintro e w7 ⟨v7, rb7, rows7, base7, rfl, hbs7, hbr7, hl7, hi7, hrg7, hb7⟩)
              (have BX7 := Lib.hid (BY.trans (hb7.mono BY.size)))
              (have hk7 : np < rows7.length := by rw [hl7]; omega)
              (obtain ⟨g7, c7, rfl, hg71, hg72, hrc7, hcell7, -⟩ := hbr7.form (by omega))
              (have hck7 := hcell7 np hk7)
              (have hrow7 := (hbr7.row np hk7).1)
              (have hlk7 := hi7 np hk7)
              (obtain ⟨gr, hgr⟩ : ∃ gr, gr = rb7.getD np 0 := ⟨_, rfl⟩)
              (rw [← hgr] at hck7 hrow7)
              clear hgr
              (have hk71 : (np : Int) < (rows7.length : Int) := by omega)
              (have hcx7 := row_bool hrow7 (v := xv) (by rw [hlk7]; exact hxv2))
              (rw [HLV.out rows7 hrg7] at hcx7)
              clear hbr7 hl7 hi7 hrg7 hb7 hcell7 hrow7 hlk7 BY
              go_simp
              refine hK.out _ _ ?_ (fun hHeld => ?_)
              · exact ⟨(BX7.out.cell (p := ⟨w.heap.size, 0, none⟩) hx2).trans x0, (BX7.out.cell (p := ⟨w.heap.size, 1, none⟩) hx2).trans x1, (BX7.out.cell (p := ⟨g6, 1, none⟩) hu2).trans u1, BX7.out⟩
              clear hK K
              (try simp only [Act.put, List.setIfInBounds_toArray, List.set_cons_zero, List.set_cons_succ])
              refine wpAnyH_take (i := 6) (oi := ⟨some 79, _, _, _, _, _⟩) (v := ?_) rfl (by kernel_rfl) (by kernel_rfl) (by kernel_rfl) (fun _ _ _ h => h) (Or.inl ⟨by rfl, fun w' hSw => ?_⟩) (by assumption) ?_
              rotate_left
              · (try dsimp only at hSw); go_simp; (try with_reducible rfl)
              (try simp only [Act.put, List.setIfInBounds_toArray, List.set_cons_zero, List.set_cons_succ])
              refine wpAnyH_ready (rs := [7]) (by kernel_rfl) (by simp) ?_
              refine AllReadyH.cons (o := ⟨some 80, _, _, _, _, _⟩) rfl (fun K hK => ?_) AllReadyH.nil
              go_simp
              skip
              refine hK.out _ _ ?_ (fun hHeld => ?_)
              · assumption
              clear hK K
              (try simp only [Act.put, List.setIfInBounds_toArray, List.set_cons_zero, List.set_cons_succ])
              refine wpAnyH_take (i := 10) (oi := ⟨some 83, _, _, _, _, _⟩) (v := ?_) rfl (by kernel_rfl) (by kernel_rfl) (by kernel_rfl) (fun _ _ _ h => h) (Or.inl ⟨by rfl, fun w' hSw => ?_⟩) (by assumption) ?_
              rotate_left
              · (try dsimp only at hSw); go_simp; (try with_reducible rfl)
              (try simp only [Act.put, List.setIfInBounds_toArray, List.set_cons_zero, List.set_cons_succ])
              refine wpAnyH_ready (rs := [11]) (by kernel_rfl) (by simp) ?_
              refine AllReadyH.cons (o := ⟨some 84, _, _, _, _, _⟩) rfl (fun K hK => ?_) AllReadyH.nil
              go_simp
              skip
              refine hK.out _ _ ?_ (fun hHeld => ?_)
              · assumption
              clear hK K
              (try simp only [Act.put, List.setIfInBounds_toArray, List.set_cons_zero, List.set_cons_succ])
              refine wpAnyH_take (i := 12) (oi := ⟨some 85, _, _, _, _, _⟩) (v := ?_) rfl (by kernel_rfl) (by kernel_rfl) (by kernel_rfl) (fun _ _ _ h => h) (Or.inl ⟨by rfl, fun w' hSw => ?_⟩) (by assumption) ?_
              rotate_left
              · (try dsimp only at hSw); go_simp; (try with_reducible rfl)
              (try simp only [Act.put, List.setIfInBounds_toArray, List.set_cons_zero, List.set_cons_succ])
              refine wpAnyH_done (by kernel_rfl) ?_ _
              have HRZ := Lib.hid (HR2.out.low BX7.out hr2)
              have HBZ := Lib.hid (HB2.out.trans (BX7.out.mono hsz2))
              clear x0 x1 r0 r1 rf0 rf1 u0 u1 u2 BEL hHeld hck7 hcx7
              have x0 := (BX7.out.cell (p := ⟨w.heap.size, 0, none⟩) hx2).trans (HX2.out.cell 0)
              have x1 := (BX7.out.cell (p := ⟨w.heap.size, 1, none⟩) hx2).trans (HX2.out.cell 1)
              have r0 := HRZ.out.cell 0
              have r1 := HRZ.out.cell 1
              have rf0 := HRZ.out.frozen 0
              have rf1 := HRZ.out.frozen 1
              simp only [List.getElem?_cons_zero, List.getElem?_cons_succ] at x0 x1 r0 r1
              have HNO := Lib.hid (NO.out w7 HBZ.out (by rw [HDD.out, HH.out]; simp))
              go_wp2_with (at_builtin; fail)
              have HR7 : RowB (w7.setCells (w.heap.size + 1) 0 [.slice none 0 0, .slice none 0 0]) (w.heap.size + 1) 26 _ := HRZ.out.putAll _ rfl
              exact bodyPost_ret (res_box (p := 4) (u := 5) (ty := 26) rfl _ _ (w.heap.size + 1) 26 _ (0, 0) _ rfl HR7 Try.underlying26 rfl rfl) rfl HNO.out
          · have hq6 : (s.op == 6) = false := by simpa using h6
            by_cases h4 : s.op = 4
            · have HDB : deadB ts s = true := by unfold deadB; rw [h4]; rfl
              have hq4 : (s.op == 4) = true := by rw [h4]; rfl
              obtain ⟨hxv1, hxv2⟩ := HSX.out HDB
              obtain ⟨xv, hxv⟩ : ∃ xv : Nat, s.x = xv := ⟨s.x.toNat, by omega⟩
              rw [hxv] at u1 HDD
              have HLV := Lib.hid (fun rows h => HLV.out rows h xv hxv (by omega))
              rw [hxv] at HLV
              have hxv3 : (xv : Int) < (ts.length : Int) := by omega
              have hxv2 : xv < ts.length := by omega
              clear hxv1
              cases hh : hasP (liveRes ts l ((np : Nat) : Int)) ((xv : Nat) : Int)
              · have HH := Lib.hid hh
                rw [hh] at HLV
                clear hh
                have BEL : Hid (∀ w', w'.cell? ⟨w.heap.size, 0, none⟩ = some (.slice At ts.length ct) ∧ w'.cell? ⟨w.heap.size, 1, none⟩ = some (.slice (some ⟨b, off, none⟩) l.length cb) ∧ w'.cell? ⟨g6, 1, none⟩ = some (.int .i64 xv) ∧ Below w5.heap.size w5 w' → Below w5.heap.size w5 w') := Lib.hid fun _ h => h.2.2.2
                go_wp2_with (at_builtin; fail)
                refine wp_region_held_drew (S := (fun w' => w'.cell? ⟨w.heap.size, 0, none⟩ = some (.slice At ts.length ct) ∧ w'.cell? ⟨w.heap.size, 1, none⟩ = some (.slice (some ⟨b, off, none⟩) l.length cb) ∧ w'.cell? ⟨g6, 1, none⟩ = some (.int .i64 xv) ∧ Below w5.heap.size w5 w')) (by kernel_rfl) ?_ (fun hHeld => ?_)
                · exact ⟨x0, x1, u1, (Below.refl _ _).drew⟩
                refine wpAnyH_take (i := 0) (oi := ⟨some 73, _, _, _, _, _⟩) (v := ?_) rfl (by kernel_rfl) (by kernel_rfl) (by kernel_rfl) (fun _ _ _ h => h) (Or.inl ⟨by rfl, fun w' hSw => ?_⟩) (by assumption) ?_
                rotate_left
                · (try dsimp only at hSw); go_simp; (try with_reducible rfl)
                (try simp only [Act.put, List.setIfInBounds_toArray, List.set_cons_zero, List.set_cons_succ])
                refine wpAnyH_take (i := 1) (oi := ⟨some 74, _, _, _, _, _⟩) (v := ?_) rfl (by kernel_rfl) (by kernel_rfl) (by kernel_rfl) (fun _ _ _ h => h) (Or.inl ⟨by rfl, fun w' hSw => ?_⟩) (by assumption) ?_
                rotate_left
                · (try dsimp only at hSw); go_simp; (try with_reducible rfl)
                (try simp only [Act.put, List.setIfInBounds_toArray, List.set_cons_zero, List.set_cons_succ])
                refine wpAnyH_take (i := 2) (oi := ⟨some 75, _, _, _, _, _⟩) (v := ?_) rfl (by kernel_rfl) (by kernel_rfl) (by kernel_rfl) (fun _ _ _ h => h) (Or.inl ⟨by rfl, fun w' hSw => ?_⟩) (by assumption) ?_
                rotate_left
                · (try dsimp only at hSw); go_simp; (try with_reducible rfl)
                (try simp only [Act.put, List.setIfInBounds_toArray, List.set_cons_zero, List.set_cons_succ])
                refine wpAnyH_take (i := 3) (oi := ⟨some 76, _, _, _, _, _⟩) (v := ?_) rfl (by kernel_rfl) (by kernel_rfl) (by kernel_rfl) (fun _ _ _ h => h) (Or.inl ⟨by rfl, fun w' hSw => ?_⟩) (by assumption) ?_
                rotate_left
                · (try dsimp only at hSw); go_simp; (try with_reducible rfl)
                (try simp only [Act.put, List.setIfInBounds_toArray, List.set_cons_zero, List.set_cons_succ])
                refine wpAnyH_take (i := 5) (oi := ⟨some 78, _, _, _, _, _⟩) (v := ?_) rfl (by kernel_rfl) (by kernel_rfl) (by kernel_rfl) (fun _ _ _ h => h) (Or.inl ⟨by rfl, fun w' hSw => ?_⟩) (by assumption) ?_
                rotate_left
                · (try dsimp only at hSw); go_simp; (try with_reducible rfl)
                (try simp only [Act.put, List.setIfInBounds_toArray, List.set_cons_zero, List.set_cons_succ])
                refine wpAnyH_take (i := 8) (oi := ⟨some 81, _, _, _, _, _⟩) (v := ?_) rfl (by kernel_rfl) (by kernel_rfl) (by kernel_rfl) (fun _ _ _ h => h) (Or.inl ⟨by rfl, fun w' hSw => ?_⟩) (by assumption) ?_
                rotate_left
                · (try dsimp only at hSw); go_simp; (try with_reducible rfl)
                (try simp only [Act.put, List.setIfInBounds_toArray, List.set_cons_zero, List.set_cons_succ])
                refine wpAnyH_take (i := 9) (oi := ⟨some 82, _, _, _, _, _⟩) (v := ?_) rfl (by kernel_rfl) (by kernel_rfl) (by kernel_rfl) (fun _ _ _ h => h) (Or.inl ⟨by rfl, fun w' hSw => ?_⟩) (by assumption) ?_
                rotate_left
                · (try dsimp only at hSw); go_simp; (try with_reducible rfl)
                (try simp only [Act.put, List.setIfInBounds_toArray, List.set_cons_zero, List.set_cons_succ])
                refine wpAnyH_ready (rs := [4]) (by kernel_rfl) (by simp) ?_
                refine AllReadyH.cons (o := ⟨some 77, _, _, _, _, _⟩) rfl (fun K hK => ?_) AllReadyH.nil
                go_simp
                (have BY := (BEL.out _ (by assumption)))
                (refine (l3Live_any _ _ ts l B _ (HT.out.low (HB2.out.trans (BY.mono hsz2)) hB) (HL.out.low (HB2.out.trans (BY.mono hsz2)) hB) (by have := BY.size; omega) HV.out).mono ?_)
                (rintro e w7 ⟨v7, rb7, rows7, base7, rfl, hbs7, hbr7, hl7, hi7, hrg7, hb7⟩)
                (have BX7 := Lib.hid (BY.trans (hb7.mono BY.size)))
                (have hk7 : np < rows7.length := by rw [hl7]; omega)
                (obtain ⟨g7, c7, rfl, hg71, hg72, hrc7, hcell7, -⟩ := hbr7.form (by omega))
                (have hck7 := hcell7 np hk7)
                (have hrow7 := (hbr7.row np hk7).1)
                (have hlk7 := hi7 np hk7)
                (obtain ⟨gr, hgr⟩ : ∃ gr, gr = rb7.getD np 0 := ⟨_, rfl⟩)
                (rw [← hgr] at hck7 hrow7)
                clear hgr
                (have hk71 : (np : Int) < (rows7.length : Int) := by omega)
                (have hcx7 := row_bool hrow7 (v := xv) (by rw [hlk7]; exact hxv2))
                (rw [HLV.out rows7 hrg7] at hcx7)
                clear hbr7 hl7 hi7 hrg7 hb7 hcell7 hrow7 hlk7 BY
                go_simp
                refine hK.out _ _ ?_ (fun hHeld => ?_)
                · exact ⟨(BX7.out.cell (p := ⟨w.heap.size, 0, none⟩) hx2).trans x0, (BX7.out.cell (p := ⟨w.heap.size, 1, none⟩) hx2).trans x1, (BX7.out.cell (p := ⟨g6, 1, none⟩) hu2).trans u1, BX7.out⟩
                clear hK K
                (try simp only [Act.put, List.setIfInBounds_toArray, List.set_cons_zero, List.set_cons_succ])
                refine wpAnyH_take (i := 6) (oi := ⟨some 79, _, _, _, _, _⟩) (v := ?_) rfl (by kernel_rfl) (by kernel_rfl) (by kernel_rfl) (fun _ _ _ h => h) (Or.inl ⟨by rfl, fun w' hSw => ?_⟩) (by assumption) ?_
                rotate_left
                · (try dsimp only at hSw); go_simp; (try with_reducible rfl)
                (try simp only [Act.put, List.setIfInBounds_toArray, List.set_cons_zero, List.set_cons_succ])
                refine wpAnyH_ready (rs := [7]) (by kernel_rfl) (by simp) ?_
                refine AllReadyH.cons (o := ⟨some 80, _, _, _, _, _⟩) rfl (fun K hK => ?_) AllReadyH.nil
                go_simp
                skip
                refine hK.out _ _ ?_ (fun hHeld => ?_)
                · assumption
                clear hK K
                (try simp only [Act.put, List.setIfInBounds_toArray, List.set_cons_zero, List.set_cons_succ])
                refine wpAnyH_take (i := 10) (oi := ⟨some 83, _, _, _, _, _⟩) (v := ?_) rfl (by kernel_rfl) (by kernel_rfl) (by kernel_rfl) (fun _ _ _ h => h) (Or.inl ⟨by rfl, fun w' hSw => ?_⟩) (by assumption) ?_
                rotate_left
                · (try dsimp only at hSw); go_simp; (try with_reducible rfl)
                (try simp only [Act.put, List.setIfInBounds_toArray, List.set_cons_zero, List.set_cons_succ])
                refine wpAnyH_ready (rs := [11]) (by kernel_rfl) (by simp) ?_
                refine AllReadyH.cons (o := ⟨some 84, _, _, _, _, _⟩) rfl (fun K hK => ?_) AllReadyH.nil
                go_simp
                skip
                refine hK.out _ _ ?_ (fun hHeld => ?_)
                · assumption
                clear hK K
                (try simp only [Act.put, List.setIfInBounds_toArray, List.set_cons_zero, List.set_cons_succ])
                refine wpAnyH_take (i := 12) (oi := ⟨some 85, _, _, _, _, _⟩) (v := ?_) rfl (by kernel_rfl) (by kernel_rfl) (by kernel_rfl) (fun _ _ _ h => h) (Or.inl ⟨by rfl, fun w' hSw => ?_⟩) (by assumption) ?_
                rotate_left
                · (try dsimp only at hSw); go_simp; (try with_reducible rfl)
                (try simp only [Act.put, List.setIfInBounds_toArray, List.set_cons_zero, List.set_cons_succ])
                refine wpAnyH_done (by kernel_rfl) ?_ _
                have HRZ := Lib.hid (HR2.out.low BX7.out hr2)
                have HBZ := Lib.hid (HB2.out.trans (BX7.out.mono hsz2))
                clear x0 x1 r0 r1 rf0 rf1 u0 u1 u2 BEL hHeld hck7 hcx7
                have x0 := (BX7.out.cell (p := ⟨w.heap.size, 0, none⟩) hx2).trans (HX2.out.cell 0)
                have x1 := (BX7.out.cell (p := ⟨w.heap.size, 1, none⟩) hx2).trans (HX2.out.cell 1)
                have r0 := HRZ.out.cell 0
                have r1 := HRZ.out.cell 1
                have rf0 := HRZ.out.frozen 0
                have rf1 := HRZ.out.frozen 1
                simp only [List.getElem?_cons_zero, List.getElem?_cons_succ] at x0 x1 r0 r1
                have HYES : Hid (ddOk ts l (q : Int) = true) := Lib.hid (by rw [HDD.out, HH.out, HDB]; rfl)
                go_wp2_with (at_builtin; fail)
                refine (sDropStmt_any _ _ ts l (q : Int) B w7 (HT.out.low HBZ.out hB) (HL.out.low HBZ.out hB) (by have := HBZ.out.size; omega) hsz).mono ?_
                rintro e w9 ⟨vt3, vb3, rfl, hoi, hdt, hb3⟩
                rw [HOK.out] at hoi hdt
                simp only [if_true, Int.toNat_natCast] at hoi hdt
                have hsz7 := HBZ.out.size
                have hrz := HRZ.out.lt
                have HB9 := Lib.hid (HBZ.out.trans (hb3.mono hsz7))
                have HR9 := Lib.hid (HRZ.out.low hb3 hrz)
                have HOI := Lib.hid hoi
                have HDT := Lib.hid hdt
                obtain ⟨A8, c8, rfl, -, -, -⟩ := id hoi
                obtain ⟨A9, c9, rfl, -⟩ := hdt.slice
                have HL2 : Hid ((if ddOk ts l (q : Int) then l.eraseIdx (q : Int).toNat else []) = l.eraseIdx q) := Lib.hid (by rw [HYES.out]; rfl)
                have HT2 : Hid ((if ddOk ts l (q : Int) then ts else []) = ts) := Lib.hid (by rw [HYES.out]; rfl)
                generalize l.eraseIdx q = l2 at *
                rw [HOK.out]
                clear x0 x1 r0 r1 rf0 rf1 hb3 hoi hdt
                have r0 := HR9.out.cell 0
                have r1 := HR9.out.cell 1
                have rf0 := HR9.out.frozen 0
                have rf1 := HR9.out.frozen 1
                simp only [List.getElem?_cons_zero, List.getElem?_cons_succ] at r0 r1
                go_wp2_with (at_builtin; fail)
                have HR7 : RowB (w9.setCells (w.heap.size + 1) 0 [.slice A8 ts.length c8, .slice A9 l2.length c9]) (w.heap.size + 1) 26 _ := HR9.out.putAll _ rfl
                have HB7 := HB9.out.trans (below_putL (B := w.heap.size) (g := w.heap.size + 1) (by omega) [.slice A8 ts.length c8, .slice A9 l2.length c9] 0 w9)
                have hz7 : (w9.setCells (w.heap.size + 1) 0 [.slice A8 ts.length c8, .slice A9 l2.length c9]).heap.size = w9.heap.size := size_putL _ _ _
                have hf7 := IntS.setBox HOI.out HR9.out [.slice A8 ts.length c8, .slice A9 l2.length c9]
                have hf8 := StS.setBox HDT.out HR9.out [.slice A8 ts.length c8, .slice A9 l2.length c9]
                rw [← hz7] at hf7 hf8
                exact bodyPost_ret (res_box (p := 4) (u := 5) (ty := 26) rfl _ _ (w.heap.size + 1) 26 _ (0, 0) _ rfl HR7 Try.underlying26 rfl rfl) rfl ⟨_, _, by rw [HYES.out]; rfl, by rw [HT2.out]; exact hf7, by rw [HL2.out]; exact hf8, HB7⟩
              · have HH := Lib.hid hh
                rw [hh] at HLV
                clear hh
                have BEL : Hid (∀ w', w'.cell? ⟨w.heap.size, 0, none⟩ = some (.slice At ts.length ct) ∧ w'.cell? ⟨w.heap.size, 1, none⟩ = some (.slice (some ⟨b, off, none⟩) l.length cb) ∧ w'.cell? ⟨g6, 1, none⟩ = some (.int .i64 xv) ∧ Below w5.heap.size w5 w' → Below w5.heap.size w5 w') := Lib.hid fun _ h => h.2.2.2
                go_wp2_with (at_builtin; fail)
                refine wp_region_held_drew (S := (fun w' => w'.cell? ⟨w.heap.size, 0, none⟩ = some (.slice At ts.length ct) ∧ w'.cell? ⟨w.heap.size, 1, none⟩ = some (.slice (some ⟨b, off, none⟩) l.length cb) ∧ w'.cell? ⟨g6, 1, none⟩ = some (.int .i64 xv) ∧ Below w5.heap.size w5 w')) (by kernel_rfl) ?_ (fun hHeld => ?_)
                · exact ⟨x0, x1, u1, (Below.refl _ _).drew⟩
                refine wpAnyH_take (i := 0) (oi := ⟨some 73, _, _, _, _, _⟩) (v := ?_) rfl (by kernel_rfl) (by kernel_rfl) (by kernel_rfl) (fun _ _ _ h => h) (Or.inl ⟨by rfl, fun w' hSw => ?_⟩) (by assumption) ?_
                rotate_left
                · (try dsimp only at hSw); go_simp; (try with_reducible rfl)
                (try simp only [Act.put, List.setIfInBounds_toArray, List.set_cons_zero, List.set_cons_succ])
                refine wpAnyH_take (i := 1) (oi := ⟨some 74, _, _, _, _, _⟩) (v := ?_) rfl (by kernel_rfl) (by kernel_rfl) (by kernel_rfl) (fun _ _ _ h => h) (Or.inl ⟨by rfl, fun w' hSw => ?_⟩) (by assumption) ?_
                rotate_left
                · (try dsimp only at hSw); go_simp; (try with_reducible rfl)
                (try simp only [Act.put, List.setIfInBounds_toArray, List.set_cons_zero, List.set_cons_succ])
                refine wpAnyH_take (i := 2) (oi := ⟨some 75, _, _, _, _, _⟩) (v := ?_) rfl (by kernel_rfl) (by kernel_rfl) (by kernel_rfl) (fun _ _ _ h => h) (Or.inl ⟨by rfl, fun w' hSw => ?_⟩) (by assumption) ?_
                rotate_left
                · (try dsimp only at hSw); go_simp; (try with_reducible rfl)
                (try simp only [Act.put, List.setIfInBounds_toArray, List.set_cons_zero, List.set_cons_succ])
                refine wpAnyH_take (i := 3) (oi := ⟨some 76, _, _, _, _, _⟩) (v := ?_) rfl (by kernel_rfl) (by kernel_rfl) (by kernel_rfl) (fun _ _ _ h => h) (Or.inl ⟨by rfl, fun w' hSw => ?_⟩) (by assumption) ?_
                rotate_left
                · (try dsimp only at hSw); go_simp; (try with_reducible rfl)
                (try simp only [Act.put, List.setIfInBounds_toArray, List.set_cons_zero, List.set_cons_succ])
                refine wpAnyH_take (i := 5) (oi := ⟨some 78, _, _, _, _, _⟩) (v := ?_) rfl (by kernel_rfl) (by kernel_rfl) (by kernel_rfl) (fun _ _ _ h => h) (Or.inl ⟨by rfl, fun w' hSw => ?_⟩) (by assumption) ?_
                rotate_left
                · (try dsimp only at hSw); go_simp; (try with_reducible rfl)
                (try simp only [Act.put, List.setIfInBounds_toArray, List.set_cons_zero, List.set_cons_succ])
                refine wpAnyH_take (i := 8) (oi := ⟨some 81, _, _, _, _, _⟩) (v := ?_) rfl (by kernel_rfl) (by kernel_rfl) (by kernel_rfl) (fun _ _ _ h => h) (Or.inl ⟨by rfl, fun w' hSw => ?_⟩) (by assumption) ?_
                rotate_left
                · (try dsimp only at hSw); go_simp; (try with_reducible rfl)
                (try simp only [Act.put, List.setIfInBounds_toArray, List.set_cons_zero, List.set_cons_succ])
                refine wpAnyH_take (i := 9) (oi := ⟨some 82, _, _, _, _, _⟩) (v := ?_) rfl (by kernel_rfl) (by kernel_rfl) (by kernel_rfl) (fun _ _ _ h => h) (Or.inl ⟨by rfl, fun w' hSw => ?_⟩) (by assumption) ?_
                rotate_left
                · (try dsimp only at hSw); go_simp; (try with_reducible rfl)
                (try simp only [Act.put, List.setIfInBounds_toArray, List.set_cons_zero, List.set_cons_succ])
                refine wpAnyH_ready (rs := [4]) (by kernel_rfl) (by simp) ?_
                refine AllReadyH.cons (o := ⟨some 77, _, _, _, _, _⟩) rfl (fun K hK => ?_) AllReadyH.nil
                go_simp
                (have BY := (BEL.out _ (by assumption)))
                (refine (l3Live_any _ _ ts l B _ (HT.out.low (HB2.out.trans (BY.mono hsz2)) hB) (HL.out.low (HB2.out.trans (BY.mono hsz2)) hB) (by have := BY.size; omega) HV.out).mono ?_)
                (rintro e w7 ⟨v7, rb7, rows7, base7, rfl, hbs7, hbr7, hl7, hi7, hrg7, hb7⟩)
                (have BX7 := Lib.hid (BY.trans (hb7.mono BY.size)))
                (have hk7 : np < rows7.length := by rw [hl7]; omega)
                (obtain ⟨g7, c7, rfl, hg71, hg72, hrc7, hcell7, -⟩ := hbr7.form (by omega))
                (have hck7 := hcell7 np hk7)
                (have hrow7 := (hbr7.row np hk7).1)
                (have hlk7 := hi7 np hk7)
                (obtain ⟨gr, hgr⟩ : ∃ gr, gr = rb7.getD np 0 := ⟨_, rfl⟩)
                (rw [← hgr] at hck7 hrow7)
                clear hgr
                (have hk71 : (np : Int) < (rows7.length : Int) := by omega)
                (have hcx7 := row_bool hrow7 (v := xv) (by rw [hlk7]; exact hxv2))
                (rw [HLV.out rows7 hrg7] at hcx7)
                clear hbr7 hl7 hi7 hrg7 hb7 hcell7 hrow7 hlk7 BY
                go_simp
                refine hK.out _ _ ?_ (fun hHeld => ?_)
                · exact ⟨(BX7.out.cell (p := ⟨w.heap.size, 0, none⟩) hx2).trans x0, (BX7.out.cell (p := ⟨w.heap.size, 1, none⟩) hx2).trans x1, (BX7.out.cell (p := ⟨g6, 1, none⟩) hu2).trans u1, BX7.out⟩
                clear hK K
                (try simp only [Act.put, List.setIfInBounds_toArray, List.set_cons_zero, List.set_cons_succ])
                refine wpAnyH_take (i := 6) (oi := ⟨some 79, _, _, _, _, _⟩) (v := ?_) rfl (by kernel_rfl) (by kernel_rfl) (by kernel_rfl) (fun _ _ _ h => h) (Or.inl ⟨by rfl, fun w' hSw => ?_⟩) (by assumption) ?_
                rotate_left
                · (try dsimp only at hSw); go_simp; (try with_reducible rfl)
                (try simp only [Act.put, List.setIfInBounds_toArray, List.set_cons_zero, List.set_cons_succ])
                refine wpAnyH_ready (rs := [7]) (by kernel_rfl) (by simp) ?_
                refine AllReadyH.cons (o := ⟨some 80, _, _, _, _, _⟩) rfl (fun K hK => ?_) AllReadyH.nil
                go_simp
                skip
                refine hK.out _ _ ?_ (fun hHeld => ?_)
                · assumption
                clear hK K
                (try simp only [Act.put, List.setIfInBounds_toArray, List.set_cons_zero, List.set_cons_succ])
                refine wpAnyH_take (i := 10) (oi := ⟨some 83, _, _, _, _, _⟩) (v := ?_) rfl (by kernel_rfl) (by kernel_rfl) (by kernel_rfl) (fun _ _ _ h => h) (Or.inl ⟨by rfl, fun w' hSw => ?_⟩) (by assumption) ?_
                rotate_left
                · (try dsimp only at hSw); go_simp; (try with_reducible rfl)
                (try simp only [Act.put, List.setIfInBounds_toArray, List.set_cons_zero, List.set_cons_succ])
                refine wpAnyH_ready (rs := [11]) (by kernel_rfl) (by simp) ?_
                refine AllReadyH.cons (o := ⟨some 84, _, _, _, _, _⟩) rfl (fun K hK => ?_) AllReadyH.nil
                go_simp
                skip
                refine hK.out _ _ ?_ (fun hHeld => ?_)
                · assumption
                clear hK K
                (try simp only [Act.put, List.setIfInBounds_toArray, List.set_cons_zero, List.set_cons_succ])
                refine wpAnyH_take (i := 12) (oi := ⟨some 85, _, _, _, _, _⟩) (v := ?_) rfl (by kernel_rfl) (by kernel_rfl) (by kernel_rfl) (fun _ _ _ h => h) (Or.inl ⟨by rfl, fun w' hSw => ?_⟩) (by assumption) ?_
                rotate_left
                · (try dsimp only at hSw); go_simp; (try with_reducible rfl)
                (try simp only [Act.put, List.setIfInBounds_toArray, List.set_cons_zero, List.set_cons_succ])
                refine wpAnyH_done (by kernel_rfl) ?_ _
                have HRZ := Lib.hid (HR2.out.low BX7.out hr2)
                have HBZ := Lib.hid (HB2.out.trans (BX7.out.mono hsz2))
                clear x0 x1 r0 r1 rf0 rf1 u0 u1 u2 BEL hHeld hck7 hcx7
                have x0 := (BX7.out.cell (p := ⟨w.heap.size, 0, none⟩) hx2).trans (HX2.out.cell 0)
                have x1 := (BX7.out.cell (p := ⟨w.heap.size, 1, none⟩) hx2).trans (HX2.out.cell 1)
                have r0 := HRZ.out.cell 0
                have r1 := HRZ.out.cell 1
                have rf0 := HRZ.out.frozen 0
                have rf1 := HRZ.out.frozen 1
                simp only [List.getElem?_cons_zero, List.getElem?_cons_succ] at x0 x1 r0 r1
                have HNO := Lib.hid (NO.out w7 HBZ.out (by rw [HDD.out, HH.out]; simp))
                go_wp2_with (at_builtin; fail)
                have HR7 : RowB (w7.setCells (w.heap.size + 1) 0 [.slice none 0 0, .slice none 0 0]) (w.heap.size + 1) 26 _ := HRZ.out.putAll _ rfl
                exact bodyPost_ret (res_box (p := 4) (u := 5) (ty := 26) rfl _ _ (w.heap.size + 1) 26 _ (0, 0) _ rfl HR7 Try.underlying26 rfl rfl) rfl HNO.out
            · have hq4 : (s.op == 4) = false := by simpa using h4
              by_cases h5 : s.op = 5
              · have HDB : deadB ts s = true := by unfold deadB; rw [h5]; rfl
                have hq5 : (s.op == 5) = true := by rw [h5]; rfl
                obtain ⟨hxv1, hxv2⟩ := HSX.out HDB
                obtain ⟨xv, hxv⟩ : ∃ xv : Nat, s.x = xv := ⟨s.x.toNat, by omega⟩
                rw [hxv] at u1 HDD
                have HLV := Lib.hid (fun rows h => HLV.out rows h xv hxv (by omega))
                rw [hxv] at HLV
                have hxv3 : (xv : Int) < (ts.length : Int) := by omega
                have hxv2 : xv < ts.length := by omega
                clear hxv1
                cases hh : hasP (liveRes ts l ((np : Nat) : Int)) ((xv : Nat) : Int)
                · have HH := Lib.hid hh
                  rw [hh] at HLV
                  clear hh
                  have BEL : Hid (∀ w', w'.cell? ⟨w.heap.size, 0, none⟩ = some (.slice At ts.length ct) ∧ w'.cell? ⟨w.heap.size, 1, none⟩ = some (.slice (some ⟨b, off, none⟩) l.length cb) ∧ w'.cell? ⟨g6, 1, none⟩ = some (.int .i64 xv) ∧ Below w5.heap.size w5 w' → Below w5.heap.size w5 w') := Lib.hid fun _ h => h.2.2.2
                  go_wp2_with (at_builtin; fail)
                  refine wp_region_held_drew (S := (fun w' => w'.cell? ⟨w.heap.size, 0, none⟩ = some (.slice At ts.length ct) ∧ w'.cell? ⟨w.heap.size, 1, none⟩ = some (.slice (some ⟨b, off, none⟩) l.length cb) ∧ w'.cell? ⟨g6, 1, none⟩ = some (.int .i64 xv) ∧ Below w5.heap.size w5 w')) (by kernel_rfl) ?_ (fun hHeld => ?_)
                  · exact ⟨x0, x1, u1, (Below.refl _ _).drew⟩
                  refine wpAnyH_take (i := 0) (oi := ⟨some 73, _, _, _, _, _⟩) (v := ?_) rfl (by kernel_rfl) (by kernel_rfl) (by kernel_rfl) (fun _ _ _ h => h) (Or.inl ⟨by rfl, fun w' hSw => ?_⟩) (by assumption) ?_
                  rotate_left
                  · (try dsimp only at hSw); go_simp; (try with_reducible rfl)
                  (try simp only [Act.put, List.setIfInBounds_toArray, List.set_cons_zero, List.set_cons_succ])
                  refine wpAnyH_take (i := 1) (oi := ⟨some 74, _, _, _, _, _⟩) (v := ?_) rfl (by kernel_rfl) (by kernel_rfl) (by kernel_rfl) (fun _ _ _ h => h) (Or.inl ⟨by rfl, fun w' hSw => ?_⟩) (by assumption) ?_
                  rotate_left
                  · (try dsimp only at hSw); go_simp; (try with_reducible rfl)
                  (try simp only [Act.put, List.setIfInBounds_toArray, List.set_cons_zero, List.set_cons_succ])
                  refine wpAnyH_take (i := 2) (oi := ⟨some 75, _, _, _, _, _⟩) (v := ?_) rfl (by kernel_rfl) (by kernel_rfl) (by kernel_rfl) (fun _ _ _ h => h) (Or.inl ⟨by rfl, fun w' hSw => ?_⟩) (by assumption) ?_
                  rotate_left
                  · (try dsimp only at hSw); go_simp; (try with_reducible rfl)
                  (try simp only [Act.put, List.setIfInBounds_toArray, List.set_cons_zero, List.set_cons_succ])
                  refine wpAnyH_take (i := 3) (oi := ⟨some 76, _, _, _, _, _⟩) (v := ?_) rfl (by kernel_rfl) (by kernel_rfl) (by kernel_rfl) (fun _ _ _ h => h) (Or.inl ⟨by rfl, fun w' hSw => ?_⟩) (by assumption) ?_
                  rotate_left
                  · (try dsimp only at hSw); go_simp; (try with_reducible rfl)
                  (try simp only [Act.put, List.setIfInBounds_toArray, List.set_cons_zero, List.set_cons_succ])
                  refine wpAnyH_take (i := 5) (oi := ⟨some 78, _, _, _, _, _⟩) (v := ?_) rfl (by kernel_rfl) (by kernel_rfl) (by kernel_rfl) (fun _ _ _ h => h) (Or.inl ⟨by rfl, fun w' hSw => ?_⟩) (by assumption) ?_
                  rotate_left
                  · (try dsimp only at hSw); go_simp; (try with_reducible rfl)
                  (try simp only [Act.put, List.setIfInBounds_toArray, List.set_cons_zero, List.set_cons_succ])
                  refine wpAnyH_take (i := 8) (oi := ⟨some 81, _, _, _, _, _⟩) (v := ?_) rfl (by kernel_rfl) (by kernel_rfl) (by kernel_rfl) (fun _ _ _ h => h) (Or.inl ⟨by rfl, fun w' hSw => ?_⟩) (by assumption) ?_
                  rotate_left
                  · (try dsimp only at hSw); go_simp; (try with_reducible rfl)
                  (try simp only [Act.put, List.setIfInBounds_toArray, List.set_cons_zero, List.set_cons_succ])
                  refine wpAnyH_take (i := 9) (oi := ⟨some 82, _, _, _, _, _⟩) (v := ?_) rfl (by kernel_rfl) (by kernel_rfl) (by kernel_rfl) (fun _ _ _ h => h) (Or.inl ⟨by rfl, fun w' hSw => ?_⟩) (by assumption) ?_
                  rotate_left
                  · (try dsimp only at hSw); go_simp; (try with_reducible rfl)
                  (try simp only [Act.put, List.setIfInBounds_toArray, List.set_cons_zero, List.set_cons_succ])
                  refine wpAnyH_ready (rs := [4]) (by kernel_rfl) (by simp) ?_
                  refine AllReadyH.cons (o := ⟨some 77, _, _, _, _, _⟩) rfl (fun K hK => ?_) AllReadyH.nil
                  go_simp
                  (have BY := (BEL.out _ (by assumption)))
                  (refine (l3Live_any _ _ ts l B _ (HT.out.low (HB2.out.trans (BY.mono hsz2)) hB) (HL.out.low (HB2.out.trans (BY.mono hsz2)) hB) (by have := BY.size; omega) HV.out).mono ?_)
                  (rintro e w7 ⟨v7, rb7, rows7, base7, rfl, hbs7, hbr7, hl7, hi7, hrg7, hb7⟩)
                  (have BX7 := Lib.hid (BY.trans (hb7.mono BY.size)))
                  (have hk7 : np < rows7.length := by rw [hl7]; omega)
                  (obtain ⟨g7, c7, rfl, hg71, hg72, hrc7, hcell7, -⟩ := hbr7.form (by omega))
                  (have hck7 := hcell7 np hk7)
                  (have hrow7 := (hbr7.row np hk7).1)
                  (have hlk7 := hi7 np hk7)
                  (obtain ⟨gr, hgr⟩ : ∃ gr, gr = rb7.getD np 0 := ⟨_, rfl⟩)
                  (rw [← hgr] at hck7 hrow7)
                  clear hgr
                  (have hk71 : (np : Int) < (rows7.length : Int) := by omega)
                  (have hcx7 := row_bool hrow7 (v := xv) (by rw [hlk7]; exact hxv2))
                  (rw [HLV.out rows7 hrg7] at hcx7)
                  clear hbr7 hl7 hi7 hrg7 hb7 hcell7 hrow7 hlk7 BY
                  go_simp
                  refine hK.out _ _ ?_ (fun hHeld => ?_)
                  · exact ⟨(BX7.out.cell (p := ⟨w.heap.size, 0, none⟩) hx2).trans x0, (BX7.out.cell (p := ⟨w.heap.size, 1, none⟩) hx2).trans x1, (BX7.out.cell (p := ⟨g6, 1, none⟩) hu2).trans u1, BX7.out⟩
                  clear hK K
                  (try simp only [Act.put, List.setIfInBounds_toArray, List.set_cons_zero, List.set_cons_succ])
                  refine wpAnyH_take (i := 6) (oi := ⟨some 79, _, _, _, _, _⟩) (v := ?_) rfl (by kernel_rfl) (by kernel_rfl) (by kernel_rfl) (fun _ _ _ h => h) (Or.inl ⟨by rfl, fun w' hSw => ?_⟩) (by assumption) ?_
                  rotate_left
                  · (try dsimp only at hSw); go_simp; (try with_reducible rfl)
                  (try simp only [Act.put, List.setIfInBounds_toArray, List.set_cons_zero, List.set_cons_succ])
                  refine wpAnyH_ready (rs := [7]) (by kernel_rfl) (by simp) ?_
                  refine AllReadyH.cons (o := ⟨some 80, _, _, _, _, _⟩) rfl (fun K hK => ?_) AllReadyH.nil
                  go_simp
                  skip
                  refine hK.out _ _ ?_ (fun hHeld => ?_)
                  · assumption
                  clear hK K
                  (try simp only [Act.put, List.setIfInBounds_toArray, List.set_cons_zero, List.set_cons_succ])
                  refine wpAnyH_take (i := 10) (oi := ⟨some 83, _, _, _, _, _⟩) (v := ?_) rfl (by kernel_rfl) (by kernel_rfl) (by kernel_rfl) (fun _ _ _ h => h) (Or.inl ⟨by rfl, fun w' hSw => ?_⟩) (by assumption) ?_
                  rotate_left
                  · (try dsimp only at hSw); go_simp; (try with_reducible rfl)
                  (try simp only [Act.put, List.setIfInBounds_toArray, List.set_cons_zero, List.set_cons_succ])
                  refine wpAnyH_ready (rs := [11]) (by kernel_rfl) (by simp) ?_
                  refine AllReadyH.cons (o := ⟨some 84, _, _, _, _, _⟩) rfl (fun K hK => ?_) AllReadyH.nil
                  go_simp
                  skip
                  refine hK.out _ _ ?_ (fun hHeld => ?_)
                  · assumption
                  clear hK K
                  (try simp only [Act.put, List.setIfInBounds_toArray, List.set_cons_zero, List.set_cons_succ])
                  refine wpAnyH_take (i := 12) (oi := ⟨some 85, _, _, _, _, _⟩) (v := ?_) rfl (by kernel_rfl) (by kernel_rfl) (by kernel_rfl) (fun _ _ _ h => h) (Or.inl ⟨by rfl, fun w' hSw => ?_⟩) (by assumption) ?_
                  rotate_left
                  · (try dsimp only at hSw); go_simp; (try with_reducible rfl)
                  (try simp only [Act.put, List.setIfInBounds_toArray, List.set_cons_zero, List.set_cons_succ])
                  refine wpAnyH_done (by kernel_rfl) ?_ _
                  have HRZ := Lib.hid (HR2.out.low BX7.out hr2)
                  have HBZ := Lib.hid (HB2.out.trans (BX7.out.mono hsz2))
                  clear x0 x1 r0 r1 rf0 rf1 u0 u1 u2 BEL hHeld hck7 hcx7
                  have x0 := (BX7.out.cell (p := ⟨w.heap.size, 0, none⟩) hx2).trans (HX2.out.cell 0)
                  have x1 := (BX7.out.cell (p := ⟨w.heap.size, 1, none⟩) hx2).trans (HX2.out.cell 1)
                  have r0 := HRZ.out.cell 0
                  have r1 := HRZ.out.cell 1
                  have rf0 := HRZ.out.frozen 0
                  have rf1 := HRZ.out.frozen 1
                  simp only [List.getElem?_cons_zero, List.getElem?_cons_succ] at x0 x1 r0 r1
                  have HYES : Hid (ddOk ts l (q : Int) = true) := Lib.hid (by rw [HDD.out, HH.out, HDB]; rfl)
                  go_wp2_with (at_builtin; fail)
                  refine (sDropStmt_any _ _ ts l (q : Int) B w7 (HT.out.low HBZ.out hB) (HL.out.low HBZ.out hB) (by have := HBZ.out.size; omega) hsz).mono ?_
                  rintro e w9 ⟨vt3, vb3, rfl, hoi, hdt, hb3⟩
                  rw [HOK.out] at hoi hdt
                  simp only [if_true, Int.toNat_natCast] at hoi hdt
                  have hsz7 := HBZ.out.size
                  have hrz := HRZ.out.lt
                  have HB9 := Lib.hid (HBZ.out.trans (hb3.mono hsz7))
                  have HR9 := Lib.hid (HRZ.out.low hb3 hrz)
                  have HOI := Lib.hid hoi
                  have HDT := Lib.hid hdt
                  obtain ⟨A8, c8, rfl, -, -, -⟩ := id hoi
                  obtain ⟨A9, c9, rfl, -⟩ := hdt.slice
                  have HL2 : Hid ((if ddOk ts l (q : Int) then l.eraseIdx (q : Int).toNat else []) = l.eraseIdx q) := Lib.hid (by rw [HYES.out]; rfl)
                  have HT2 : Hid ((if ddOk ts l (q : Int) then ts else []) = ts) := Lib.hid (by rw [HYES.out]; rfl)
                  generalize l.eraseIdx q = l2 at *
                  rw [HOK.out]
                  clear x0 x1 r0 r1 rf0 rf1 hb3 hoi hdt
                  have r0 := HR9.out.cell 0
                  have r1 := HR9.out.cell 1
                  have rf0 := HR9.out.frozen 0
                  have rf1 := HR9.out.frozen 1
                  simp only [List.getElem?_cons_zero, List.getElem?_cons_succ] at r0 r1
                  go_wp2_with (at_builtin; fail)
                  have HR7 : RowB (w9.setCells (w.heap.size + 1) 0 [.slice A8 ts.length c8, .slice A9 l2.length c9]) (w.heap.size + 1) 26 _ := HR9.out.putAll _ rfl
                  have HB7 := HB9.out.trans (below_putL (B := w.heap.size) (g := w.heap.size + 1) (by omega) [.slice A8 ts.length c8, .slice A9 l2.length c9] 0 w9)
                  have hz7 : (w9.setCells (w.heap.size + 1) 0 [.slice A8 ts.length c8, .slice A9 l2.length c9]).heap.size = w9.heap.size := size_putL _ _ _
                  have hf7 := IntS.setBox HOI.out HR9.out [.slice A8 ts.length c8, .slice A9 l2.length c9]
                  have hf8 := StS.setBox HDT.out HR9.out [.slice A8 ts.length c8, .slice A9 l2.length c9]
                  rw [← hz7] at hf7 hf8
                  exact bodyPost_ret (res_box (p := 4) (u := 5) (ty := 26) rfl _ _ (w.heap.size + 1) 26 _ (0, 0) _ rfl HR7 Try.underlying26 rfl rfl) rfl ⟨_, _, by rw [HYES.out]; rfl, by rw [HT2.out]; exact hf7, by rw [HL2.out]; exact hf8, HB7⟩
                · have HH := Lib.hid hh
                  rw [hh] at HLV
                  clear hh
                  have BEL : Hid (∀ w', w'.cell? ⟨w.heap.size, 0, none⟩ = some (.slice At ts.length ct) ∧ w'.cell? ⟨w.heap.size, 1, none⟩ = some (.slice (some ⟨b, off, none⟩) l.length cb) ∧ w'.cell? ⟨g6, 1, none⟩ = some (.int .i64 xv) ∧ Below w5.heap.size w5 w' → Below w5.heap.size w5 w') := Lib.hid fun _ h => h.2.2.2
                  go_wp2_with (at_builtin; fail)
                  refine wp_region_held_drew (S := (fun w' => w'.cell? ⟨w.heap.size, 0, none⟩ = some (.slice At ts.length ct) ∧ w'.cell? ⟨w.heap.size, 1, none⟩ = some (.slice (some ⟨b, off, none⟩) l.length cb) ∧ w'.cell? ⟨g6, 1, none⟩ = some (.int .i64 xv) ∧ Below w5.heap.size w5 w')) (by kernel_rfl) ?_ (fun hHeld => ?_)
                  · exact ⟨x0, x1, u1, (Below.refl _ _).drew⟩
                  refine wpAnyH_take (i := 0) (oi := ⟨some 73, _, _, _, _, _⟩) (v := ?_) rfl (by kernel_rfl) (by kernel_rfl) (by kernel_rfl) (fun _ _ _ h => h) (Or.inl ⟨by rfl, fun w' hSw => ?_⟩) (by assumption) ?_
                  rotate_left
                  · (try dsimp only at hSw); go_simp; (try with_reducible rfl)
                  (try simp only [Act.put, List.setIfInBounds_toArray, List.set_cons_zero, List.set_cons_succ])
                  refine wpAnyH_take (i := 1) (oi := ⟨some 74, _, _, _, _, _⟩) (v := ?_) rfl (by kernel_rfl) (by kernel_rfl) (by kernel_rfl) (fun _ _ _ h => h) (Or.inl ⟨by rfl, fun w' hSw => ?_⟩) (by assumption) ?_
                  rotate_left
                  · (try dsimp only at hSw); go_simp; (try with_reducible rfl)
                  (try simp only [Act.put, List.setIfInBounds_toArray, List.set_cons_zero, List.set_cons_succ])
                  refine wpAnyH_take (i := 2) (oi := ⟨some 75, _, _, _, _, _⟩) (v := ?_) rfl (by kernel_rfl) (by kernel_rfl) (by kernel_rfl) (fun _ _ _ h => h) (Or.inl ⟨by rfl, fun w' hSw => ?_⟩) (by assumption) ?_
                  rotate_left
                  · (try dsimp only at hSw); go_simp; (try with_reducible rfl)
                  (try simp only [Act.put, List.setIfInBounds_toArray, List.set_cons_zero, List.set_cons_succ])
                  refine wpAnyH_take (i := 3) (oi := ⟨some 76, _, _, _, _, _⟩) (v := ?_) rfl (by kernel_rfl) (by kernel_rfl) (by kernel_rfl) (fun _ _ _ h => h) (Or.inl ⟨by rfl, fun w' hSw => ?_⟩) (by assumption) ?_
                  rotate_left
                  · (try dsimp only at hSw); go_simp; (try with_reducible rfl)
                  (try simp only [Act.put, List.setIfInBounds_toArray, List.set_cons_zero, List.set_cons_succ])
                  refine wpAnyH_take (i := 5) (oi := ⟨some 78, _, _, _, _, _⟩) (v := ?_) rfl (by kernel_rfl) (by kernel_rfl) (by kernel_rfl) (fun _ _ _ h => h) (Or.inl ⟨by rfl, fun w' hSw => ?_⟩) (by assumption) ?_
                  rotate_left
                  · (try dsimp only at hSw); go_simp; (try with_reducible rfl)
                  (try simp only [Act.put, List.setIfInBounds_toArray, List.set_cons_zero, List.set_cons_succ])
                  refine wpAnyH_take (i := 8) (oi := ⟨some 81, _, _, _, _, _⟩) (v := ?_) rfl (by kernel_rfl) (by kernel_rfl) (by kernel_rfl) (fun _ _ _ h => h) (Or.inl ⟨by rfl, fun w' hSw => ?_⟩) (by assumption) ?_
                  rotate_left
                  · (try dsimp only at hSw); go_simp; (try with_reducible rfl)
                  (try simp only [Act.put, List.setIfInBounds_toArray, List.set_cons_zero, List.set_cons_succ])
                  refine wpAnyH_take (i := 9) (oi := ⟨some 82, _, _, _, _, _⟩) (v := ?_) rfl (by kernel_rfl) (by kernel_rfl) (by kernel_rfl) (fun _ _ _ h => h) (Or.inl ⟨by rfl, fun w' hSw => ?_⟩) (by assumption) ?_
                  rotate_left
                  · (try dsimp only at hSw); go_simp; (try with_reducible rfl)
                  (try simp only [Act.put, List.setIfInBounds_toArray, List.set_cons_zero, List.set_cons_succ])
                  refine wpAnyH_ready (rs := [4]) (by kernel_rfl) (by simp) ?_
                  refine AllReadyH.cons (o := ⟨some 77, _, _, _, _, _⟩) rfl (fun K hK => ?_) AllReadyH.nil
                  go_simp
                  (have BY := (BEL.out _ (by assumption)))
                  (refine (l3Live_any _ _ ts l B _ (HT.out.low (HB2.out.trans (BY.mono hsz2)) hB) (HL.out.low (HB2.out.trans (BY.mono hsz2)) hB) (by have := BY.size; omega) HV.out).mono ?_)
                  (rintro e w7 ⟨v7, rb7, rows7, base7, rfl, hbs7, hbr7, hl7, hi7, hrg7, hb7⟩)
                  (have BX7 := Lib.hid (BY.trans (hb7.mono BY.size)))
                  (have hk7 : np < rows7.length := by rw [hl7]; omega)
                  (obtain ⟨g7, c7, rfl, hg71, hg72, hrc7, hcell7, -⟩ := hbr7.form (by omega))
                  (have hck7 := hcell7 np hk7)
                  (have hrow7 := (hbr7.row np hk7).1)
                  (have hlk7 := hi7 np hk7)
                  (obtain ⟨gr, hgr⟩ : ∃ gr, gr = rb7.getD np 0 := ⟨_, rfl⟩)
                  (rw [← hgr] at hck7 hrow7)
                  clear hgr
                  (have hk71 : (np : Int) < (rows7.length : Int) := by omega)
                  (have hcx7 := row_bool hrow7 (v := xv) (by rw [hlk7]; exact hxv2))
                  (rw [HLV.out rows7 hrg7] at hcx7)
                  clear hbr7 hl7 hi7 hrg7 hb7 hcell7 hrow7 hlk7 BY
                  go_simp
                  refine hK.out _ _ ?_ (fun hHeld => ?_)
                  · exact ⟨(BX7.out.cell (p := ⟨w.heap.size, 0, none⟩) hx2).trans x0, (BX7.out.cell (p := ⟨w.heap.size, 1, none⟩) hx2).trans x1, (BX7.out.cell (p := ⟨g6, 1, none⟩) hu2).trans u1, BX7.out⟩
                  clear hK K
                  (try simp only [Act.put, List.setIfInBounds_toArray, List.set_cons_zero, List.set_cons_succ])
                  refine wpAnyH_take (i := 6) (oi := ⟨some 79, _, _, _, _, _⟩) (v := ?_) rfl (by kernel_rfl) (by kernel_rfl) (by kernel_rfl) (fun _ _ _ h => h) (Or.inl ⟨by rfl, fun w' hSw => ?_⟩) (by assumption) ?_
                  rotate_left
                  · (try dsimp only at hSw); go_simp; (try with_reducible rfl)
                  (try simp only [Act.put, List.setIfInBounds_toArray, List.set_cons_zero, List.set_cons_succ])
                  refine wpAnyH_ready (rs := [7]) (by kernel_rfl) (by simp) ?_
                  refine AllReadyH.cons (o := ⟨some 80, _, _, _, _, _⟩) rfl (fun K hK => ?_) AllReadyH.nil
                  go_simp
                  skip
                  refine hK.out _ _ ?_ (fun hHeld => ?_)
                  · assumption
                  clear hK K
                  (try simp only [Act.put, List.setIfInBounds_toArray, List.set_cons_zero, List.set_cons_succ])
                  refine wpAnyH_take (i := 10) (oi := ⟨some 83, _, _, _, _, _⟩) (v := ?_) rfl (by kernel_rfl) (by kernel_rfl) (by kernel_rfl) (fun _ _ _ h => h) (Or.inl ⟨by rfl, fun w' hSw => ?_⟩) (by assumption) ?_
                  rotate_left
                  · (try dsimp only at hSw); go_simp; (try with_reducible rfl)
                  (try simp only [Act.put, List.setIfInBounds_toArray, List.set_cons_zero, List.set_cons_succ])
                  refine wpAnyH_ready (rs := [11]) (by kernel_rfl) (by simp) ?_
                  refine AllReadyH.cons (o := ⟨some 84, _, _, _, _, _⟩) rfl (fun K hK => ?_) AllReadyH.nil
                  go_simp
                  skip
                  refine hK.out _ _ ?_ (fun hHeld => ?_)
                  · assumption
                  clear hK K
                  (try simp only [Act.put, List.setIfInBounds_toArray, List.set_cons_zero, List.set_cons_succ])
                  refine wpAnyH_take (i := 12) (oi := ⟨some 85, _, _, _, _, _⟩) (v := ?_) rfl (by kernel_rfl) (by kernel_rfl) (by kernel_rfl) (fun _ _ _ h => h) (Or.inl ⟨by rfl, fun w' hSw => ?_⟩) (by assumption) ?_
                  rotate_left
                  · (try dsimp only at hSw); go_simp; (try with_reducible rfl)
                  (try simp only [Act.put, List.setIfInBounds_toArray, List.set_cons_zero, List.set_cons_succ])
                  refine wpAnyH_done (by kernel_rfl) ?_ _
                  have HRZ := Lib.hid (HR2.out.low BX7.out hr2)
                  have HBZ := Lib.hid (HB2.out.trans (BX7.out.mono hsz2))
                  clear x0 x1 r0 r1 rf0 rf1 u0 u1 u2 BEL hHeld hck7 hcx7
                  have x0 := (BX7.out.cell (p := ⟨w.heap.size, 0, none⟩) hx2).trans (HX2.out.cell 0)
                  have x1 := (BX7.out.cell (p := ⟨w.heap.size, 1, none⟩) hx2).trans (HX2.out.cell 1)
                  have r0 := HRZ.out.cell 0
                  have r1 := HRZ.out.cell 1
                  have rf0 := HRZ.out.frozen 0
                  have rf1 := HRZ.out.frozen 1
                  simp only [List.getElem?_cons_zero, List.getElem?_cons_succ] at x0 x1 r0 r1
                  have HNO := Lib.hid (NO.out w7 HBZ.out (by rw [HDD.out, HH.out]; simp))
                  go_wp2_with (at_builtin; fail)
                  have HR7 : RowB (w7.setCells (w.heap.size + 1) 0 [.slice none 0 0, .slice none 0 0]) (w.heap.size + 1) 26 _ := HRZ.out.putAll _ rfl
                  exact bodyPost_ret (res_box (p := 4) (u := 5) (ty := 26) rfl _ _ (w.heap.size + 1) 26 _ (0, 0) _ rfl HR7 Try.underlying26 rfl rfl) rfl HNO.out
              · have hq5 : (s.op == 5) = false := by simpa using h5
                by_cases h3 : s.op = 3
                · have hq3 : (s.op == 3) = true := by rw [h3]; rfl
                  obtain ⟨hx0', hxl', hxy, hy0', hyl'⟩ := HSO.out h3
                  obtain ⟨tb, tof, tc, et, htb, htc, htl, hcx⟩ := (HT.out.low HB2.out hB).get hy0' hyl'
                  injection et with et1 et9 et2
                  subst et1 et2
                  clear et9
                  have hyl9 : s.y < (ts.length : Int) := hyl'
                  obtain ⟨tt, htt⟩ : ∃ tt, tt = typeOfP ts s.y := ⟨_, rfl⟩
                  rw [← htt] at hcx
                  have HDE : Hid (deadB ts s = (tt == 1 || tt == 3)) := Lib.hid (by unfold deadB; rw [h3, ← htt]; rfl)
                  clear htt hxy
                  by_cases t1 : tt = 1
                  · have ht1 : (tt == 1) = true := by rw [t1]; rfl
                    have HDB : deadB ts s = true := by rw [HDE.out, t1]; rfl
                    obtain ⟨hxv1, hxv2⟩ := HSX.out HDB
                    obtain ⟨xv, hxv⟩ : ∃ xv : Nat, s.x = xv := ⟨s.x.toNat, by omega⟩
                    rw [hxv] at u1 HDD
                    have HLV := Lib.hid (fun rows h => HLV.out rows h xv hxv (by omega))
                    rw [hxv] at HLV
                    have hxv3 : (xv : Int) < (ts.length : Int) := by omega
                    have hxv2 : xv < ts.length := by omega
                    clear hxv1
                    cases hh : hasP (liveRes ts l ((np : Nat) : Int)) ((xv : Nat) : Int)
                    · have HH := Lib.hid hh
                      rw [hh] at HLV
                      clear hh
                      have BEL : Hid (∀ w', w'.cell? ⟨w.heap.size, 0, none⟩ = some (.slice (some ⟨tb, tof, none⟩) ts.length ct) ∧ w'.cell? ⟨w.heap.size, 1, none⟩ = some (.slice (some ⟨b, off, none⟩) l.length cb) ∧ w'.cell? ⟨g6, 1, none⟩ = some (.int .i64 xv) ∧ Below w5.heap.size w5 w' → Below w5.heap.size w5 w') := Lib.hid fun _ h => h.2.2.2
                      go_wp2_with (at_builtin; fail)
                      refine wp_region_held_drew (S := (fun w' => w'.cell? ⟨w.heap.size, 0, none⟩ = some (.slice (some ⟨tb, tof, none⟩) ts.length ct) ∧ w'.cell? ⟨w.heap.size, 1, none⟩ = some (.slice (some ⟨b, off, none⟩) l.length cb) ∧ w'.cell? ⟨g6, 1, none⟩ = some (.int .i64 xv) ∧ Below w5.heap.size w5 w')) (by kernel_rfl) ?_ (fun hHeld => ?_)
                      · exact ⟨x0, x1, u1, (Below.refl _ _).drew⟩
                      refine wpAnyH_take (i := 0) (oi := ⟨some 73, _, _, _, _, _⟩) (v := ?_) rfl (by kernel_rfl) (by kernel_rfl) (by kernel_rfl) (fun _ _ _ h => h) (Or.inl ⟨by rfl, fun w' hSw => ?_⟩) (by assumption) ?_
                      rotate_left
                      · (try dsimp only at hSw); go_simp; (try with_reducible rfl)
                      (try simp only [Act.put, List.setIfInBounds_toArray, List.set_cons_zero, List.set_cons_succ])
                      refine wpAnyH_take (i := 1) (oi := ⟨some 74, _, _, _, _, _⟩) (v := ?_) rfl (by kernel_rfl) (by kernel_rfl) (by kernel_rfl) (fun _ _ _ h => h) (Or.inl ⟨by rfl, fun w' hSw => ?_⟩) (by assumption) ?_
                      rotate_left
                      · (try dsimp only at hSw); go_simp; (try with_reducible rfl)
                      (try simp only [Act.put, List.setIfInBounds_toArray, List.set_cons_zero, List.set_cons_succ])
                      refine wpAnyH_take (i := 2) (oi := ⟨some 75, _, _, _, _, _⟩) (v := ?_) rfl (by kernel_rfl) (by kernel_rfl) (by kernel_rfl) (fun _ _ _ h => h) (Or.inl ⟨by rfl, fun w' hSw => ?_⟩) (by assumption) ?_
                      rotate_left
                      · (try dsimp only at hSw); go_simp; (try with_reducible rfl)
                      (try simp only [Act.put, List.setIfInBounds_toArray, List.set_cons_zero, List.set_cons_succ])
                      refine wpAnyH_take (i := 3) (oi := ⟨some 76, _, _, _, _, _⟩) (v := ?_) rfl (by kernel_rfl) (by kernel_rfl) (by kernel_rfl) (fun _ _ _ h => h) (Or.inl ⟨by rfl, fun w' hSw => ?_⟩) (by assumption) ?_
                      rotate_left
                      · (try dsimp only at hSw); go_simp; (try with_reducible rfl)
                      (try simp only [Act.put, List.setIfInBounds_toArray, List.set_cons_zero, List.set_cons_succ])
                      refine wpAnyH_take (i := 5) (oi := ⟨some 78, _, _, _, _, _⟩) (v := ?_) rfl (by kernel_rfl) (by kernel_rfl) (by kernel_rfl) (fun _ _ _ h => h) (Or.inl ⟨by rfl, fun w' hSw => ?_⟩) (by assumption) ?_
                      rotate_left
                      · (try dsimp only at hSw); go_simp; (try with_reducible rfl)
                      (try simp only [Act.put, List.setIfInBounds_toArray, List.set_cons_zero, List.set_cons_succ])
                      refine wpAnyH_take (i := 8) (oi := ⟨some 81, _, _, _, _, _⟩) (v := ?_) rfl (by kernel_rfl) (by kernel_rfl) (by kernel_rfl) (fun _ _ _ h => h) (Or.inl ⟨by rfl, fun w' hSw => ?_⟩) (by assumption) ?_
                      rotate_left
                      · (try dsimp only at hSw); go_simp; (try with_reducible rfl)
                      (try simp only [Act.put, List.setIfInBounds_toArray, List.set_cons_zero, List.set_cons_succ])
                      refine wpAnyH_take (i := 9) (oi := ⟨some 82, _, _, _, _, _⟩) (v := ?_) rfl (by kernel_rfl) (by kernel_rfl) (by kernel_rfl) (fun _ _ _ h => h) (Or.inl ⟨by rfl, fun w' hSw => ?_⟩) (by assumption) ?_
                      rotate_left
                      · (try dsimp only at hSw); go_simp; (try with_reducible rfl)
                      (try simp only [Act.put, List.setIfInBounds_toArray, List.set_cons_zero, List.set_cons_succ])
                      refine wpAnyH_ready (rs := [4]) (by kernel_rfl) (by simp) ?_
                      refine AllReadyH.cons (o := ⟨some 77, _, _, _, _, _⟩) rfl (fun K hK => ?_) AllReadyH.nil
                      go_simp
                      (have BY := (BEL.out _ (by assumption)))
                      (refine (l3Live_any _ _ ts l B _ (HT.out.low (HB2.out.trans (BY.mono hsz2)) hB) (HL.out.low (HB2.out.trans (BY.mono hsz2)) hB) (by have := BY.size; omega) HV.out).mono ?_)
                      (rintro e w7 ⟨v7, rb7, rows7, base7, rfl, hbs7, hbr7, hl7, hi7, hrg7, hb7⟩)
                      (have BX7 := Lib.hid (BY.trans (hb7.mono BY.size)))
                      (have hk7 : np < rows7.length := by rw [hl7]; omega)
                      (obtain ⟨g7, c7, rfl, hg71, hg72, hrc7, hcell7, -⟩ := hbr7.form (by omega))
                      (have hck7 := hcell7 np hk7)
                      (have hrow7 := (hbr7.row np hk7).1)
                      (have hlk7 := hi7 np hk7)
                      (obtain ⟨gr, hgr⟩ : ∃ gr, gr = rb7.getD np 0 := ⟨_, rfl⟩)
                      (rw [← hgr] at hck7 hrow7)
                      clear hgr
                      (have hk71 : (np : Int) < (rows7.length : Int) := by omega)
                      (have hcx7 := row_bool hrow7 (v := xv) (by rw [hlk7]; exact hxv2))
                      (rw [HLV.out rows7 hrg7] at hcx7)
                      clear hbr7 hl7 hi7 hrg7 hb7 hcell7 hrow7 hlk7 BY
                      go_simp
                      refine hK.out _ _ ?_ (fun hHeld => ?_)
                      · exact ⟨(BX7.out.cell (p := ⟨w.heap.size, 0, none⟩) hx2).trans x0, (BX7.out.cell (p := ⟨w.heap.size, 1, none⟩) hx2).trans x1, (BX7.out.cell (p := ⟨g6, 1, none⟩) hu2).trans u1, BX7.out⟩
                      clear hK K
                      (try simp only [Act.put, List.setIfInBounds_toArray, List.set_cons_zero, List.set_cons_succ])
                      refine wpAnyH_take (i := 6) (oi := ⟨some 79, _, _, _, _, _⟩) (v := ?_) rfl (by kernel_rfl) (by kernel_rfl) (by kernel_rfl) (fun _ _ _ h => h) (Or.inl ⟨by rfl, fun w' hSw => ?_⟩) (by assumption) ?_
                      rotate_left
                      · (try dsimp only at hSw); go_simp; (try with_reducible rfl)
                      (try simp only [Act.put, List.setIfInBounds_toArray, List.set_cons_zero, List.set_cons_succ])
                      refine wpAnyH_ready (rs := [7]) (by kernel_rfl) (by simp) ?_
                      refine AllReadyH.cons (o := ⟨some 80, _, _, _, _, _⟩) rfl (fun K hK => ?_) AllReadyH.nil
                      go_simp
                      skip
                      refine hK.out _ _ ?_ (fun hHeld => ?_)
                      · assumption
                      clear hK K
                      (try simp only [Act.put, List.setIfInBounds_toArray, List.set_cons_zero, List.set_cons_succ])
                      refine wpAnyH_take (i := 10) (oi := ⟨some 83, _, _, _, _, _⟩) (v := ?_) rfl (by kernel_rfl) (by kernel_rfl) (by kernel_rfl) (fun _ _ _ h => h) (Or.inl ⟨by rfl, fun w' hSw => ?_⟩) (by assumption) ?_
                      rotate_left
                      · (try dsimp only at hSw); go_simp; (try with_reducible rfl)
                      (try simp only [Act.put, List.setIfInBounds_toArray, List.set_cons_zero, List.set_cons_succ])
                      refine wpAnyH_ready (rs := [11]) (by kernel_rfl) (by simp) ?_
                      refine AllReadyH.cons (o := ⟨some 84, _, _, _, _, _⟩) rfl (fun K hK => ?_) AllReadyH.nil
                      go_simp
                      skip
                      refine hK.out _ _ ?_ (fun hHeld => ?_)
                      · assumption
                      clear hK K
                      (try simp only [Act.put, List.setIfInBounds_toArray, List.set_cons_zero, List.set_cons_succ])
                      refine wpAnyH_take (i := 12) (oi := ⟨some 85, _, _, _, _, _⟩) (v := ?_) rfl (by kernel_rfl) (by kernel_rfl) (by kernel_rfl) (fun _ _ _ h => h) (Or.inl ⟨by rfl, fun w' hSw => ?_⟩) (by assumption) ?_
                      rotate_left
                      · (try dsimp only at hSw); go_simp; (try with_reducible rfl)
                      (try simp only [Act.put, List.setIfInBounds_toArray, List.set_cons_zero, List.set_cons_succ])
                      refine wpAnyH_done (by kernel_rfl) ?_ _
                      have HRZ := Lib.hid (HR2.out.low BX7.out hr2)
                      have HBZ := Lib.hid (HB2.out.trans (BX7.out.mono hsz2))
                      clear x0 x1 r0 r1 rf0 rf1 u0 u1 u2 BEL hHeld hck7 hcx7
                      have x0 := (BX7.out.cell (p := ⟨w.heap.size, 0, none⟩) hx2).trans (HX2.out.cell 0)
                      have x1 := (BX7.out.cell (p := ⟨w.heap.size, 1, none⟩) hx2).trans (HX2.out.cell 1)
                      have r0 := HRZ.out.cell 0
                      have r1 := HRZ.out.cell 1
                      have rf0 := HRZ.out.frozen 0
                      have rf1 := HRZ.out.frozen 1
                      simp only [List.getElem?_cons_zero, List.getElem?_cons_succ] at x0 x1 r0 r1
                      have HYES : Hid (ddOk ts l (q : Int) = true) := Lib.hid (by rw [HDD.out, HH.out, HDB]; rfl)
                      go_wp2_with (at_builtin; fail)
                      refine (sDropStmt_any _ _ ts l (q : Int) B w7 (HT.out.low HBZ.out hB) (HL.out.low HBZ.out hB) (by have := HBZ.out.size; omega) hsz).mono ?_
                      rintro e w9 ⟨vt3, vb3, rfl, hoi, hdt, hb3⟩
                      rw [HOK.out] at hoi hdt
                      simp only [if_true, Int.toNat_natCast] at hoi hdt
                      have hsz7 := HBZ.out.size
                      have hrz := HRZ.out.lt
                      have HB9 := Lib.hid (HBZ.out.trans (hb3.mono hsz7))
                      have HR9 := Lib.hid (HRZ.out.low hb3 hrz)
                      have HOI := Lib.hid hoi
                      have HDT := Lib.hid hdt
                      obtain ⟨A8, c8, rfl, -, -, -⟩ := id hoi
                      obtain ⟨A9, c9, rfl, -⟩ := hdt.slice
                      have HL2 : Hid ((if ddOk ts l (q : Int) then l.eraseIdx (q : Int).toNat else []) = l.eraseIdx q) := Lib.hid (by rw [HYES.out]; rfl)
                      have HT2 : Hid ((if ddOk ts l (q : Int) then ts else []) = ts) := Lib.hid (by rw [HYES.out]; rfl)
                      generalize l.eraseIdx q = l2 at *
                      rw [HOK.out]
                      clear x0 x1 r0 r1 rf0 rf1 hb3 hoi hdt
                      have r0 := HR9.out.cell 0
                      have r1 := HR9.out.cell 1
                      have rf0 := HR9.out.frozen 0
                      have rf1 := HR9.out.frozen 1
                      simp only [List.getElem?_cons_zero, List.getElem?_cons_succ] at r0 r1
                      go_wp2_with (at_builtin; fail)
                      have HR7 : RowB (w9.setCells (w.heap.size + 1) 0 [.slice A8 ts.length c8, .slice A9 l2.length c9]) (w.heap.size + 1) 26 _ := HR9.out.putAll _ rfl
                      have HB7 := HB9.out.trans (below_putL (B := w.heap.size) (g := w.heap.size + 1) (by omega) [.slice A8 ts.length c8, .slice A9 l2.length c9] 0 w9)
                      have hz7 : (w9.setCells (w.heap.size + 1) 0 [.slice A8 ts.length c8, .slice A9 l2.length c9]).heap.size = w9.heap.size := size_putL _ _ _
                      have hf7 := IntS.setBox HOI.out HR9.out [.slice A8 ts.length c8, .slice A9 l2.length c9]
                      have hf8 := StS.setBox HDT.out HR9.out [.slice A8 ts.length c8, .slice A9 l2.length c9]
                      rw [← hz7] at hf7 hf8
                      exact bodyPost_ret (res_box (p := 4) (u := 5) (ty := 26) rfl _ _ (w.heap.size + 1) 26 _ (0, 0) _ rfl HR7 Try.underlying26 rfl rfl) rfl ⟨_, _, by rw [HYES.out]; rfl, by rw [HT2.out]; exact hf7, by rw [HL2.out]; exact hf8, HB7⟩
                    · have HH := Lib.hid hh
                      rw [hh] at HLV
                      clear hh
                      have BEL : Hid (∀ w', w'.cell? ⟨w.heap.size, 0, none⟩ = some (.slice (some ⟨tb, tof, none⟩) ts.length ct) ∧ w'.cell? ⟨w.heap.size, 1, none⟩ = some (.slice (some ⟨b, off, none⟩) l.length cb) ∧ w'.cell? ⟨g6, 1, none⟩ = some (.int .i64 xv) ∧ Below w5.heap.size w5 w' → Below w5.heap.size w5 w') := Lib.hid fun _ h => h.2.2.2
                      go_wp2_with (at_builtin; fail)
                      refine wp_region_held_drew (S := (fun w' => w'.cell? ⟨w.heap.size, 0, none⟩ = some (.slice (some ⟨tb, tof, none⟩) ts.length ct) ∧ w'.cell? ⟨w.heap.size, 1, none⟩ = some (.slice (some ⟨b, off, none⟩) l.length cb) ∧ w'.cell? ⟨g6, 1, none⟩ = some (.int .i64 xv) ∧ Below w5.heap.size w5 w')) (by kernel_rfl) ?_ (fun hHeld => ?_)
                      · exact ⟨x0, x1, u1, (Below.refl _ _).drew⟩
                      refine wpAnyH_take (i := 0) (oi := ⟨some 73, _, _, _, _, _⟩) (v := ?_) rfl (by kernel_rfl) (by kernel_rfl) (by kernel_rfl) (fun _ _ _ h => h) (Or.inl ⟨by rfl, fun w' hSw => ?_⟩) (by assumption) ?_
                      rotate_left
                      · (try dsimp only at hSw); go_simp; (try with_reducible rfl)
                      (try simp only [Act.put, List.setIfInBounds_toArray, List.set_cons_zero, List.set_cons_succ])
                      refine wpAnyH_take (i := 1) (oi := ⟨some 74, _, _, _, _, _⟩) (v := ?_) rfl (by kernel_rfl) (by kernel_rfl) (by kernel_rfl) (fun _ _ _ h => h) (Or.inl ⟨by rfl, fun w' hSw => ?_⟩) (by assumption) ?_
                      rotate_left
                      · (try dsimp only at hSw); go_simp; (try with_reducible rfl)
                      (try simp only [Act.put, List.setIfInBounds_toArray, List.set_cons_zero, List.set_cons_succ])
                      refine wpAnyH_take (i := 2) (oi := ⟨some 75, _, _, _, _, _⟩) (v := ?_) rfl (by kernel_rfl) (by kernel_rfl) (by kernel_rfl) (fun _ _ _ h => h) (Or.inl ⟨by rfl, fun w' hSw => ?_⟩) (by assumption) ?_
                      rotate_left
                      · (try dsimp only at hSw); go_simp; (try with_reducible rfl)
                      (try simp only [Act.put, List.setIfInBounds_toArray, List.set_cons_zero, List.set_cons_succ])
                      refine wpAnyH_take (i := 3) (oi := ⟨some 76, _, _, _, _, _⟩) (v := ?_) rfl (by kernel_rfl) (by kernel_rfl) (by kernel_rfl) (fun _ _ _ h => h) (Or.inl ⟨by rfl, fun w' hSw => ?_⟩) (by assumption) ?_
                      rotate_left
                      · (try dsimp only at hSw); go_simp; (try with_reducible rfl)
                      (try simp only [Act.put, List.setIfInBounds_toArray, List.set_cons_zero, List.set_cons_succ])
                      refine wpAnyH_take (i := 5) (oi := ⟨some 78, _, _, _, _, _⟩) (v := ?_) rfl (by kernel_rfl) (by kernel_rfl) (by kernel_rfl) (fun _ _ _ h => h) (Or.inl ⟨by rfl, fun w' hSw => ?_⟩) (by assumption) ?_
                      rotate_left
                      · (try dsimp only at hSw); go_simp; (try with_reducible rfl)
                      (try simp only [Act.put, List.setIfInBounds_toArray, List.set_cons_zero, List.set_cons_succ])
                      refine wpAnyH_take (i := 8) (oi := ⟨some 81, _, _, _, _, _⟩) (v := ?_) rfl (by kernel_rfl) (by kernel_rfl) (by kernel_rfl) (fun _ _ _ h => h) (Or.inl ⟨by rfl, fun w' hSw => ?_⟩) (by assumption) ?_
                      rotate_left
                      · (try dsimp only at hSw); go_simp; (try with_reducible rfl)
                      (try simp only [Act.put, List.setIfInBounds_toArray, List.set_cons_zero, List.set_cons_succ])
                      refine wpAnyH_take (i := 9) (oi := ⟨some 82, _, _, _, _, _⟩) (v := ?_) rfl (by kernel_rfl) (by kernel_rfl) (by kernel_rfl) (fun _ _ _ h => h) (Or.inl ⟨by rfl, fun w' hSw => ?_⟩) (by assumption) ?_
                      rotate_left
                      · (try dsimp only at hSw); go_simp; (try with_reducible rfl)
                      (try simp only [Act.put, List.setIfInBounds_toArray, List.set_cons_zero, List.set_cons_succ])
                      refine wpAnyH_ready (rs := [4]) (by kernel_rfl) (by simp) ?_
                      refine AllReadyH.cons (o := ⟨some 77, _, _, _, _, _⟩) rfl (fun K hK => ?_) AllReadyH.nil
                      go_simp
                      (have BY := (BEL.out _ (by assumption)))
                      (refine (l3Live_any _ _ ts l B _ (HT.out.low (HB2.out.trans (BY.mono hsz2)) hB) (HL.out.low (HB2.out.trans (BY.mono hsz2)) hB) (by have := BY.size; omega) HV.out).mono ?_)
                      (rintro e w7 ⟨v7, rb7, rows7, base7, rfl, hbs7, hbr7, hl7, hi7, hrg7, hb7⟩)
                      (have BX7 := Lib.hid (BY.trans (hb7.mono BY.size)))
                      (have hk7 : np < rows7.length := by rw [hl7]; omega)
                      (obtain ⟨g7, c7, rfl, hg71, hg72, hrc7, hcell7, -⟩ := hbr7.form (by omega))
                      (have hck7 := hcell7 np hk7)
                      (have hrow7 := (hbr7.row np hk7).1)
                      (have hlk7 := hi7 np hk7)
                      (obtain ⟨gr, hgr⟩ : ∃ gr, gr = rb7.getD np 0 := ⟨_, rfl⟩)
                      (rw [← hgr] at hck7 hrow7)
                      clear hgr
                      (have hk71 : (np : Int) < (rows7.length : Int) := by omega)
                      (have hcx7 := row_bool hrow7 (v := xv) (by rw [hlk7]; exact hxv2))
                      (rw [HLV.out rows7 hrg7] at hcx7)
                      clear hbr7 hl7 hi7 hrg7 hb7 hcell7 hrow7 hlk7 BY
                      go_simp
                      refine hK.out _ _ ?_ (fun hHeld => ?_)
                      · exact ⟨(BX7.out.cell (p := ⟨w.heap.size, 0, none⟩) hx2).trans x0, (BX7.out.cell (p := ⟨w.heap.size, 1, none⟩) hx2).trans x1, (BX7.out.cell (p := ⟨g6, 1, none⟩) hu2).trans u1, BX7.out⟩
                      clear hK K
                      (try simp only [Act.put, List.setIfInBounds_toArray, List.set_cons_zero, List.set_cons_succ])
                      refine wpAnyH_take (i := 6) (oi := ⟨some 79, _, _, _, _, _⟩) (v := ?_) rfl (by kernel_rfl) (by kernel_rfl) (by kernel_rfl) (fun _ _ _ h => h) (Or.inl ⟨by rfl, fun w' hSw => ?_⟩) (by assumption) ?_
                      rotate_left
                      · (try dsimp only at hSw); go_simp; (try with_reducible rfl)
                      (try simp only [Act.put, List.setIfInBounds_toArray, List.set_cons_zero, List.set_cons_succ])
                      refine wpAnyH_ready (rs := [7]) (by kernel_rfl) (by simp) ?_
                      refine AllReadyH.cons (o := ⟨some 80, _, _, _, _, _⟩) rfl (fun K hK => ?_) AllReadyH.nil
                      go_simp
                      skip
                      refine hK.out _ _ ?_ (fun hHeld => ?_)
                      · assumption
                      clear hK K
                      (try simp only [Act.put, List.setIfInBounds_toArray, List.set_cons_zero, List.set_cons_succ])
                      refine wpAnyH_take (i := 10) (oi := ⟨some 83, _, _, _, _, _⟩) (v := ?_) rfl (by kernel_rfl) (by kernel_rfl) (by kernel_rfl) (fun _ _ _ h => h) (Or.inl ⟨by rfl, fun w' hSw => ?_⟩) (by assumption) ?_
                      rotate_left
                      · (try dsimp only at hSw); go_simp; (try with_reducible rfl)
                      (try simp only [Act.put, List.setIfInBounds_toArray, List.set_cons_zero, List.set_cons_succ])
                      refine wpAnyH_ready (rs := [11]) (by kernel_rfl) (by simp) ?_
                      refine AllReadyH.cons (o := ⟨some 84, _, _, _, _, _⟩) rfl (fun K hK => ?_) AllReadyH.nil
                      go_simp
                      skip
                      refine hK.out _ _ ?_ (fun hHeld => ?_)
                      · assumption
                      clear hK K
                      (try simp only [Act.put, List.setIfInBounds_toArray, List.set_cons_zero, List.set_cons_succ])
                      refine wpAnyH_take (i := 12) (oi := ⟨some 85, _, _, _, _, _⟩) (v := ?_) rfl (by kernel_rfl) (by kernel_rfl) (by kernel_rfl) (fun _ _ _ h => h) (Or.inl ⟨by rfl, fun w' hSw => ?_⟩) (by assumption) ?_
                      rotate_left
                      · (try dsimp only at hSw); go_simp; (try with_reducible rfl)
                      (try simp only [Act.put, List.setIfInBounds_toArray, List.set_cons_zero, List.set_cons_succ])
                      refine wpAnyH_done (by kernel_rfl) ?_ _
                      have HRZ := Lib.hid (HR2.out.low BX7.out hr2)
                      have HBZ := Lib.hid (HB2.out.trans (BX7.out.mono hsz2))
                      clear x0 x1 r0 r1 rf0 rf1 u0 u1 u2 BEL hHeld hck7 hcx7
                      have x0 := (BX7.out.cell (p := ⟨w.heap.size, 0, none⟩) hx2).trans (HX2.out.cell 0)
                      have x1 := (BX7.out.cell (p := ⟨w.heap.size, 1, none⟩) hx2).trans (HX2.out.cell 1)
                      have r0 := HRZ.out.cell 0
                      have r1 := HRZ.out.cell 1
                      have rf0 := HRZ.out.frozen 0
                      have rf1 := HRZ.out.frozen 1
                      simp only [List.getElem?_cons_zero, List.getElem?_cons_succ] at x0 x1 r0 r1
                      have HNO := Lib.hid (NO.out w7 HBZ.out (by rw [HDD.out, HH.out]; simp))
                      go_wp2_with (at_builtin; fail)
                      have HR7 : RowB (w7.setCells (w.heap.size + 1) 0 [.slice none 0 0, .slice none 0 0]) (w.heap.size + 1) 26 _ := HRZ.out.putAll _ rfl
                      exact bodyPost_ret (res_box (p := 4) (u := 5) (ty := 26) rfl _ _ (w.heap.size + 1) 26 _ (0, 0) _ rfl HR7 Try.underlying26 rfl rfl) rfl HNO.out
                  · have ht1 : (tt == 1) = false := by simpa using t1
                    by_cases t3 : tt = 3
                    · have ht3 : (tt == 3) = true := by rw [t3]; rfl
                      have HDB : deadB ts s = true := by rw [HDE.out, t3]; rfl
                      obtain ⟨hxv1, hxv2⟩ := HSX.out HDB
                      obtain ⟨xv, hxv⟩ : ∃ xv : Nat, s.x = xv := ⟨s.x.toNat, by omega⟩
                      rw [hxv] at u1 HDD
                      have HLV := Lib.hid (fun rows h => HLV.out rows h xv hxv (by omega))
                      rw [hxv] at HLV
                      have hxv3 : (xv : Int) < (ts.length : Int) := by omega
                      have hxv2 : xv < ts.length := by omega
                      clear hxv1
                      cases hh : hasP (liveRes ts l ((np : Nat) : Int)) ((xv : Nat) : Int)
                      · have HH := Lib.hid hh
                        rw [hh] at HLV
                        clear hh
                        have BEL : Hid (∀ w', w'.cell? ⟨w.heap.size, 0, none⟩ = some (.slice (some ⟨tb, tof, none⟩) ts.length ct) ∧ w'.cell? ⟨w.heap.size, 1, none⟩ = some (.slice (some ⟨b, off, none⟩) l.length cb) ∧ w'.cell? ⟨g6, 1, none⟩ = some (.int .i64 xv) ∧ Below w5.heap.size w5 w' → Below w5.heap.size w5 w') := Lib.hid fun _ h => h.2.2.2
                        go_wp2_with (at_builtin; fail)
                        refine wp_region_held_drew (S := (fun w' => w'.cell? ⟨w.heap.size, 0, none⟩ = some (.slice (some ⟨tb, tof, none⟩) ts.length ct) ∧ w'.cell? ⟨w.heap.size, 1, none⟩ = some (.slice (some ⟨b, off, none⟩) l.length cb) ∧ w'.cell? ⟨g6, 1, none⟩ = some (.int .i64 xv) ∧ Below w5.heap.size w5 w')) (by kernel_rfl) ?_ (fun hHeld => ?_)
                        · exact ⟨x0, x1, u1, (Below.refl _ _).drew⟩
                        refine wpAnyH_take (i := 0) (oi := ⟨some 73, _, _, _, _, _⟩) (v := ?_) rfl (by kernel_rfl) (by kernel_rfl) (by kernel_rfl) (fun _ _ _ h => h) (Or.inl ⟨by rfl, fun w' hSw => ?_⟩) (by assumption) ?_
                        rotate_left
                        · (try dsimp only at hSw); go_simp; (try with_reducible rfl)
                        (try simp only [Act.put, List.setIfInBounds_toArray, List.set_cons_zero, List.set_cons_succ])
                        refine wpAnyH_take (i := 1) (oi := ⟨some 74, _, _, _, _, _⟩) (v := ?_) rfl (by kernel_rfl) (by kernel_rfl) (by kernel_rfl) (fun _ _ _ h => h) (Or.inl ⟨by rfl, fun w' hSw => ?_⟩) (by assumption) ?_
                        rotate_left
                        · (try dsimp only at hSw); go_simp; (try with_reducible rfl)
                        (try simp only [Act.put, List.setIfInBounds_toArray, List.set_cons_zero, List.set_cons_succ])
                        refine wpAnyH_take (i := 2) (oi := ⟨some 75, _, _, _, _, _⟩) (v := ?_) rfl (by kernel_rfl) (by kernel_rfl) (by kernel_rfl) (fun _ _ _ h => h) (Or.inl ⟨by rfl, fun w' hSw => ?_⟩) (by assumption) ?_
                        rotate_left
                        · (try dsimp only at hSw); go_simp; (try with_reducible rfl)
                        (try simp only [Act.put, List.setIfInBounds_toArray, List.set_cons_zero, List.set_cons_succ])
                        refine wpAnyH_take (i := 3) (oi := ⟨some 76, _, _, _, _, _⟩) (v := ?_) rfl (by kernel_rfl) (by kernel_rfl) (by kernel_rfl) (fun _ _ _ h => h) (Or.inl ⟨by rfl, fun w' hSw => ?_⟩) (by assumption) ?_
                        rotate_left
                        · (try dsimp only at hSw); go_simp; (try with_reducible rfl)
                        (try simp only [Act.put, List.setIfInBounds_toArray, List.set_cons_zero, List.set_cons_succ])
                        refine wpAnyH_take (i := 5) (oi := ⟨some 78, _, _, _, _, _⟩) (v := ?_) rfl (by kernel_rfl) (by kernel_rfl) (by kernel_rfl) (fun _ _ _ h => h) (Or.inl ⟨by rfl, fun w' hSw => ?_⟩) (by assumption) ?_
                        rotate_left
                        · (try dsimp only at hSw); go_simp; (try with_reducible rfl)
                        (try simp only [Act.put, List.setIfInBounds_toArray, List.set_cons_zero, List.set_cons_succ])
                        refine wpAnyH_take (i := 8) (oi := ⟨some 81, _, _, _, _, _⟩) (v := ?_) rfl (by kernel_rfl) (by kernel_rfl) (by kernel_rfl) (fun _ _ _ h => h) (Or.inl ⟨by rfl, fun w' hSw => ?_⟩) (by assumption) ?_
                        rotate_left
                        · (try dsimp only at hSw); go_simp; (try with_reducible rfl)
                        (try simp only [Act.put, List.setIfInBounds_toArray, List.set_cons_zero, List.set_cons_succ])
                        refine wpAnyH_take (i := 9) (oi := ⟨some 82, _, _, _, _, _⟩) (v := ?_) rfl (by kernel_rfl) (by kernel_rfl) (by kernel_rfl) (fun _ _ _ h => h) (Or.inl ⟨by rfl, fun w' hSw => ?_⟩) (by assumption) ?_
                        rotate_left
                        · (try dsimp only at hSw); go_simp; (try with_reducible rfl)
                        (try simp only [Act.put, List.setIfInBounds_toArray, List.set_cons_zero, List.set_cons_succ])
                        refine wpAnyH_ready (rs := [4]) (by kernel_rfl) (by simp) ?_
                        refine AllReadyH.cons (o := ⟨some 77, _, _, _, _, _⟩) rfl (fun K hK => ?_) AllReadyH.nil
                        go_simp
                        (have BY := (BEL.out _ (by assumption)))
                        (refine (l3Live_any _ _ ts l B _ (HT.out.low (HB2.out.trans (BY.mono hsz2)) hB) (HL.out.low (HB2.out.trans (BY.mono hsz2)) hB) (by have := BY.size; omega) HV.out).mono ?_)
                        (rintro e w7 ⟨v7, rb7, rows7, base7, rfl, hbs7, hbr7, hl7, hi7, hrg7, hb7⟩)
                        (have BX7 := Lib.hid (BY.trans (hb7.mono BY.size)))
                        (have hk7 : np < rows7.length := by rw [hl7]; omega)
                        (obtain ⟨g7, c7, rfl, hg71, hg72, hrc7, hcell7, -⟩ := hbr7.form (by omega))
                        (have hck7 := hcell7 np hk7)
                        (have hrow7 := (hbr7.row np hk7).1)
                        (have hlk7 := hi7 np hk7)
                        (obtain ⟨gr, hgr⟩ : ∃ gr, gr = rb7.getD np 0 := ⟨_, rfl⟩)
                        (rw [← hgr] at hck7 hrow7)
                        clear hgr
                        (have hk71 : (np : Int) < (rows7.length : Int) := by omega)
                        (have hcx7 := row_bool hrow7 (v := xv) (by rw [hlk7]; exact hxv2))
                        (rw [HLV.out rows7 hrg7] at hcx7)
                        clear hbr7 hl7 hi7 hrg7 hb7 hcell7 hrow7 hlk7 BY
                        go_simp
                        refine hK.out _ _ ?_ (fun hHeld => ?_)
                        · exact ⟨(BX7.out.cell (p := ⟨w.heap.size, 0, none⟩) hx2).trans x0, (BX7.out.cell (p := ⟨w.heap.size, 1, none⟩) hx2).trans x1, (BX7.out.cell (p := ⟨g6, 1, none⟩) hu2).trans u1, BX7.out⟩
                        clear hK K
                        (try simp only [Act.put, List.setIfInBounds_toArray, List.set_cons_zero, List.set_cons_succ])
                        refine wpAnyH_take (i := 6) (oi := ⟨some 79, _, _, _, _, _⟩) (v := ?_) rfl (by kernel_rfl) (by kernel_rfl) (by kernel_rfl) (fun _ _ _ h => h) (Or.inl ⟨by rfl, fun w' hSw => ?_⟩) (by assumption) ?_
                        rotate_left
                        · (try dsimp only at hSw); go_simp; (try with_reducible rfl)
                        (try simp only [Act.put, List.setIfInBounds_toArray, List.set_cons_zero, List.set_cons_succ])
                        refine wpAnyH_ready (rs := [7]) (by kernel_rfl) (by simp) ?_
                        refine AllReadyH.cons (o := ⟨some 80, _, _, _, _, _⟩) rfl (fun K hK => ?_) AllReadyH.nil
                        go_simp
                        skip
                        refine hK.out _ _ ?_ (fun hHeld => ?_)
                        · assumption
                        clear hK K
                        (try simp only [Act.put, List.setIfInBounds_toArray, List.set_cons_zero, List.set_cons_succ])
                        refine wpAnyH_take (i := 10) (oi := ⟨some 83, _, _, _, _, _⟩) (v := ?_) rfl (by kernel_rfl) (by kernel_rfl) (by kernel_rfl) (fun _ _ _ h => h) (Or.inl ⟨by rfl, fun w' hSw => ?_⟩) (by assumption) ?_
                        rotate_left
                        · (try dsimp only at hSw); go_simp; (try with_reducible rfl)
                        (try simp only [Act.put, List.setIfInBounds_toArray, List.set_cons_zero, List.set_cons_succ])
                        refine wpAnyH_ready (rs := [11]) (by kernel_rfl) (by simp) ?_
                        refine AllReadyH.cons (o := ⟨some 84, _, _, _, _, _⟩) rfl (fun K hK => ?_) AllReadyH.nil
                        go_simp
                        skip
                        refine hK.out _ _ ?_ (fun hHeld => ?_)
                        · assumption
                        clear hK K
                        (try simp only [Act.put, List.setIfInBounds_toArray, List.set_cons_zero, List.set_cons_succ])
                        refine wpAnyH_take (i := 12) (oi := ⟨some 85, _, _, _, _, _⟩) (v := ?_) rfl (by kernel_rfl) (by kernel_rfl) (by kernel_rfl) (fun _ _ _ h => h) (Or.inl ⟨by rfl, fun w' hSw => ?_⟩) (by assumption) ?_
                        rotate_left
                        · (try dsimp only at hSw); go_simp; (try with_reducible rfl)
                        (try simp only [Act.put, List.setIfInBounds_toArray, List.set_cons_zero, List.set_cons_succ])
                        refine wpAnyH_done (by kernel_rfl) ?_ _
                        have HRZ := Lib.hid (HR2.out.low BX7.out hr2)
                        have HBZ := Lib.hid (HB2.out.trans (BX7.out.mono hsz2))
                        clear x0 x1 r0 r1 rf0 rf1 u0 u1 u2 BEL hHeld hck7 hcx7
                        have x0 := (BX7.out.cell (p := ⟨w.heap.size, 0, none⟩) hx2).trans (HX2.out.cell 0)
                        have x1 := (BX7.out.cell (p := ⟨w.heap.size, 1, none⟩) hx2).trans (HX2.out.cell 1)
                        have r0 := HRZ.out.cell 0
                        have r1 := HRZ.out.cell 1
                        have rf0 := HRZ.out.frozen 0
                        have rf1 := HRZ.out.frozen 1
                        simp only [List.getElem?_cons_zero, List.getElem?_cons_succ] at x0 x1 r0 r1
                        have HYES : Hid (ddOk ts l (q : Int) = true) := Lib.hid (by rw [HDD.out, HH.out, HDB]; rfl)
                        go_wp2_with (at_builtin; fail)
                        refine (sDropStmt_any _ _ ts l (q : Int) B w7 (HT.out.low HBZ.out hB) (HL.out.low HBZ.out hB) (by have := HBZ.out.size; omega) hsz).mono ?_
                        rintro e w9 ⟨vt3, vb3, rfl, hoi, hdt, hb3⟩
                        rw [HOK.out] at hoi hdt
                        simp only [if_true, Int.toNat_natCast] at hoi hdt
                        have hsz7 := HBZ.out.size
                        have hrz := HRZ.out.lt
                        have HB9 := Lib.hid (HBZ.out.trans (hb3.mono hsz7))
                        have HR9 := Lib.hid (HRZ.out.low hb3 hrz)
                        have HOI := Lib.hid hoi
                        have HDT := Lib.hid hdt
                        obtain ⟨A8, c8, rfl, -, -, -⟩ := id hoi
                        obtain ⟨A9, c9, rfl, -⟩ := hdt.slice
                        have HL2 : Hid ((if ddOk ts l (q : Int) then l.eraseIdx (q : Int).toNat else []) = l.eraseIdx q) := Lib.hid (by rw [HYES.out]; rfl)
                        have HT2 : Hid ((if ddOk ts l (q : Int) then ts else []) = ts) := Lib.hid (by rw [HYES.out]; rfl)
                        generalize l.eraseIdx q = l2 at *
                        rw [HOK.out]
                        clear x0 x1 r0 r1 rf0 rf1 hb3 hoi hdt
                        have r0 := HR9.out.cell 0
                        have r1 := HR9.out.cell 1
                        have rf0 := HR9.out.frozen 0
                        have rf1 := HR9.out.frozen 1
                        simp only [List.getElem?_cons_zero, List.getElem?_cons_succ] at r0 r1
                        go_wp2_with (at_builtin; fail)
                        have HR7 : RowB (w9.setCells (w.heap.size + 1) 0 [.slice A8 ts.length c8, .slice A9 l2.length c9]) (w.heap.size + 1) 26 _ := HR9.out.putAll _ rfl
                        have HB7 := HB9.out.trans (below_putL (B := w.heap.size) (g := w.heap.size + 1) (by omega) [.slice A8 ts.length c8, .slice A9 l2.length c9] 0 w9)
                        have hz7 : (w9.setCells (w.heap.size + 1) 0 [.slice A8 ts.length c8, .slice A9 l2.length c9]).heap.size = w9.heap.size := size_putL _ _ _
                        have hf7 := IntS.setBox HOI.out HR9.out [.slice A8 ts.length c8, .slice A9 l2.length c9]
                        have hf8 := StS.setBox HDT.out HR9.out [.slice A8 ts.length c8, .slice A9 l2.length c9]
                        rw [← hz7] at hf7 hf8
                        exact bodyPost_ret (res_box (p := 4) (u := 5) (ty := 26) rfl _ _ (w.heap.size + 1) 26 _ (0, 0) _ rfl HR7 Try.underlying26 rfl rfl) rfl ⟨_, _, by rw [HYES.out]; rfl, by rw [HT2.out]; exact hf7, by rw [HL2.out]; exact hf8, HB7⟩
                      · have HH := Lib.hid hh
                        rw [hh] at HLV
                        clear hh
                        have BEL : Hid (∀ w', w'.cell? ⟨w.heap.size, 0, none⟩ = some (.slice (some ⟨tb, tof, none⟩) ts.length ct) ∧ w'.cell? ⟨w.heap.size, 1, none⟩ = some (.slice (some ⟨b, off, none⟩) l.length cb) ∧ w'.cell? ⟨g6, 1, none⟩ = some (.int .i64 xv) ∧ Below w5.heap.size w5 w' → Below w5.heap.size w5 w') := Lib.hid fun _ h => h.2.2.2
                        go_wp2_with (at_builtin; fail)
                        refine wp_region_held_drew (S := (fun w' => w'.cell? ⟨w.heap.size, 0, none⟩ = some (.slice (some ⟨tb, tof, none⟩) ts.length ct) ∧ w'.cell? ⟨w.heap.size, 1, none⟩ = some (.slice (some ⟨b, off, none⟩) l.length cb) ∧ w'.cell? ⟨g6, 1, none⟩ = some (.int .i64 xv) ∧ Below w5.heap.size w5 w')) (by kernel_rfl) ?_ (fun hHeld => ?_)
                        · exact ⟨x0, x1, u1, (Below.refl _ _).drew⟩
                        refine wpAnyH_take (i := 0) (oi := ⟨some 73, _, _, _, _, _⟩) (v := ?_) rfl (by kernel_rfl) (by kernel_rfl) (by kernel_rfl) (fun _ _ _ h => h) (Or.inl ⟨by rfl, fun w' hSw => ?_⟩) (by assumption) ?_
                        rotate_left
                        · (try dsimp only at hSw); go_simp; (try with_reducible rfl)
                        (try simp only [Act.put, List.setIfInBounds_toArray, List.set_cons_zero, List.set_cons_succ])
                        refine wpAnyH_take (i := 1) (oi := ⟨some 74, _, _, _, _, _⟩) (v := ?_) rfl (by kernel_rfl) (by kernel_rfl) (by kernel_rfl) (fun _ _ _ h => h) (Or.inl ⟨by rfl, fun w' hSw => ?_⟩) (by assumption) ?_
                        rotate_left
                        · (try dsimp only at hSw); go_simp; (try with_reducible rfl)
                        (try simp only [Act.put, List.setIfInBounds_toArray, List.set_cons_zero, List.set_cons_succ])
                        refine wpAnyH_take (i := 2) (oi := ⟨some 75, _, _, _, _, _⟩) (v := ?_) rfl (by kernel_rfl) (by kernel_rfl) (by kernel_rfl) (fun _ _ _ h => h) (Or.inl ⟨by rfl, fun w' hSw => ?_⟩) (by assumption) ?_
                        rotate_left
                        · (try dsimp only at hSw); go_simp; (try with_reducible rfl)
                        (try simp only [Act.put, List.setIfInBounds_toArray, List.set_cons_zero, List.set_cons_succ])
                        refine wpAnyH_take (i := 3) (oi := ⟨some 76, _, _, _, _, _⟩) (v := ?_) rfl (by kernel_rfl) (by kernel_rfl) (by kernel_rfl) (fun _ _ _ h => h) (Or.inl ⟨by rfl, fun w' hSw => ?_⟩) (by assumption) ?_
                        rotate_left
                        · (try dsimp only at hSw); go_simp; (try with_reducible rfl)
                        (try simp only [Act.put, List.setIfInBounds_toArray, List.set_cons_zero, List.set_cons_succ])
                        refine wpAnyH_take (i := 5) (oi := ⟨some 78, _, _, _, _, _⟩) (v := ?_) rfl (by kernel_rfl) (by kernel_rfl) (by kernel_rfl) (fun _ _ _ h => h) (Or.inl ⟨by rfl, fun w' hSw => ?_⟩) (by assumption) ?_
                        rotate_left
                        · (try dsimp only at hSw); go_simp; (try with_reducible rfl)
                        (try simp only [Act.put, List.setIfInBounds_toArray, List.set_cons_zero, List.set_cons_succ])
                        refine wpAnyH_take (i := 8) (oi := ⟨some 81, _, _, _, _, _⟩) (v := ?_) rfl (by kernel_rfl) (by kernel_rfl) (by kernel_rfl) (fun _ _ _ h => h) (Or.inl ⟨by rfl, fun w' hSw => ?_⟩) (by assumption) ?_
                        rotate_left
                        · (try dsimp only at hSw); go_simp; (try with_reducible rfl)
                        (try simp only [Act.put, List.setIfInBounds_toArray, List.set_cons_zero, List.set_cons_succ])
                        refine wpAnyH_take (i := 9) (oi := ⟨some 82, _, _, _, _, _⟩) (v := ?_) rfl (by kernel_rfl) (by kernel_rfl) (by kernel_rfl) (fun _ _ _ h => h) (Or.inl ⟨by rfl, fun w' hSw => ?_⟩) (by assumption) ?_
                        rotate_left
                        · (try dsimp only at hSw); go_simp; (try with_reducible rfl)
                        (try simp only [Act.put, List.setIfInBounds_toArray, List.set_cons_zero, List.set_cons_succ])
                        refine wpAnyH_ready (rs := [4]) (by kernel_rfl) (by simp) ?_
                        refine AllReadyH.cons (o := ⟨some 77, _, _, _, _, _⟩) rfl (fun K hK => ?_) AllReadyH.nil
                        go_simp
                        (have BY := (BEL.out _ (by assumption)))
                        (refine (l3Live_any _ _ ts l B _ (HT.out.low (HB2.out.trans (BY.mono hsz2)) hB) (HL.out.low (HB2.out.trans (BY.mono hsz2)) hB) (by have := BY.size; omega) HV.out).mono ?_)
                        (rintro e w7 ⟨v7, rb7, rows7, base7, rfl, hbs7, hbr7, hl7, hi7, hrg7, hb7⟩)
                        (have BX7 := Lib.hid (BY.trans (hb7.mono BY.size)))
                        (have hk7 : np < rows7.length := by rw [hl7]; omega)
                        (obtain ⟨g7, c7, rfl, hg71, hg72, hrc7, hcell7, -⟩ := hbr7.form (by omega))
                        (have hck7 := hcell7 np hk7)
                        (have hrow7 := (hbr7.row np hk7).1)
                        (have hlk7 := hi7 np hk7)
                        (obtain ⟨gr, hgr⟩ : ∃ gr, gr = rb7.getD np 0 := ⟨_, rfl⟩)
                        (rw [← hgr] at hck7 hrow7)
                        clear hgr
                        (have hk71 : (np : Int) < (rows7.length : Int) := by omega)
                        (have hcx7 := row_bool hrow7 (v := xv) (by rw [hlk7]; exact hxv2))
                        (rw [HLV.out rows7 hrg7] at hcx7)
                        clear hbr7 hl7 hi7 hrg7 hb7 hcell7 hrow7 hlk7 BY
                        go_simp
                        refine hK.out _ _ ?_ (fun hHeld => ?_)
                        · exact ⟨(BX7.out.cell (p := ⟨w.heap.size, 0, none⟩) hx2).trans x0, (BX7.out.cell (p := ⟨w.heap.size, 1, none⟩) hx2).trans x1, (BX7.out.cell (p := ⟨g6, 1, none⟩) hu2).trans u1, BX7.out⟩
                        clear hK K
                        (try simp only [Act.put, List.setIfInBounds_toArray, List.set_cons_zero, List.set_cons_succ])
                        refine wpAnyH_take (i := 6) (oi := ⟨some 79, _, _, _, _, _⟩) (v := ?_) rfl (by kernel_rfl) (by kernel_rfl) (by kernel_rfl) (fun _ _ _ h => h) (Or.inl ⟨by rfl, fun w' hSw => ?_⟩) (by assumption) ?_
                        rotate_left
                        · (try dsimp only at hSw); go_simp; (try with_reducible rfl)
                        (try simp only [Act.put, List.setIfInBounds_toArray, List.set_cons_zero, List.set_cons_succ])
                        refine wpAnyH_ready (rs := [7]) (by kernel_rfl) (by simp) ?_
                        refine AllReadyH.cons (o := ⟨some 80, _, _, _, _, _⟩) rfl (fun K hK => ?_) AllReadyH.nil
                        go_simp
                        skip
                        refine hK.out _ _ ?_ (fun hHeld => ?_)
                        · assumption
                        clear hK K
                        (try simp only [Act.put, List.setIfInBounds_toArray, List.set_cons_zero, List.set_cons_succ])
                        refine wpAnyH_take (i := 10) (oi := ⟨some 83, _, _, _, _, _⟩) (v := ?_) rfl (by kernel_rfl) (by kernel_rfl) (by kernel_rfl) (fun _ _ _ h => h) (Or.inl ⟨by rfl, fun w' hSw => ?_⟩) (by assumption) ?_
                        rotate_left
                        · (try dsimp only at hSw); go_simp; (try with_reducible rfl)
                        (try simp only [Act.put, List.setIfInBounds_toArray, List.set_cons_zero, List.set_cons_succ])
                        refine wpAnyH_ready (rs := [11]) (by kernel_rfl) (by simp) ?_
                        refine AllReadyH.cons (o := ⟨some 84, _, _, _, _, _⟩) rfl (fun K hK => ?_) AllReadyH.nil
                        go_simp
                        skip
                        refine hK.out _ _ ?_ (fun hHeld => ?_)
                        · assumption
                        clear hK K
                        (try simp only [Act.put, List.setIfInBounds_toArray, List.set_cons_zero, List.set_cons_succ])
                        refine wpAnyH_take (i := 12) (oi := ⟨some 85, _, _, _, _, _⟩) (v := ?_) rfl (by kernel_rfl) (by kernel_rfl) (by kernel_rfl) (fun _ _ _ h => h) (Or.inl ⟨by rfl, fun w' hSw => ?_⟩) (by assumption) ?_
                        rotate_left
                        · (try dsimp only at hSw); go_simp; (try with_reducible rfl)
                        (try simp only [Act.put, List.setIfInBounds_toArray, List.set_cons_zero, List.set_cons_succ])
                        refine wpAnyH_done (by kernel_rfl) ?_ _
                        have HRZ := Lib.hid (HR2.out.low BX7.out hr2)
                        have HBZ := Lib.hid (HB2.out.trans (BX7.out.mono hsz2))
                        clear x0 x1 r0 r1 rf0 rf1 u0 u1 u2 BEL hHeld hck7 hcx7
                        have x0 := (BX7.out.cell (p := ⟨w.heap.size, 0, none⟩) hx2).trans (HX2.out.cell 0)
                        have x1 := (BX7.out.cell (p := ⟨w.heap.size, 1, none⟩) hx2).trans (HX2.out.cell 1)
                        have r0 := HRZ.out.cell 0
                        have r1 := HRZ.out.cell 1
                        have rf0 := HRZ.out.frozen 0
                        have rf1 := HRZ.out.frozen 1
                        simp only [List.getElem?_cons_zero, List.getElem?_cons_succ] at x0 x1 r0 r1
                        have HNO := Lib.hid (NO.out w7 HBZ.out (by rw [HDD.out, HH.out]; simp))
                        go_wp2_with (at_builtin; fail)
                        have HR7 : RowB (w7.setCells (w.heap.size + 1) 0 [.slice none 0 0, .slice none 0 0]) (w.heap.size + 1) 26 _ := HRZ.out.putAll _ rfl
                        exact bodyPost_ret (res_box (p := 4) (u := 5) (ty := 26) rfl _ _ (w.heap.size + 1) 26 _ (0, 0) _ rfl HR7 Try.underlying26 rfl rfl) rfl HNO.out
                    · have ht3 : (tt == 3) = false := by simpa using t3
                      have HDB : deadB ts s = false := by rw [HDE.out, ht1, ht3]; rfl
                      have BEL : Hid (∀ w', w'.cell? ⟨w.heap.size, 0, none⟩ = some (.slice (some ⟨tb, tof, none⟩) ts.length ct) ∧ w'.cell? ⟨w.heap.size, 1, none⟩ = some (.slice (some ⟨b, off, none⟩) l.length cb) ∧ w'.cell? ⟨g6, 1, none⟩ = some (.int .i64 s.x) ∧ Below w5.heap.size w5 w' → Below w5.heap.size w5 w') := Lib.hid fun _ h => h.2.2.2
                      go_wp2_with (at_builtin; fail)
                      refine wp_region_held_drew (S := (fun w' => w'.cell? ⟨w.heap.size, 0, none⟩ = some (.slice (some ⟨tb, tof, none⟩) ts.length ct) ∧ w'.cell? ⟨w.heap.size, 1, none⟩ = some (.slice (some ⟨b, off, none⟩) l.length cb) ∧ w'.cell? ⟨g6, 1, none⟩ = some (.int .i64 s.x) ∧ Below w5.heap.size w5 w')) (by kernel_rfl) ?_ (fun hHeld => ?_)
                      · exact ⟨x0, x1, u1, (Below.refl _ _).drew⟩
                      refine wpAnyH_take (i := 0) (oi := ⟨some 73, _, _, _, _, _⟩) (v := ?_) rfl (by kernel_rfl) (by kernel_rfl) (by kernel_rfl) (fun _ _ _ h => h) (Or.inl ⟨by rfl, fun w' hSw => ?_⟩) (by assumption) ?_
                      rotate_left
                      · (try dsimp only at hSw); go_simp; (try with_reducible rfl)
                      (try simp only [Act.put, List.setIfInBounds_toArray, List.set_cons_zero, List.set_cons_succ])
                      refine wpAnyH_take (i := 1) (oi := ⟨some 74, _, _, _, _, _⟩) (v := ?_) rfl (by kernel_rfl) (by kernel_rfl) (by kernel_rfl) (fun _ _ _ h => h) (Or.inl ⟨by rfl, fun w' hSw => ?_⟩) (by assumption) ?_
                      rotate_left
                      · (try dsimp only at hSw); go_simp; (try with_reducible rfl)
                      (try simp only [Act.put, List.setIfInBounds_toArray, List.set_cons_zero, List.set_cons_succ])
                      refine wpAnyH_take (i := 2) (oi := ⟨some 75, _, _, _, _, _⟩) (v := ?_) rfl (by kernel_rfl) (by kernel_rfl) (by kernel_rfl) (fun _ _ _ h => h) (Or.inl ⟨by rfl, fun w' hSw => ?_⟩) (by assumption) ?_
                      rotate_left
                      · (try dsimp only at hSw); go_simp; (try with_reducible rfl)
                      (try simp only [Act.put, List.setIfInBounds_toArray, List.set_cons_zero, List.set_cons_succ])
                      refine wpAnyH_take (i := 3) (oi := ⟨some 76, _, _, _, _, _⟩) (v := undef) rfl (by kernel_rfl) (by kernel_rfl) (by kernel_rfl) (fun _ _ _ h => h) (Or.inr ⟨by rfl, rfl⟩) (by assumption) ?_
                      (try simp only [Act.put, List.setIfInBounds_toArray, List.set_cons_zero, List.set_cons_succ])
                      refine wpAnyH_take (i := 4) (oi := ⟨some 77, _, _, _, _, _⟩) (v := undef) rfl (by kernel_rfl) (by kernel_rfl) (by kernel_rfl) (fun _ _ _ h => h) (Or.inr ⟨by rfl, rfl⟩) (by assumption) ?_
                      (try simp only [Act.put, List.setIfInBounds_toArray, List.set_cons_zero, List.set_cons_succ])
                      refine wpAnyH_take (i := 5) (oi := ⟨some 78, _, _, _, _, _⟩) (v := undef) rfl (by kernel_rfl) (by kernel_rfl) (by kernel_rfl) (fun _ _ _ h => h) (Or.inr ⟨by rfl, rfl⟩) (by assumption) ?_
                      (try simp only [Act.put, List.setIfInBounds_toArray, List.set_cons_zero, List.set_cons_succ])
                      refine wpAnyH_take (i := 6) (oi := ⟨some 79, _, _, _, _, _⟩) (v := undef) rfl (by kernel_rfl) (by kernel_rfl) (by kernel_rfl) (fun _ _ _ h => h) (Or.inr ⟨by rfl, rfl⟩) (by assumption) ?_
                      (try simp only [Act.put, List.setIfInBounds_toArray, List.set_cons_zero, List.set_cons_succ])
                      refine wpAnyH_take (i := 7) (oi := ⟨some 80, _, _, _, _, _⟩) (v := undef) rfl (by kernel_rfl) (by kernel_rfl) (by kernel_rfl) (fun _ _ _ h => h) (Or.inr ⟨by rfl, rfl⟩) (by assumption) ?_
                      (try simp only [Act.put, List.setIfInBounds_toArray, List.set_cons_zero, List.set_cons_succ])
                      refine wpAnyH_take (i := 8) (oi := ⟨some 81, _, _, _, _, _⟩) (v := undef) rfl (by kernel_rfl) (by kernel_rfl) (by kernel_rfl) (fun _ _ _ h => h) (Or.inr ⟨by rfl, rfl⟩) (by assumption) ?_
                      (try simp only [Act.put, List.setIfInBounds_toArray, List.set_cons_zero, List.set_cons_succ])
                      refine wpAnyH_take (i := 9) (oi := ⟨some 82, _, _, _, _, _⟩) (v := undef) rfl (by kernel_rfl) (by kernel_rfl) (by kernel_rfl) (fun _ _ _ h => h) (Or.inr ⟨by rfl, rfl⟩) (by assumption) ?_
                      (try simp only [Act.put, List.setIfInBounds_toArray, List.set_cons_zero, List.set_cons_succ])
                      refine wpAnyH_take (i := 10) (oi := ⟨some 83, _, _, _, _, _⟩) (v := undef) rfl (by kernel_rfl) (by kernel_rfl) (by kernel_rfl) (fun _ _ _ h => h) (Or.inr ⟨by rfl, rfl⟩) (by assumption) ?_
                      (try simp only [Act.put, List.setIfInBounds_toArray, List.set_cons_zero, List.set_cons_succ])
                      refine wpAnyH_take (i := 11) (oi := ⟨some 84, _, _, _, _, _⟩) (v := undef) rfl (by kernel_rfl) (by kernel_rfl) (by kernel_rfl) (fun _ _ _ h => h) (Or.inr ⟨by rfl, rfl⟩) (by assumption) ?_
                      (try simp only [Act.put, List.setIfInBounds_toArray, List.set_cons_zero, List.set_cons_succ])
                      refine wpAnyH_take (i := 12) (oi := ⟨some 85, _, _, _, _, _⟩) (v := ?_) rfl (by kernel_rfl) (by kernel_rfl) (by kernel_rfl) (fun _ _ _ h => h) (Or.inl ⟨by rfl, fun w' hSw => ?_⟩) (by assumption) ?_
                      rotate_left
                      · (try dsimp only at hSw); go_simp; (try with_reducible rfl)
                      (try simp only [Act.put, List.setIfInBounds_toArray, List.set_cons_zero, List.set_cons_succ])
                      refine wpAnyH_done (by kernel_rfl) ?_ _
                      have HNO := Lib.hid (NO.out w5.drew HB2.out.drew (by rw [HDD.out, HDB]; rfl))
                      clear x0 x1 u0 u1 u2 BEL hHeld
                      go_wp2_with (at_builtin; fail)
                      have HR7 : RowB (w5.drew.setCells (w.heap.size + 1) 0 [.slice none 0 0, .slice none 0 0]) (w.heap.size + 1) 26 _ := RowB.putAll (w := w5.drew) _ HR2.out rfl
                      exact bodyPost_ret (res_box (p := 4) (u := 5) (ty := 26) rfl _ _ (w.heap.size + 1) 26 _ (0, 0) _ rfl HR7 Try.underlying26 rfl rfl) rfl HNO.out
                · have hq3 : (s.op == 3) = false := by simpa using h3
                  have HDB : deadB ts s = false := by unfold deadB; rw [hq1, hq6, hq4, hq5, hq3]; rfl
                  have BEL : Hid (∀ w', w'.cell? ⟨w.heap.size, 0, none⟩ = some (.slice At ts.length ct) ∧ w'.cell? ⟨w.heap.size, 1, none⟩ = some (.slice (some ⟨b, off, none⟩) l.length cb) ∧ w'.cell? ⟨g6, 1, none⟩ = some (.int .i64 s.x) ∧ Below w5.heap.size w5 w' → Below w5.heap.size w5 w') := Lib.hid fun _ h => h.2.2.2
                  go_wp2_with (at_builtin; fail)
                  refine wp_region_held_drew (S := (fun w' => w'.cell? ⟨w.heap.size, 0, none⟩ = some (.slice At ts.length ct) ∧ w'.cell? ⟨w.heap.size, 1, none⟩ = some (.slice (some ⟨b, off, none⟩) l.length cb) ∧ w'.cell? ⟨g6, 1, none⟩ = some (.int .i64 s.x) ∧ Below w5.heap.size w5 w')) (by kernel_rfl) ?_ (fun hHeld => ?_)
                  · exact ⟨x0, x1, u1, (Below.refl _ _).drew⟩
                  refine wpAnyH_take (i := 0) (oi := ⟨some 73, _, _, _, _, _⟩) (v := ?_) rfl (by kernel_rfl) (by kernel_rfl) (by kernel_rfl) (fun _ _ _ h => h) (Or.inl ⟨by rfl, fun w' hSw => ?_⟩) (by assumption) ?_
                  rotate_left
                  · (try dsimp only at hSw); go_simp; (try with_reducible rfl)
                  (try simp only [Act.put, List.setIfInBounds_toArray, List.set_cons_zero, List.set_cons_succ])
                  refine wpAnyH_take (i := 1) (oi := ⟨some 74, _, _, _, _, _⟩) (v := ?_) rfl (by kernel_rfl) (by kernel_rfl) (by kernel_rfl) (fun _ _ _ h => h) (Or.inl ⟨by rfl, fun w' hSw => ?_⟩) (by assumption) ?_
                  rotate_left
                  · (try dsimp only at hSw); go_simp; (try with_reducible rfl)
                  (try simp only [Act.put, List.setIfInBounds_toArray, List.set_cons_zero, List.set_cons_succ])
                  refine wpAnyH_take (i := 2) (oi := ⟨some 75, _, _, _, _, _⟩) (v := ?_) rfl (by kernel_rfl) (by kernel_rfl) (by kernel_rfl) (fun _ _ _ h => h) (Or.inl ⟨by rfl, fun w' hSw => ?_⟩) (by assumption) ?_
                  rotate_left
                  · (try dsimp only at hSw); go_simp; (try with_reducible rfl)
                  (try simp only [Act.put, List.setIfInBounds_toArray, List.set_cons_zero, List.set_cons_succ])
                  refine wpAnyH_take (i := 3) (oi := ⟨some 76, _, _, _, _, _⟩) (v := undef) rfl (by kernel_rfl) (by kernel_rfl) (by kernel_rfl) (fun _ _ _ h => h) (Or.inr ⟨by rfl, rfl⟩) (by assumption) ?_
                  (try simp only [Act.put, List.setIfInBounds_toArray, List.set_cons_zero, List.set_cons_succ])
                  refine wpAnyH_take (i := 4) (oi := ⟨some 77, _, _, _, _, _⟩) (v := undef) rfl (by kernel_rfl) (by kernel_rfl) (by kernel_rfl) (fun _ _ _ h => h) (Or.inr ⟨by rfl, rfl⟩) (by assumption) ?_
                  (try simp only [Act.put, List.setIfInBounds_toArray, List.set_cons_zero, List.set_cons_succ])
                  refine wpAnyH_take (i := 5) (oi := ⟨some 78, _, _, _, _, _⟩) (v := undef) rfl (by kernel_rfl) (by kernel_rfl) (by kernel_rfl) (fun _ _ _ h => h) (Or.inr ⟨by rfl, rfl⟩) (by assumption) ?_
                  (try simp only [Act.put, List.setIfInBounds_toArray, List.set_cons_zero, List.set_cons_succ])
                  refine wpAnyH_take (i := 6) (oi := ⟨some 79, _, _, _, _, _⟩) (v := undef) rfl (by kernel_rfl) (by kernel_rfl) (by kernel_rfl) (fun _ _ _ h => h) (Or.inr ⟨by rfl, rfl⟩) (by assumption) ?_
                  (try simp only [Act.put, List.setIfInBounds_toArray, List.set_cons_zero, List.set_cons_succ])
                  refine wpAnyH_take (i := 7) (oi := ⟨some 80, _, _, _, _, _⟩) (v := undef) rfl (by kernel_rfl) (by kernel_rfl) (by kernel_rfl) (fun _ _ _ h => h) (Or.inr ⟨by rfl, rfl⟩) (by assumption) ?_
                  (try simp only [Act.put, List.setIfInBounds_toArray, List.set_cons_zero, List.set_cons_succ])
                  refine wpAnyH_take (i := 8) (oi := ⟨some 81, _, _, _, _, _⟩) (v := undef) rfl (by kernel_rfl) (by kernel_rfl) (by kernel_rfl) (fun _ _ _ h => h) (Or.inr ⟨by rfl, rfl⟩) (by assumption) ?_
                  (try simp only [Act.put, List.setIfInBounds_toArray, List.set_cons_zero, List.set_cons_succ])
                  refine wpAnyH_take (i := 9) (oi := ⟨some 82, _, _, _, _, _⟩) (v := undef) rfl (by kernel_rfl) (by kernel_rfl) (by kernel_rfl) (fun _ _ _ h => h) (Or.inr ⟨by rfl, rfl⟩) (by assumption) ?_
                  (try simp only [Act.put, List.setIfInBounds_toArray, List.set_cons_zero, List.set_cons_succ])
                  refine wpAnyH_take (i := 10) (oi := ⟨some 83, _, _, _, _, _⟩) (v := undef) rfl (by kernel_rfl) (by kernel_rfl) (by kernel_rfl) (fun _ _ _ h => h) (Or.inr ⟨by rfl, rfl⟩) (by assumption) ?_
                  (try simp only [Act.put, List.setIfInBounds_toArray, List.set_cons_zero, List.set_cons_succ])
                  refine wpAnyH_take (i := 11) (oi := ⟨some 84, _, _, _, _, _⟩) (v := undef) rfl (by kernel_rfl) (by kernel_rfl) (by kernel_rfl) (fun _ _ _ h => h) (Or.inr ⟨by rfl, rfl⟩) (by assumption) ?_
                  (try simp only [Act.put, List.setIfInBounds_toArray, List.set_cons_zero, List.set_cons_succ])
                  refine wpAnyH_take (i := 12) (oi := ⟨some 85, _, _, _, _, _⟩) (v := ?_) rfl (by kernel_rfl) (by kernel_rfl) (by kernel_rfl) (fun _ _ _ h => h) (Or.inl ⟨by rfl, fun w' hSw => ?_⟩) (by assumption) ?_
                  rotate_left
                  · (try dsimp only at hSw); go_simp; (try with_reducible rfl)
                  (try simp only [Act.put, List.setIfInBounds_toArray, List.set_cons_zero, List.set_cons_succ])
                  refine wpAnyH_done (by kernel_rfl) ?_ _
                  have HNO := Lib.hid (NO.out w5.drew HB2.out.drew (by rw [HDD.out, HDB]; rfl))
                  clear x0 x1 u0 u1 u2 BEL hHeld
                  go_wp2_with (at_builtin; fail)
                  have HR7 : RowB (w5.drew.setCells (w.heap.size + 1) 0 [.slice none 0 0, .slice none 0 0]) (w.heap.size + 1) 26 _ := RowB.putAll (w := w5.drew) _ HR2.out rfl
                  exact bodyPost_ret (res_box (p := 4) (u := 5) (ty := 26) rfl _ _ (w.heap.size + 1) 26 _ (0, 0) _ rfl HR7 Try.underlying26 rfl rfl) rfl HNO.out

end Go.Proofs.Ytidlifijgooceaa
