import Derived.Test.YtidlifijgooceaaW31
set_option linter.unusedVariables false

/- spec.DropStmt. -/
namespace Go.Proofs.Ytidlifijgooceaa
open Go.RowKit

theorem OSt.lv {w : World} {base : Nat} {v : Value} {l : List St} (h : OSt w base v l) (hn : 0 < l.length) : ∃ g cap cs tv ev, v = .slice (some ⟨g, 0, none⟩) l.length cap ∧ base ≤ g ∧ LvF w g cap cs l tv ev ∧
    ∀ i (h : i < l.length), StX w (fun b => base ≤ b ∧ b ≠ g) (tv i) l[i].th ∧ StX w (fun b => base ≤ b ∧ b ≠ g) (ev i) l[i].el := by
  obtain ⟨es, rfl, h2, h3⟩ := h
  rw [List.length_map] at hn
  rcases h2.2 with ⟨_, e0⟩ | ⟨g, cap, cur, rfl, hg, hh, hle, hcm, hsz, htk⟩
  · omega
  · have hcells : ∀ j, j < es.length * 6 → cur.toList[j]? = (seCells es)[j]? := fun j hj => by rw [← htk, List.getElem?_take, if_pos hj]
    have hne : ∀ b, (base ≤ b ∧ (Value.slice (some ⟨g, 0, none⟩) es.length cap).ownBlock ≠ some b) → b < w.heap.size → (base ≤ b ∧ b ≠ g) ∧ w.heap[b]? = w.heap[b]? := fun b hb _ => ⟨⟨hb.1, fun e => hb.2 (by rw [e]; rfl)⟩, rfl⟩
    refine ⟨g, cap, cur.toList, fun i => (es.getD i ⟨0, 0, 0, 0, undef, undef, [], []⟩).tv, fun i => (es.getD i ⟨0, 0, 0, 0, undef, undef, [], []⟩).ev, by rw [List.length_map], hg, ⟨by unfold RowB; rw [Array.toArray_toList]; exact hh, by simpa using hsz, by rw [List.length_map]; exact hle, hcm, fun i hi => ?_, fun i hi => ?_⟩, fun i hi => ?_⟩
    · have hi2 : i < es.length := by simpa using hi
      obtain ⟨k0, k1, k2, k3, -, -⟩ := seCells_at hi2
      rw [hcells _ (by omega), hcells _ (by omega), hcells _ (by omega), hcells _ (by omega), List.getElem_map]
      exact ⟨k0, k1, k2, k3⟩
    · have hi2 : i < es.length := by simpa using hi
      obtain ⟨-, -, -, -, k4, k5⟩ := seCells_at hi2
      rw [hcells _ (by omega), hcells _ (by omega), getD_lt hi2]
      exact ⟨k4, k5⟩
    · have hi2 : i < es.length := by simpa using hi
      obtain ⟨q1, q2⟩ := h3 _ (List.getElem_mem hi2)
      simp only [getD_lt hi2, List.getElem_map]
      exact ⟨q1.frame (Nat.le_refl _) hne, q2.frame (Nat.le_refl _) hne⟩
theorem LvF.toS {w : World} {g cap : Nat} {cs : List Value} {l : List St} {tv ev : Nat → Value} (h : LvF w g cap cs l tv ev) (hx : ∀ i (h : i < l.length), StS w w.heap.size (tv i) l[i].th ∧ StS w w.heap.size (ev i) l[i].el) : StS w w.heap.size (.slice (some ⟨g, 0, none⟩) l.length cap) l := by
  refine .mk _ cap l tv ev h.le (fun _ => ⟨g, 0, rfl, h.row.lt, fun i hi => ?_⟩) (fun i hi => (hx i hi).1) fun i hi => (hx i hi).2
  obtain ⟨h0, h1, h2, h3⟩ := h.ci i hi
  obtain ⟨h4, h5⟩ := h.cv i hi
  simp only [h.row.cell, Nat.zero_add]
  exact ⟨h0, h1, h2, h3, h4, h5⟩
/-- a statement dropped, for a reader -/
def DrRet (w : World) (ts : List Int) (l : List St) (k : Int) (e : Ending) (w' : World) : Prop :=
  ∃ vt vb, e = .returned (.tuple #[.agg #[vt, vb], .bool (drOk ts l k)]) ∧ IntS w' w'.heap.size vt (if drOk ts l k then ts else []) ∧ StS w' w'.heap.size vb (if drOk ts l k then l.eraseIdx k.toNat else []) ∧ Below w.heap.size w w'
/-- what append(s[:q], s[q+1:]...) asks and does -/
theorem LvF.room {w : World} {g cap : Nat} {cs : List Value} {l : List St} {tv ev : Nat → Value} {q : Nat} (h : LvF w g cap cs l tv ev) (hq : q < l.length) (h1 : ∀ i, i < l.length → (tv i).oneCell' = true ∧ (ev i).oneCell' = true) :
    ∃ news : List Value, news.length = (l.length - (q + 1)) * 6 ∧ (∀ u ∈ news, u.oneCell' = true) ∧ (∀ j, j < news.length → (w.cell? ⟨g, 0 + q * 6 + j, none⟩).isSome = true ∧ w.frozen? ⟨g, 0 + q * 6 + j, none⟩ = false) ∧
      (∀ j u, news[j]? = some u → w.cell? ((⟨g, (q + 1) * 6, none⟩ : Addr).add j) = some u) ∧ (cap = q + 1 → news = []) ∧ ∃ cs', LvF (w.setCells g (0 + q * 6) news) g cap cs' (l.eraseIdx q) (fun i => if i < q then tv i else tv (i + 1)) (fun i => if i < q then ev i else ev (i + 1)) := by
  have hlen := h.len
  have hle := h.le
  obtain ⟨cs1, hr1⟩ := h.erase hq
  have hnl : ((cs.drop ((q + 1) * 6)).take ((l.length - (q + 1)) * 6)).length = (l.length - (q + 1)) * 6 := by rw [List.length_take, List.length_drop]; omega
  have hng : ∀ j u, ((cs.drop ((q + 1) * 6)).take ((l.length - (q + 1)) * 6))[j]? = some u → (q + 1) * 6 + j < l.length * 6 ∧ cs[(q + 1) * 6 + j]? = some u := fun j u hu => by
    have hj := (List.getElem?_eq_some_iff.1 hu).1
    rw [hnl] at hj
    rw [List.getElem?_take, if_pos (by omega), List.getElem?_drop] at hu
    exact ⟨by omega, hu⟩
  refine ⟨_, hnl, fun u hu => ?_, fun j hj => ?_, fun j u hu => ?_, fun hc => ?_, cs1, by rw [Nat.zero_add]; exact hr1⟩
  · obtain ⟨j, hj, e⟩ := List.getElem_of_mem hu
    obtain ⟨k1, k2⟩ := hng j u (by rw [List.getElem?_eq_getElem hj, e])
    obtain ⟨i, d, hi, hd⟩ : ∃ i d, (q + 1) * 6 + j = i * 6 + d ∧ d < 6 := ⟨((q + 1) * 6 + j) / 6, ((q + 1) * 6 + j) % 6, by omega, by omega⟩
    have hil : i < l.length := by omega
    rw [hi] at k2
    obtain ⟨i0', i1', i2', i3'⟩ := h.ci i hil
    obtain ⟨i4', i5'⟩ := h.cv i hil
    have hd' : d = 0 ∨ d = 1 ∨ d = 2 ∨ d = 3 ∨ d = 4 ∨ d = 5 := by omega
    rcases hd' with rfl | rfl | rfl | rfl | rfl | rfl
    · rw [Nat.add_zero, i0'] at k2; injection k2 with k2; subst k2; rfl
    · rw [i1'] at k2; injection k2 with k2; subst k2; rfl
    · rw [i2'] at k2; injection k2 with k2; subst k2; rfl
    · rw [i3'] at k2; injection k2 with k2; subst k2; rfl
    · rw [i4'] at k2; injection k2 with k2; subst k2; exact (h1 i hil).1
    · rw [i5'] at k2; injection k2 with k2; subst k2; exact (h1 i hil).2
  · rw [hnl] at hj
    exact ⟨by rw [h.row.cell, List.getElem?_eq_getElem (by omega)]; rfl, h.row.frozen _⟩
  · rw [Addr.add_lit, h.row.cell]
    exact (hng j u hu).2
  · exact List.length_eq_zero_iff.1 (by rw [hnl]; omega)
theorem valid_ts {ts : List Int} {l : List St} (h : validP ts l = true) : ts.length ≤ 6 := (Good.of_valid h).h6
set_option maxHeartbeats 4000000 in
set_option maxRecDepth 100000 in
theorem sDropStmt_any (vt vb : Value) (ts : List Int) (l : List St) (k : Int) (B : Nat) (w : World) (ht : IntS w B vt ts) (hl : StS w B vb l) (hB : B ≤ w.heap.size) (hsz : szL l ≤ 4194000) :
    Calls Try.prog 22 #[.agg #[vt, vb], .int .i64 k] w (DrRet w ts l k) := by
  obtain ⟨i0, hi0, hz0, hzz1, hz2⟩ := info_parts Try.infoSt
  have hll := len_le_szL l
  have ht0 := ht
  obtain ⟨At, ct, rfl, -⟩ := ht0
  obtain ⟨Ab, cb, rfl, -⟩ := hl.slice
  have HX := Lib.hid ((RowB.new w [.slice At ts.length ct, .slice Ab l.length cb] 26).alloc (.cells #[.slice none 0 0, .slice none 0 0] 26))
  have HR := Lib.hid (RowB.new (w.alloc (.cells #[.slice At ts.length ct, .slice Ab l.length cb] 26)) [.slice none 0 0, .slice none 0 0] 26)
  have hz1 : (w.alloc (.cells #[.slice At ts.length ct, .slice Ab l.length cb] 26)).heap.size = w.heap.size + 1 := by simp
  rw [hz1] at HR
  have HB0 := Lib.hid ((bel_a w (.cells #[.slice At ts.length ct, .slice Ab l.length cb] 26)).alloc (by simp) (.cells #[.slice none 0 0, .slice none 0 0] 26))
  have HT := Lib.hid ht
  have HL := Lib.hid hl
  clear hz1 ht hl
  go_enter Try.func22, Try.ntmps22
  go_upto_region 1 with (at_builtin; fail)
  generalize (w.alloc (.cells #[.slice At ts.length ct, .slice Ab l.length cb] 26)).alloc (.cells #[.slice none 0 0, .slice none 0 0] 26) = W at *
  have x0 := HX.out.cell 0
  have x1 := HX.out.cell 1
  simp only [List.getElem?_cons_zero, List.getElem?_cons_succ] at x0 x1
  have hs0 := HB0.out.size
  have hr0 := HR.out.lt
  have hx0 := HX.out.lt
  have NO : Hid (∀ W', Below w.heap.size w W' → drOk ts l k = false → DrRet w ts l k (.returned (.tuple #[.agg #[.slice none 0 0, .slice none 0 0], .bool false])) (W'.setCells (w.heap.size + 1) 0 [.slice none 0 0, .slice none 0 0])) := Lib.hid fun W' hb hno => by
    have hB7 := hb.trans (below_putL (B := w.heap.size) (g := w.heap.size + 1) (by omega) [.slice none 0 0, .slice none 0 0] 0 W')
    refine ⟨_, _, by rw [hno], ?_, ?_, hB7⟩ <;> rw [hno]
    · exact IntS.nil' _ _ _ _
    · exact (DT.nil (w := W'.setCells (w.heap.size + 1) 0 [.slice none 0 0, .slice none 0 0]) fun _ => True).toS
  go_wp2_with (at_builtin; fail)
  refine (sProgramValid_any _ _ ts l B W (HT.out.low HB0.out hB) (HL.out.low HB0.out hB) (by omega) (by omega)).mono ?_
  rintro e w1 ⟨rfl, hb1⟩
  have HB1 := Lib.hid (HB0.out.trans (hb1.mono hs0))
  have HX1 := Lib.hid (HX.out.low hb1 hx0)
  have HR1 := Lib.hid (HR.out.low hb1 hr0)
  clear hb1 x0 x1
  have x0 := HX1.out.cell 0
  have x1 := HX1.out.cell 1
  have r0 := HR1.out.cell 0
  have r1 := HR1.out.cell 1
  have rf0 := HR1.out.frozen 0
  have rf1 := HR1.out.frozen 1
  simp only [List.getElem?_cons_zero, List.getElem?_cons_succ] at x0 x1 r0 r1
  have HR7 : Hid (RowB (w1.setCells (w.heap.size + 1) 0 [.slice none 0 0, .slice none 0 0]) (w.heap.size + 1) 26 _) := Lib.hid (HR1.out.putAll _ rfl)
  cases hv : validP ts l
  · have HNO := Lib.hid (NO.out w1 HB1.out (by unfold drOk; rw [hv]; rfl))
    clear hv
    go_wp2_with (at_builtin; fail)
    exact bodyPost_ret (res_box (p := 4) (u := 5) (ty := 26) rfl _ _ (w.heap.size + 1) 26 _ (0, 0) _ rfl HR7.out Try.underlying26 rfl rfl) rfl HNO.out
  · have HV := Lib.hid hv
    have h6 := valid_ts hv
    clear hv
    by_cases hk0 : k < 0
    · have HNO := Lib.hid (NO.out w1 HB1.out (by unfold drOk withinP; simp; omega))
      go_wp2_with (at_builtin; fail)
      exact bodyPost_ret (res_box (p := 4) (u := 5) (ty := 26) rfl _ _ (w.heap.size + 1) 26 _ (0, 0) _ rfl HR7.out Try.underlying26 rfl rfl) rfl HNO.out
    · by_cases hkl : (l.length : Int) ≤ k
      · have HNO := Lib.hid (NO.out w1 HB1.out (by unfold drOk withinP; simp; omega))
        go_wp2_with (at_builtin; fail)
        exact bodyPost_ret (res_box (p := 4) (u := 5) (ty := 26) rfl _ _ (w.heap.size + 1) 26 _ (0, 0) _ rfl HR7.out Try.underlying26 rfl rfl) rfl HNO.out
      · have HOK : Hid (drOk ts l k = true) := Lib.hid (by unfold drOk withinP; rw [HV.out]; simp; omega)
        obtain ⟨q, rfl⟩ : ∃ q : Nat, k = q := ⟨k.toNat, by omega⟩
        have hql : q < l.length := by omega
        clear NO HR7
        go_wp2_with (at_builtin; fail)
        refine (copyOf_any _ _ ts l B w1 (HT.out.low HB1.out hB) (HL.out.low HB1.out hB) (by have := HB1.out.size; omega) (by omega) hsz).mono ?_
        rintro e w2 ⟨vt2, vb2, lo, rfl, hoi, hown, hos, hlo, hlo2, hb2⟩
        obtain ⟨g, cap, cs, tv, ev, rfl, hg, hlv, hsx⟩ := hos.lv (by omega)
        have hs1 := HB1.out.size
        have hr1l := HR1.out.lt
        have hA := bel_a w2 (.cells #[vt2, .slice (some ⟨g, 0, none⟩) l.length cap] 26)
        have HR2 := Lib.hid ((HR1.out.low hb2 HR1.out.lt).alloc (.cells #[vt2, .slice (some ⟨g, 0, none⟩) l.length cap] 26))
        have HX2 := Lib.hid (RowB.new w2 [vt2, .slice (some ⟨g, 0, none⟩) l.length cap] 26)
        have HB2 := Lib.hid ((HB1.out.trans (hb2.mono hs1)).trans (hA.mono (by have := hb2.size; omega)))
        have hgw := hlv.row.lt
        have HLV := Lib.hid (hlv.keep (hA.block g hgw))
        have HOI := Lib.hid (hoi.bel hA)
        have HSX := Lib.hid hsx
        have HA := Lib.hid hA
        have hs2 := hb2.size
        obtain ⟨A1, c1, rfl, -⟩ := hoi.slice
        clear x0 x1 r0 r1 rf0 rf1 hoi hown hos hlv hsx hA hb2
        go_upto_region 4 with (at_builtin; fail)
        generalize hW2e : w2.alloc (.cells #[.slice A1 ts.length c1, .slice (some ⟨g, 0, none⟩) l.length cap] 26) = W2 at *
        clear hW2e
        obtain ⟨g6, hg6⟩ : ∃ g6, g6 = w2.heap.size := ⟨_, rfl⟩
        rw [← hg6] at HX2 hlo2 hgw ⊢
        have hs26 : w1.heap.size ≤ g6 := by omega
        have HA2 := Lib.hid (show Below g6 w2 W2 by rw [hg6]; exact HA.out)
        have hw2g := Lib.hid hg6
        clear hg6 HA hs2
        have hxl := HX2.out.lt
        have hrl := HR2.out.lt
        obtain ⟨news, n1, n2, n3, n4, n5, cs', hlv'⟩ := (HLV.out.keep (w' := W2.drew) rfl).room hql fun i hi => ⟨(HSX.out i hi).1.one, (HSX.out i hi).2.one⟩
        have N1 := Lib.hid n1
        have N2 := Lib.hid n2
        have N3 := Lib.hid n3
        have N4 := Lib.hid n4
        have N5 := Lib.hid n5
        have HL2 := Lib.hid hlv'
        obtain ⟨W3, hW3⟩ : ∃ W3, W3 = W2.drew.setCells g (0 + q * 6) news := ⟨_, rfl⟩
        have HW3 := Lib.hid hW3
        have HG3 : Hid (∀ b : Nat, b ≠ g → W3.heap[b]? = W2.heap[b]?) := Lib.hid fun b hb => by rw [hW3]; exact heap_putL hb _ _ _
        have HB3 : Hid (Below w.heap.size w W3) := Lib.hid (by
          have := below_putL (B := w.heap.size) (g := g) (by omega) news (0 + q * 6) W2.drew
          rw [← hW3] at this
          exact HB2.out.drew.trans this)
        have HX3 : Hid (RowB W3 g6 26 _) := Lib.hid ((HG3.out g6 (by omega)).trans HX2.out)
        have HR3 : Hid (RowB W3 (w.heap.size + 1) 26 _) := Lib.hid ((HG3.out (w.heap.size + 1) (by omega)).trans HR2.out)
        have HZ3 : Hid (W3.heap.size = W2.heap.size) := Lib.hid (by rw [hW3]; exact size_putL _ _ _)
        rw [← hW3] at HL2
        have y0 : W2.drew.cell? ⟨g6, 0, none⟩ = _ := HX2.out.cell 0
        have y1 : W2.drew.cell? ⟨g6, 1, none⟩ = _ := HX2.out.cell 1
        have z1 := HX3.out.cell 1
        have zf1 := HX3.out.frozen 1
        simp only [List.getElem?_cons_zero, List.getElem?_cons_succ] at y0 y1 z1
        have hcap := HLV.out.le
        have hcm := HLV.out.cm
        rw [maxLen_eq] at hcm
        clear n1 n2 n3 n4 n5 hlv' hW3
        have hkk : (q : Int) ≤ (q : Int) + 1 := by omega
        have hkn2 : 0 ≤ (q : Int) + 1 ∧ (q : Int) + 1 ≤ (l.length : Int) := by omega
        have e1 : q + (l.length - (q + 1)) = l.length - 1 := by omega
        obtain ⟨n, hn⟩ : ∃ n, n = l.length := ⟨_, rfl⟩
        have HN := Lib.hid hn
        rw [← hn] at hll hql hcap hkn2 e1 y1 z1 N1 ⊢
        clear hn
        have hqc : q ≤ cap := by omega
        have hwq : IntKind.i64.wrap ((q : Int) + 1) = (q : Int) + 1 := IntWalk.i64_in _ (by omega)
        have F4 : Hid (∀ v', RowB (W3.setCell ⟨g6, 1, none⟩ v') g6 26 [.slice A1 ts.length c1, v'] ∧ RowB (W3.setCell ⟨g6, 1, none⟩ v') (w.heap.size + 1) 26 [.slice none 0 0, .slice none 0 0]) := Lib.hid fun v' => ⟨HX3.out.set_ 1 v', HR3.out.other (g' := g6) (by omega) 1 v'⟩
        have FIN : Hid (∀ m c', m = n - 1 → c' = cap → DrRet w ts l (q : Int) (.returned (.tuple #[.agg #[.slice A1 ts.length c1, .slice (some ⟨g, 0, none⟩) m c'], .bool true])) ((W3.setCell ⟨g6, 1, none⟩ (.slice (some ⟨g, 0, none⟩) m c')).setCells (w.heap.size + 1) 0 [.slice A1 ts.length c1, .slice (some ⟨g, 0, none⟩) m c'])) := Lib.hid fun m c' hm hc' => by
          subst hm hc'
          have hel : (l.eraseIdx q).length = n - 1 := by rw [List.length_eraseIdx_of_lt (by rw [← HN.out]; exact hql), HN.out]
          have hz : ((W3.setCell ⟨g6, 1, none⟩ (.slice (some ⟨g, 0, none⟩) (n - 1) c')).setCells (w.heap.size + 1) 0 [.slice A1 ts.length c1, .slice (some ⟨g, 0, none⟩) (n - 1) c']).heap.size = W2.heap.size := by rw [size_putL]; simp [HZ3.out]
          have hf : ∀ b : Nat, b ≠ g6 → b ≠ w.heap.size + 1 → ((W3.setCell ⟨g6, 1, none⟩ (.slice (some ⟨g, 0, none⟩) (n - 1) c')).setCells (w.heap.size + 1) 0 [.slice A1 ts.length c1, .slice (some ⟨g, 0, none⟩) (n - 1) c']).heap[b]? = W3.heap[b]? := fun b h1 h2 => (heap_putL h2 _ _ _).trans (heap_setCell_other W3 ⟨g6, 1, none⟩ b _ h1)
          have hB := (HB3.out.setCell (p := ⟨g6, 1, none⟩) (by show w.heap.size ≤ g6; omega) (.slice (some ⟨g, 0, none⟩) (n - 1) c')).trans (below_putL (B := w.heap.size) (g := w.heap.size + 1) (by omega) [.slice A1 ts.length c1, .slice (some ⟨g, 0, none⟩) (n - 1) c'] 0 _)
          generalize (W3.setCell ⟨g6, 1, none⟩ (.slice (some ⟨g, 0, none⟩) (n - 1) c')).setCells (w.heap.size + 1) 0 [.slice A1 ts.length c1, .slice (some ⟨g, 0, none⟩) (n - 1) c'] = WF at *
          refine ⟨_, _, by rw [HOK.out], ?_, ?_, hB⟩ <;> rw [HOK.out]
          · have h5 := HOI.out.ne HX2.out (by decide)
            have h7 := HOI.out.ne HLV.out.row (by decide)
            have := OInts.keepBlk (w' := WF) HOI.out (Nat.le_refl _) fun b e => (hf b (fun e2 => h5 (by rw [e, e2])) (by have := (HOI.out.own_lt e).1; omega)).trans (HG3.out b fun e2 => h7 (by rw [e, e2]))
            exact this.toS (by omega)
          · have hlw := HL2.out.keep (w' := WF) (hf g (by omega) (by omega))
            have := hlw.toS fun i hi => ?_
            · rw [hel] at this
              exact this
            · obtain ⟨j, hj, e, ej⟩ := erase_get (by rw [← HN.out]; exact hql) hi
              have hx := HSX.out j hj
              have hfr : ∀ b, (lo ≤ b ∧ b ≠ g) → b < w2.heap.size → True ∧ WF.heap[b]? = w2.heap[b]? := fun b hb hlt => by
                have h8 := hw2g.out
                exact ⟨trivial, ((hf b (by omega) (by have := hb.1; omega)).trans (HG3.out b hb.2)).trans (HA2.out.block b (by omega))⟩
              have hsz2 : w2.heap.size ≤ WF.heap.size := by have h8 := hw2g.out; omega
              have q1 := (hx.1.frame (P' := fun _ => True) hsz2 hfr).toS
              have q2 := (hx.2.frame (P' := fun _ => True) hsz2 hfr).toS
              rw [e]
              by_cases hik : i < q
              · rw [if_pos hik] at ej
                subst ej
                rw [if_pos hik, if_pos hik]
                exact ⟨q1, q2⟩
              · rw [if_neg hik] at ej
                subst ej
                rw [if_neg hik, if_neg hik]
                exact ⟨q1, q2⟩
        by_cases hck : cap = q + 1
        · subst hck
          obtain rfl : n = q + 1 := by omega
          have M1 : Hid (news.length = 0 * 6) := Lib.hid (by rw [N5.out rfl]; rfl)
          have M4 : Hid (∀ j u, news[j]? = some u → W2.drew.cell? ((⟨g, 0, none⟩ : Addr).add j) = some u) := Lib.hid fun j u hu => by rw [N5.out rfl] at hu; simp at hu
          have FIN2 := Lib.hid (FIN.out q (q + 1) rfl rfl)
          clear e1 FIN
          go_region_law (refine step_append_room rfl (.tmp 27) (.tmp 32) 24 rfl 87 i0 6 Try.underlying24 hi0 hzz1 g 0 q (q + 1) (by simp [Act.eval, Act.put]) ⟨g, 0, none⟩ 0 0 news (by simp [Act.eval, Act.put]) M1.out M4.out N2.out (by omega) N3.out ?_; rw [← HW3.out])
          all_goals
            have HX4 := Lib.hid (F4.out (.slice (some ⟨g, 0, none⟩) q (q + 1))).1
            have HR4 := Lib.hid (F4.out (.slice (some ⟨g, 0, none⟩) q (q + 1))).2
            clear F4 y0 y1 z1 zf1
            generalize W3.setCell ⟨g6, 1, none⟩ (.slice (some ⟨g, 0, none⟩) q (q + 1)) = W4 at *
            have y0 := HX4.out.cell 0
            have y1 := HX4.out.cell 1
            have r0 := HR4.out.cell 0
            have r1 := HR4.out.cell 1
            have rf0 := HR4.out.frozen 0
            have rf1 := HR4.out.frozen 1
            simp only [List.getElem?_cons_zero, List.getElem?_cons_succ] at y0 y1 r0 r1
            go_wp2_with (at_builtin; fail)
            have HR7 : RowB (W4.setCells (w.heap.size + 1) 0 [.slice A1 ts.length c1, .slice (some ⟨g, 0, none⟩) q (q + 1)]) (w.heap.size + 1) 26 _ := HR4.out.putAll _ rfl
            exact bodyPost_ret (res_box (p := 4) (u := 5) (ty := 26) rfl _ _ (w.heap.size + 1) 26 _ (0, 0) _ rfl HR7 Try.underlying26 rfl rfl) rfl FIN2.out
        · have FIN2 := Lib.hid (FIN.out (n - 1) cap rfl rfl)
          clear FIN
          go_region_law (refine step_append_room rfl (.tmp 27) (.tmp 32) 24 rfl 87 i0 6 Try.underlying24 hi0 hzz1 g 0 q cap (by simp [Act.eval, Act.put]) ⟨g, (q + 1) * 6, none⟩ (n - (q + 1)) (cap - (q + 1)) news (by simp [Act.eval, Act.put]) N1.out N4.out N2.out (by omega) N3.out ?_; rw [← HW3.out])
          all_goals
            have HX4 := Lib.hid (F4.out (.slice (some ⟨g, 0, none⟩) (n - 1) cap)).1
            have HR4 := Lib.hid (F4.out (.slice (some ⟨g, 0, none⟩) (n - 1) cap)).2
            clear F4 y0 y1 z1 zf1
            generalize W3.setCell ⟨g6, 1, none⟩ (.slice (some ⟨g, 0, none⟩) (n - 1) cap) = W4 at *
            have y0 := HX4.out.cell 0
            have y1 := HX4.out.cell 1
            have r0 := HR4.out.cell 0
            have r1 := HR4.out.cell 1
            have rf0 := HR4.out.frozen 0
            have rf1 := HR4.out.frozen 1
            simp only [List.getElem?_cons_zero, List.getElem?_cons_succ] at y0 y1 r0 r1
            go_wp2_with (at_builtin; fail)
            have HR7 : RowB (W4.setCells (w.heap.size + 1) 0 [.slice A1 ts.length c1, .slice (some ⟨g, 0, none⟩) (n - 1) cap]) (w.heap.size + 1) 26 _ := HR4.out.putAll _ rfl
            exact bodyPost_ret (res_box (p := 4) (u := 5) (ty := 26) rfl _ _ (w.heap.size + 1) 26 _ (0, 0) _ rfl HR7 Try.underlying26 rfl rfl) rfl FIN2.out

end Go.Proofs.Ytidlifijgooceaa
