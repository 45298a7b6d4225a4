import Derived.Test.YtidlifijgooceaaH28
import Derived.Test.YtidlifijgooceaaH26
import Derived.Test.YtidlifijgooceaaH06
set_option linter.unusedVariables false

/- spec.ProgramSame of programs without statements; spec.SequenceOf. -/
namespace Go.Proofs.Ytidlifijgooceaa
open Go.RowKit

set_option maxHeartbeats 400000 in
theorem sSameList_nil (w : World) : Calls Try.prog 124 #[.slice none 0 0, .slice none 0 0] w fun e w' => e = .returned (.bool true) ∧ w' = w := by
  go_enter Try.func124, Try.ntmps124
  go_wp2
  go_loopw [5] (fun i wr => i = .int .i64 0 ∧ wr = w) (fun _ _ => 0)
  case atStart => exact ⟨rfl, rfl⟩
  case round =>
    obtain ⟨rfl, rfl⟩ := hrel
    go_wp2
    go_ret
    exact ⟨rfl, rfl⟩
set_option maxHeartbeats 1000000 in
theorem sSameTypes (va vb : Value) (la lb : List Int) (B : Nat) (w : World) (ha : IntS w B va la) (hb : IntS w B vb lb) (hB : B ≤ w.heap.size) :
    Calls Try.prog 70 #[.agg #[va, .slice none 0 0], .agg #[vb, .slice none 0 0]] w fun e w' => e = .returned (.bool (eqP la lb)) ∧ Below w.heap.size w w' := by
  have ha0 := ha
  have hb0 := hb
  obtain ⟨A, c, rfl, -, -, -⟩ := ha0
  obtain ⟨A', c', rfl, -, -, -⟩ := hb0
  have HR0 := Lib.hid ((RowB.new w [.slice A la.length c, .slice none 0 0] 26).alloc (.cells #[.slice A' lb.length c', .slice none 0 0] 26))
  have HR1 := Lib.hid (RowB.new (w.alloc (.cells #[.slice A la.length c, .slice none 0 0] 26)) [.slice A' lb.length c', .slice none 0 0] 26)
  have HB0 := Lib.hid ((bel_a w (.cells #[.slice A la.length c, .slice none 0 0] 26)).alloc (by simp) (.cells #[.slice A' lb.length c', .slice none 0 0] 26))
  have hz1 : (w.alloc (.cells #[.slice A la.length c, .slice none 0 0] 26)).heap.size = w.heap.size + 1 := by simp
  rw [hz1] at HR1
  obtain ⟨A9, c9, e9, hc, hm, hr⟩ := ha.low HB0.out hB
  obtain ⟨A8, c8, e8, hc', hm', hr'⟩ := hb.low HB0.out hB
  injection e9 with f1 f2 f3
  injection e8 with g1 g2 g3
  subst f1 f3 g1 g3
  clear f2 g2 ha hb hz1
  go_enter Try.func70, Try.ntmps70
  go_upto_region 1 with (at_builtin; fail)
  generalize (w.alloc (.cells #[.slice A la.length c, .slice none 0 0] 26)).alloc (.cells #[.slice A' lb.length c', .slice none 0 0] 26) = W at *
  have c0 := HR0.out.cell 0
  have c1 := HR0.out.cell 1
  have d0 := HR1.out.cell 0
  have d1 := HR1.out.cell 1
  simp only [List.getElem?_cons_zero, List.getElem?_cons_succ] at c0 c1 d0 d1
  by_cases hl : la.length = lb.length
  · have hle : ((la.length : Int) != (lb.length : Int)) = false := by simp [hl]
    have HL := Lib.hid hl
    clear hl
    go_wp2_with (at_builtin; fail)
    go_loopw [5] (fun i wr => ∃ k : Nat, k ≤ la.length ∧ i = .int .i64 k ∧ la.take k = lb.take k ∧ ∃ n, wr = W.drewN n) (fun i _ => la.length - (intOf i).toNat)
    case atStart => exact ⟨0, Nat.zero_le _, rfl, by simp, 0, rfl⟩
    case round =>
      obtain ⟨k, hk, rfl, hn, n0, rfl⟩ := hrel
      have H := Lib.hid hn
      clear hn
      by_cases hlt : k < la.length
      · have hlt2 : k < lb.length := by rw [← HL.out]; exact hlt
        obtain ⟨b, off, rfl, hb, hcell⟩ := hr.int_at hlt
        have hck := hcell k hlt
        obtain ⟨b', off', rfl, hb', hcell'⟩ := hr'.int_at hlt2
        have hck' := hcell' k hlt2
        clear hcell hcell'
        go_wp2
        go_quiet (fail)
        go_wp2
        · have hx : (la[k] != lb[k]) = true := by assumption
          go_ret
          refine ⟨ret_bool ?_, HB0.out.trans (below_of_drewN (drewN_two _ _ _) _)⟩
          unfold eqP
          rw [eq_comm, decide_eq_false_iff_not]
          rintro rfl
          simp at hx
        · have hx : (la[k] != lb[k]) = false := by assumption
          refine ⟨⟨k + 1, by omega, by go_num, ?_, ⟨_, rfl⟩⟩, by simp [intOf]; omega⟩
          rw [take_succ_get la k hlt, take_succ_get lb k hlt2, H.out]
          simp at hx
          rw [hx]
      · obtain rfl : k = la.length := by omega
        go_wp2_with (at_builtin; fail)
        refine (sSameList_nil _).mono ?_
        rintro e w9 ⟨rfl, rfl⟩
        go_wp2_with (at_builtin; fail)
        go_ret
        refine ⟨ret_bool ?_, HB0.out.trans (below_of_drewN ⟨n0, rfl⟩ _)⟩
        have h := H.out
        rw [List.take_length, HL.out, List.take_length] at h
        unfold eqP
        rw [eq_comm]
        exact decide_eq_true h
  · have hle : ((la.length : Int) != (lb.length : Int)) = true := by simp; omega
    have HL := Lib.hid hl
    clear hl
    go_wp2_with (at_builtin; fail)
    go_ret
    refine ⟨ret_bool ?_, HB0.out⟩
    unfold eqP
    rw [eq_comm, decide_eq_false_iff_not]
    exact fun h => HL.out (by rw [h])
set_option maxHeartbeats 4000000 in
set_option maxRecDepth 100000 in
theorem sSequenceOf_any (vt vb vt' vb' : Value) (ts ts' : List Int) (la lb : List St) (B : Nat) (w : World) (ht : IntS w B vt ts) (hl : StS w B vb la) (ht' : IntS w B vt' ts') (hl' : StS w B vb' lb) (hB : B ≤ w.heap.size) (hts : ts.length ≤ 700) (hsz : szL la + szL lb ≤ 4194000) :
    Calls Try.prog 26 #[.agg #[vt, vb], .agg #[vt', vb']] w (CatRet w ts ts' la lb) := by
  have hlla := len_le_szL la
  have hllb := len_le_szL lb
  have ht0 := ht
  have ht0' := ht'
  obtain ⟨At, ct, rfl, -, -, -⟩ := ht0
  obtain ⟨Ab, cb, rfl, -⟩ := hl.slice
  obtain ⟨At', ct', rfl, -, -, -⟩ := ht0'
  obtain ⟨Ab', cb', rfl, -⟩ := hl'.slice
  have HR0 := Lib.hid (((RowB.new w [.slice At ts.length ct, .slice Ab la.length cb] 26).alloc (.cells #[.slice At' ts'.length ct', .slice Ab' lb.length cb'] 26)).alloc (.cells #[.slice none 0 0, .slice none 0 0] 26))
  have HR1 := Lib.hid ((RowB.new (w.alloc (.cells #[.slice At ts.length ct, .slice Ab la.length cb] 26)) [.slice At' ts'.length ct', .slice Ab' lb.length cb'] 26).alloc (.cells #[.slice none 0 0, .slice none 0 0] 26))
  have HR2 := Lib.hid (RowB.new ((w.alloc (.cells #[.slice At ts.length ct, .slice Ab la.length cb] 26)).alloc (.cells #[.slice At' ts'.length ct', .slice Ab' lb.length cb'] 26)) [.slice none 0 0, .slice none 0 0] 26)
  have HB0 := Lib.hid (((bel_a w (.cells #[.slice At ts.length ct, .slice Ab la.length cb] 26)).alloc (by simp) (.cells #[.slice At' ts'.length ct', .slice Ab' lb.length cb'] 26)).alloc (by simp; omega) (.cells #[.slice none 0 0, .slice none 0 0] 26))
  have hz1 : (w.alloc (.cells #[.slice At ts.length ct, .slice Ab la.length cb] 26)).heap.size = w.heap.size + 1 := by simp
  have hz2 : ((w.alloc (.cells #[.slice At ts.length ct, .slice Ab la.length cb] 26)).alloc (.cells #[.slice At' ts'.length ct', .slice Ab' lb.length cb'] 26)).heap.size = w.heap.size + 2 := by simp
  rw [hz1] at HR1
  rw [hz2] at HR2
  have HT := Lib.hid ht
  have HL := Lib.hid hl
  have HT' := Lib.hid ht'
  have HL' := Lib.hid hl'
  clear hz1 hz2 ht hl ht' hl'
  go_enter Try.func26, Try.ntmps26
  go_upto_region 1 with (at_builtin; fail)
  generalize ((w.alloc (.cells #[.slice At ts.length ct, .slice Ab la.length cb] 26)).alloc (.cells #[.slice At' ts'.length ct', .slice Ab' lb.length cb'] 26)).alloc (.cells #[.slice none 0 0, .slice none 0 0] 26) = W at *
  have FAIL : Hid (catOk ts ts' la lb = false → ∀ W', Below w.heap.size w W' → CatRet w ts ts' la lb (.returned (.tuple #[.agg #[.slice none 0 0, .slice none 0 0], .bool false])) W') := Lib.hid fun h W' hW => by
    refine ⟨_, _, by rw [h], ?_, ?_, hW⟩ <;> rw [h] <;> first | exact IntS.nil' _ _ _ _ | exact StS.zero _
  have c0 := HR0.out.cell 0
  have c1 := HR0.out.cell 1
  have d0 := HR1.out.cell 0
  have d1 := HR1.out.cell 1
  simp only [List.getElem?_cons_zero, List.getElem?_cons_succ] at c0 c1 d0 d1
  have hsW := HB0.out.size
  go_wp2_with (at_builtin; fail)
  refine (sProgramValid_any _ _ ts la B W (HT.out.low HB0.out hB) (HL.out.low HB0.out hB) (by omega) (by omega)).mono ?_
  rintro e w1 ⟨rfl, hb1⟩
  have HB1 := Lib.hid (HB0.out.trans (hb1.mono hsW))
  have HR0 := Lib.hid (HR0.out.low hb1 HR0.out.lt)
  have HR1 := Lib.hid (HR1.out.low hb1 HR1.out.lt)
  have HR2 := Lib.hid (HR2.out.low hb1 HR2.out.lt)
  clear c0 c1 d0 d1 hb1
  have c0 := HR0.out.cell 0
  have c1 := HR0.out.cell 1
  have d0 := HR1.out.cell 0
  have d1 := HR1.out.cell 1
  have y0 := HR2.out.cell 0
  have y1 := HR2.out.cell 1
  have yf0 := HR2.out.frozen 0
  have yf1 := HR2.out.frozen 1
  simp only [List.getElem?_cons_zero, List.getElem?_cons_succ] at c0 c1 d0 d1 y0 y1
  have hs1 := HB1.out.size
  cases hok : validP ts la
  · have HNO := Lib.hid (FAIL.out (by unfold catOk; rw [hok]; rfl))
    clear hok
    go_wp2_with (at_builtin; fail)
    refine bodyPost_ret (res_box (u := 5) rfl _ _ (w.heap.size + 1 + 1) 26 _ (0, 0) _ rfl (boxR HR2.out (.slice none 0 0) (.slice none 0 0)) Try.underlying26 rfl rfl) rfl ?_
    exact HNO.out _ ((HB1.out.setCell (p := ⟨w.heap.size + 1 + 1, 0, none⟩) (by show w.heap.size ≤ w.heap.size + 1 + 1; omega) _).setCell (p := ⟨w.heap.size + 1 + 1, 1, none⟩) (by show w.heap.size ≤ w.heap.size + 1 + 1; omega) _)
  · have HVA := Lib.hid hok
    clear hok
    go_wp2_with (at_builtin; fail)
    refine (sProgramValid_any _ _ ts' lb B w1 (HT'.out.low HB1.out hB) (HL'.out.low HB1.out hB) (by omega) (by omega)).mono ?_
    rintro e w2 ⟨rfl, hb2⟩
    have HB2 := Lib.hid (HB1.out.trans (hb2.mono hs1))
    have HR0 := Lib.hid (HR0.out.low hb2 HR0.out.lt)
    have HR1 := Lib.hid (HR1.out.low hb2 HR1.out.lt)
    have HR2 := Lib.hid (HR2.out.low hb2 HR2.out.lt)
    clear c0 c1 d0 d1 y0 y1 yf0 yf1 hb2
    have c0 := HR0.out.cell 0
    have c1 := HR0.out.cell 1
    have d0 := HR1.out.cell 0
    have d1 := HR1.out.cell 1
    have y0 := HR2.out.cell 0
    have y1 := HR2.out.cell 1
    have yf0 := HR2.out.frozen 0
    have yf1 := HR2.out.frozen 1
    simp only [List.getElem?_cons_zero, List.getElem?_cons_succ] at c0 c1 d0 d1 y0 y1
    have hs2 := HB2.out.size
    cases hok : validP ts' lb
    · have HNO := Lib.hid (FAIL.out (by unfold catOk; rw [HVA.out, hok]; rfl))
      clear hok
      go_wp2_with (at_builtin; fail)
      refine bodyPost_ret (res_box (u := 5) rfl _ _ (w.heap.size + 1 + 1) 26 _ (0, 0) _ rfl (boxR HR2.out (.slice none 0 0) (.slice none 0 0)) Try.underlying26 rfl rfl) rfl ?_
      exact HNO.out _ ((HB2.out.setCell (p := ⟨w.heap.size + 1 + 1, 0, none⟩) (by show w.heap.size ≤ w.heap.size + 1 + 1; omega) _).setCell (p := ⟨w.heap.size + 1 + 1, 1, none⟩) (by show w.heap.size ≤ w.heap.size + 1 + 1; omega) _)
    · have HVB := Lib.hid hok
      clear hok
      go_wp2_with (at_builtin; fail)
      refine (sSameTypes _ _ ts ts' B w2 (HT.out.low HB2.out hB) (HT'.out.low HB2.out hB) (by omega)).mono ?_
      rintro e w3 ⟨rfl, hb3⟩
      have HB3 := Lib.hid (HB2.out.trans (hb3.mono hs2))
      have HR0 := Lib.hid (HR0.out.low hb3 HR0.out.lt)
      have HR1 := Lib.hid (HR1.out.low hb3 HR1.out.lt)
      have HR2 := Lib.hid (HR2.out.low hb3 HR2.out.lt)
      clear c0 c1 d0 d1 y0 y1 yf0 yf1 hb3
      have c0 := HR0.out.cell 0
      have c1 := HR0.out.cell 1
      have d0 := HR1.out.cell 0
      have d1 := HR1.out.cell 1
      have y0 := HR2.out.cell 0
      have y1 := HR2.out.cell 1
      have yf0 := HR2.out.frozen 0
      have yf1 := HR2.out.frozen 1
      simp only [List.getElem?_cons_zero, List.getElem?_cons_succ] at c0 c1 d0 d1 y0 y1
      have hs3 := HB3.out.size
      cases hok : eqP ts ts'
      · have HNO := Lib.hid (FAIL.out (by unfold catOk; rw [HVA.out, HVB.out, hok]; rfl))
        clear hok
        go_wp2_with (at_builtin; fail)
        refine bodyPost_ret (res_box (u := 5) rfl _ _ (w.heap.size + 1 + 1) 26 _ (0, 0) _ rfl (boxR HR2.out (.slice none 0 0) (.slice none 0 0)) Try.underlying26 rfl rfl) rfl ?_
        exact HNO.out _ ((HB3.out.setCell (p := ⟨w.heap.size + 1 + 1, 0, none⟩) (by show w.heap.size ≤ w.heap.size + 1 + 1; omega) _).setCell (p := ⟨w.heap.size + 1 + 1, 1, none⟩) (by show w.heap.size ≤ w.heap.size + 1 + 1; omega) _)
      · have HEQ := Lib.hid hok
        clear hok
        go_wp2_with (at_builtin; fail)
        have HW3 := Lib.hid (show w.heap.size + 1 + 1 < w3.heap.size from HR2.out.lt)
        refine (copyOf_any _ _ ts la B w3 (HT.out.low HB3.out hB) (HL.out.low HB3.out hB) (by omega) hts (by omega)).mono ?_
        rintro e w4 ⟨v4, u4, lo, rfl, hoi4, hne4, hos4, hlo4, hlo4', hb4⟩
        obtain ⟨P4, p4, rfl, -⟩ := hoi4.slice
        obtain ⟨Q4, q4, rfl, -⟩ := hos4.slice
        have HOI4 := Lib.hid hoi4
        have HNE4 := Lib.hid hne4
        have HOS4 := Lib.hid hos4
        have HB34 := Lib.hid hb4
        have h34 := hb4.size
        clear hoi4 hne4 hos4
        have HB4 := Lib.hid (HB3.out.trans (hb4.mono hs3))
        have HR0 := Lib.hid (HR0.out.low hb4 HR0.out.lt)
        have HR1 := Lib.hid (HR1.out.low hb4 HR1.out.lt)
        have HR2 := Lib.hid (HR2.out.low hb4 HR2.out.lt)
        clear c0 c1 d0 d1 y0 y1 yf0 yf1 hb4
        have c0 := HR0.out.cell 0
        have c1 := HR0.out.cell 1
        have d0 := HR1.out.cell 0
        have d1 := HR1.out.cell 1
        have y0 := HR2.out.cell 0
        have y1 := HR2.out.cell 1
        have yf0 := HR2.out.frozen 0
        have yf1 := HR2.out.frozen 1
        simp only [List.getElem?_cons_zero, List.getElem?_cons_succ] at c0 c1 d0 d1 y0 y1
        have hs4 := HB4.out.size
        go_upto_region 4 with (at_builtin; fail)
        have HX5 := Lib.hid (RowB.new w4 [.slice P4 ts.length p4, .slice Q4 la.length q4] 26)
        have HB5 := Lib.hid (bel_a w4 (.cells #[.slice P4 ts.length p4, .slice Q4 la.length q4] 26))
        have HU5 := Lib.hid (HOS4.out.toU.below HB5.out)
        have HHOW := Lib.hid (fun g e => (HOS4.out.own_lt (g := g) e))
        have hd5 := (HB5.out.cell (p := ⟨w.heap.size + 1, 1, none⟩) HR1.out.lt).trans d1
        generalize w4.alloc (.cells #[.slice P4 ts.length p4, .slice Q4 la.length q4] 26) = w5 at *
        have hs5 := HX5.out.lt
        have o1 := HX5.out.cell 1
        simp only [List.getElem?_cons_zero, List.getElem?_cons_succ] at o1
        go_cut [] from 28 to 34 (fun wx => ∃ Q7 q7, OSt wx lo (.slice Q7 (la.length + lb.length) q7) (la ++ lb) ∧ RowB wx w4.heap.size 26 [.slice P4 ts.length p4, .slice Q7 (la.length + lb.length) q7] ∧ Below w3.heap.size w3 wx ∧ (∀ b, b < lo → wx.heap[b]? = w4.heap[b]?) ∧ w4.heap.size < wx.heap.size)
        case first =>
          have C6 := Lib.hid (copy_any (szL lb) (by omega) (.slice Ab' lb.length cb') lb B w5.drew (Nat.le_refl _) (((HL'.out.low HB4.out hB).low HB5.out (by omega)).keep fun _ _ _ => rfl) (by show B ≤ w5.heap.size; omega))
          have tok1 : True := trivial
          go_region_law (first
            | (have _t := tok2; refine step_app_sts (by rfl) (.tmp 29) (.tmp 32) (by rfl) lo w5.heap.size w4.heap.size (.slice Q4 la.length q4) (.slice Q6 lb.length q6) la lb (by rfl) HU6.out (by rfl) HOS6.out hlo4' hs5 (by omega) (by omega) ?_; intro v7 w7 hg7 hK7; clear tok2 _t; (obtain ⟨Q7, q7, hq7, -⟩ := (hK7 w7 (Nat.le_refl _) fun _ _ _ => rfl).slice); (rw [List.length_append] at hq7); (subst hq7); (have HG7 := Lib.hid hg7); (have HK7 := Lib.hid hK7); (have HX7 : Hid (RowB w7 w4.heap.size 26 [.slice P4 ts.length p4, .slice Q4 la.length q4]) := Lib.hid ((hg7.block w4.heap.size (by omega) (fun e => by have := (HHOW.out _ e.symm).2; omega)).trans HX6.out)); (have o7 := HX7.out.cell 1); (have of7 := HX7.out.frozen 1); (simp only [List.getElem?_cons_zero, List.getElem?_cons_succ] at o7); clear hg7 hK7)
            | (have _t := tok1; go_simp; go_at_call 69; refine C6.out.mono ?_; rintro e w6 ⟨v6, rfl, hos6, hb6⟩; clear tok1 _t; (obtain ⟨Q6, q6, rfl, -⟩ := hos6.slice); (have HOS6 := Lib.hid (show OSt w6 w5.heap.size (.slice Q6 lb.length q6) lb from hos6)); (have HB6 := Lib.hid (show Below w5.heap.size w5 w6 from (Below.refl w5.heap.size w5).drew.trans hb6)); (have HU6 := Lib.hid (HU5.out.below HB6.out)); (have HX6 := Lib.hid (HX5.out.low HB6.out hs5)); (have o6 := (HB6.out.cell (p := ⟨w4.heap.size, 1, none⟩) hs5).trans o1); (have hs6 := HB6.out.size); clear hos6 hb6; (have tok2 : True := trivial))
            | fail)
          all_goals
            go_wp2_with (at_builtin; fail)
            go_meet
            exact ⟨_, _, cat_close HB34.out hlo4 hlo4' (fun g e => (HHOW.out g e).1) (HB5.out.trans (HB6.out.mono (by omega))) HG7.out HX7.out HK7.out⟩
        case rest =>
          rename World => w8
          obtain ⟨Q7, q7, hos8, hx8, hb8, hk8, hs8⟩ := hcut
          have HOS8 := Lib.hid hos8
          have HX8 := Lib.hid hx8
          have HW38 := HW3.out
          have HR2 := Lib.hid ((hk8 (w.heap.size + 1 + 1) (by omega)).trans HR2.out)
          have HOI8 := Lib.hid (HOI4.out.moveTo HNE4.out fun b _ h => hk8 b h)
          have HB8 := Lib.hid (HB3.out.trans (hb8.mono hs3))
          have hs38 := hb8.size
          clear hos8 hx8 hb8 hk8 c0 c1 d0 d1 y0 y1 yf0 yf1 hd5 o1
          have o0 := HX8.out.cell 0
          have o1 := HX8.out.cell 1
          simp only [List.getElem?_cons_zero, List.getElem?_cons_succ] at o0 o1
          go_wp2_with (at_builtin; fail)
          refine (sProgramValid_any _ _ ts (la ++ lb) w8.heap.size w8 (HOI8.out.toS (by omega)) (by have := HOS8.out.toX.toS; exact this) (Nat.le_refl _) (by rw [szL_append]; omega)).mono ?_
          rintro e w9 ⟨rfl, hb9⟩
          have HR2 : Hid (RowB w9 (w.heap.size + 1 + 1) 26 [.slice none 0 0, .slice none 0 0]) := Lib.hid (RowB.low HR2.out hb9 (by omega))
          have HX9 := Lib.hid (HX8.out.low hb9 HX8.out.lt)
          have HB9 := Lib.hid (HB8.out.trans (hb9.mono (by omega)))
          have HBS := Lib.hid hb9
          have hs9 := hb9.size
          clear o0 o1 hb9
          have o0 := HX9.out.cell 0
          have o1 := HX9.out.cell 1
          have y0 := HR2.out.cell 0
          have y1 := HR2.out.cell 1
          have yf0 := HR2.out.frozen 0
          have yf1 := HR2.out.frozen 1
          simp only [List.getElem?_cons_zero, List.getElem?_cons_succ] at o0 o1 y0 y1
          cases hok : validP ts (la ++ lb)
          · have HNO := Lib.hid (FAIL.out (by unfold catOk; rw [HVA.out, HVB.out, HEQ.out, hok]; rfl))
            clear hok
            go_wp2_with (at_builtin; fail)
            refine bodyPost_ret (res_box (u := 5) rfl _ _ (w.heap.size + 1 + 1) 26 _ (0, 0) _ rfl (boxR HR2.out (.slice none 0 0) (.slice none 0 0)) Try.underlying26 rfl rfl) rfl ?_
            exact HNO.out _ ((HB9.out.setCell (p := ⟨w.heap.size + 1 + 1, 0, none⟩) (by show w.heap.size ≤ w.heap.size + 1 + 1; omega) _).setCell (p := ⟨w.heap.size + 1 + 1, 1, none⟩) (by show w.heap.size ≤ w.heap.size + 1 + 1; omega) _)
          · have HOK : Hid (catOk ts ts' la lb = true) := Lib.hid (by unfold catOk; rw [HVA.out, HVB.out, HEQ.out, hok]; rfl)
            clear hok
            go_wp2_with (at_builtin; fail)
            refine bodyPost_ret (res_box (u := 5) rfl _ _ (w.heap.size + 1 + 1) 26 _ (0, 0) _ rfl (boxR HR2.out (.slice P4 ts.length p4) (.slice Q7 (la.length + lb.length) q7)) Try.underlying26 rfl rfl) rfl ?_
            have hset : ∀ b, b ≠ w.heap.size + 1 + 1 → ((w9.setCell ⟨w.heap.size + 1 + 1, 0, none⟩ (.slice P4 ts.length p4)).setCell ⟨w.heap.size + 1 + 1, 1, none⟩ (.slice Q7 (la.length + lb.length) q7)).heap[b]? = w9.heap[b]? := fun b hb => by
              rw [Below.heap_setCell _ _ _ _ hb, Below.heap_setCell _ _ _ _ hb]
            have F := own_reads (w' := (w9.setCell ⟨w.heap.size + 1 + 1, 0, none⟩ (.slice P4 ts.length p4)).setCell ⟨w.heap.size + 1 + 1, 1, none⟩ (.slice Q7 (la.length + lb.length) q7)) HOI8.out HOS8.out hlo4 (by simp only [World.size_setCell]; exact hs9) (fun b h1 h2 => (hset b (by omega)).trans (HBS.out.block b h2)) (by omega)
            refine ⟨_, _, by rw [HOK.out]; rfl, ?_, ?_, (HB9.out.setCell (p := ⟨w.heap.size + 1 + 1, 0, none⟩) (by show w.heap.size ≤ w.heap.size + 1 + 1; omega) _).setCell (p := ⟨w.heap.size + 1 + 1, 1, none⟩) (by show w.heap.size ≤ w.heap.size + 1 + 1; omega) _⟩
            · rw [HOK.out]; exact F.1
            · rw [HOK.out]; exact F.2
end Go.Proofs.Ytidlifijgooceaa

/- spec.DrawSequenceOf. -/
namespace Go.Proofs.Ytidlifijgooceaa
open Go.RowKit

theorem res_two0 {P : Program} {fn : Func} {p q : Tmp} {ty : TypeId} (h : fn.results = #[.cell p ty, .cell q ty]) (tmps : Array Value) (w : World) (g g' : Nat) (t : TypeId) (cs cs' : Array Value) (fr fr' : Nat × Nat) (d : TypeDesc)
    (hp : tmps.getD p undef = .pointer (some ⟨g, 0, none⟩)) (hg : w.heap[g]? = some (.cells cs t fr))
    (hq : tmps.getD q undef = .pointer (some ⟨g', 0, none⟩)) (hg' : w.heap[g']? = some (.cells cs' t fr'))
    (hu : P.underlying ty = some d) (hd : (match d with | .struct _ | .array _ _ => true | _ => false) = true) (hi : (P.info? ty).map (·.size) = some cs.size) (hi' : (P.info? ty).map (·.size) = some cs'.size) :
    (results fn tmps).run P w = .ok (.tuple #[.agg cs, .agg cs']) w := by
  simp only [results, h]
  simp [Sem.run_bind, Result.andThen, asAddr]
  rw [← Array.getD_eq_getD_getElem?, ← Array.getD_eq_getD_getElem?, hp, hq]
  simp [run_loadVar_row w g t ty cs fr d hg hu hd hi, run_loadVar_row w g' t ty cs' fr' d hg' hu hd hi']
def P2Ret (w : World) (e : Ending) (w' : World) : Prop :=
  ∃ (vt vb vt' vb' : Value) (ts ts' : List Int) (l l' : List St), e = .returned (.tuple #[.agg #[vt, vb], .agg #[vt', vb']]) ∧ IntX w' (fun b => w.heap.size ≤ b) vt ts ∧ StX w' (fun b => w.heap.size ≤ b) vb l ∧ IntX w' (fun b => w.heap.size ≤ b) vt' ts' ∧ StX w' (fun b => w.heap.size ≤ b) vb' l' ∧
    ts.length ≤ 700 ∧ ts'.length ≤ 700 ∧ szL l ≤ 100000 ∧ szL l' ≤ 100000 ∧ Below w.heap.size w w'
set_option maxHeartbeats 4000000
set_option maxRecDepth 100000
theorem drawSequenceOf_any (A : Option Addr) (n c : Nat) (w : World) (hb : Byt w w.heap.size A n) (hn : n ≤ 1048576) (hc : n ≤ c) :
    Calls Try.prog 25 #[.slice A n c] w (P2Ret w) := by
  have HB := Lib.hid hb
  clear hb
  go_enter Try.func25, Try.ntmps25
  go_wp2_with fail
  have hA : Below w.heap.size w ((w.alloc (.cells #[.slice none 0 0, .slice none 0 0] 26)).alloc (.cells #[.slice none 0 0, .slice none 0 0] 26)) := (bel_a w (.cells #[.slice none 0 0, .slice none 0 0] 26)).alloc (by simp) (.cells #[.slice none 0 0, .slice none 0 0] 26)
  have hsA : ((w.alloc (.cells #[.slice none 0 0, .slice none 0 0] 26)).alloc (.cells #[.slice none 0 0, .slice none 0 0] 26)).heap.size = w.heap.size + 2 := by simp
  have hr00 : RowB ((w.alloc (.cells #[.slice none 0 0, .slice none 0 0] 26)).alloc (.cells #[.slice none 0 0, .slice none 0 0] 26)) w.heap.size 26 [.slice none 0 0, .slice none 0 0] := (RowB.new w [.slice none 0 0, .slice none 0 0] 26).alloc (.cells #[.slice none 0 0, .slice none 0 0] 26)
  have hr11 : RowB ((w.alloc (.cells #[.slice none 0 0, .slice none 0 0] 26)).alloc (.cells #[.slice none 0 0, .slice none 0 0] 26)) (w.heap.size + 1) 26 [.slice none 0 0, .slice none 0 0] := by
    have h := RowB.new (w.alloc (.cells #[.slice none 0 0, .slice none 0 0] 26)) [.slice none 0 0, .slice none 0 0] 26
    rw [show (w.alloc (.cells #[.slice none 0 0, .slice none 0 0] 26)).heap.size = w.heap.size + 1 by simp] at h
    exact h
  refine (l17Open_any A n c _ (by rw [hsA]; exact (HB.out.keep fun b o hb => hA.cell (p := ⟨b, o, none⟩) hb).more (by omega)) hn hc).mono ?_
  rw [hsA]
  rintro e w1 ⟨rfl, hd1, hb1⟩
  have hs1 : w.heap.size + 2 < w1.heap.size := hd1.lt
  have HR0 := Lib.hid (hr00.low hb1 (by omega))
  have HR1 := Lib.hid (hr11.low hb1 (by omega))
  have HB1 := Lib.hid (hA.trans (hb1.mono (by omega)))
  have HD1 := Lib.hid hd1
  clear hb1 hd1 hA hsA hr00 hr11
  go_wp2_with fail
  refine (l1Draw_any (w.heap.size + 2) 0 _ HD1.out (by omega)).mono ?_
  rintro e wd ⟨vt0, vb0, ts0, l0, p0, rfl, hit0, hst0, hts0, hsz0, hp0, hd0, hg0⟩
  have hs0 := hg0.size
  have HD0 := Lib.hid hd0
  have HG0 := Lib.hid hg0
  have HIT0 := Lib.hid hit0
  have HST0 := Lib.hid hst0
  clear hit0 hst0 hd0 hg0
  go_wp2_with fail
  refine (mutate_any (w.heap.size + 2) p0 _ _ ts0 l0 _ _ HIT0.out.toS HST0.out.toS (Nat.le_refl _) hts0 hsz0 HD0.out (by omega)).mono ?_
  rintro e w2 ⟨vt, vb, ts, l, p2, rfl, hit', hst', hts, hsz, hp2, hd2, hg2'⟩
  have hg2 := grown_tr HG0.out hg2'
  have hit := hit'.frame (P' := fun b => w1.heap.size ≤ b ∧ b < w2.heap.size) (Nat.le_refl _) fun b hb hl => ⟨⟨by have hb' : wd.heap.size ≤ b := hb; show w1.heap.size ≤ b; omega, hl⟩, rfl⟩
  have hst := hst'.frame (P' := fun b => w1.heap.size ≤ b ∧ b < w2.heap.size) (Nat.le_refl _) fun b hb hl => ⟨⟨by have hb' : wd.heap.size ≤ b := hb; show w1.heap.size ≤ b; omega, hl⟩, rfl⟩
  clear hit' hst' hg2'
  have hs2 := hg2.size
  have hA2 := bel_a w2 (.cells #[vt, vb] 26)
  have hsW : (w2.alloc (.cells #[vt, vb] 26)).heap.size = w2.heap.size + 1 := by simp
  have HR0 := Lib.hid (row_below (row_grown HR0.out hg2 (by omega)) hA2)
  have HR1 := Lib.hid (row_below (row_grown HR1.out hg2 (by omega)) hA2)
  have HRP := Lib.hid (heap_alloc_new w2 (.cells #[vt, vb] 26))
  have HD2 := Lib.hid (hd2.low hA2 (by omega))
  have HB2 := Lib.hid ((grown_new HB1.out (by omega) hg2).trans (hA2.mono (by omega)))
  have HIT := Lib.hid (hit.bel hA2)
  have HST := Lib.hid (hst.bel hA2)
  obtain ⟨At, ct, rfl, -⟩ := hit.slice
  obtain ⟨Ab, cb, rfl, -⟩ := hst.slice
  clear hit hst hd2 hg2 hA2
  go_wp2_with fail
  generalize w2.alloc (.cells #[.slice At ts.length ct, .slice Ab l.length cb] 26) = W2 at *
  have HSW := Lib.hid hsW
  have hsw : w2.heap.size < W2.heap.size := by omega
  clear hsW
  refine (l1Draw_any (w.heap.size + 2) p2 _ HD2.out (by omega)).mono ?_
  rintro e w3 ⟨vt', vb', ts', l', p3, rfl, hit', hst', hts', hsz', hp3, hd3, hg3⟩
  have hs3 := hg3.size
  obtain ⟨At', ct', rfl, -⟩ := hit'.slice
  obtain ⟨Ab', cb', rfl, -⟩ := hst'.slice
  have hA3 := bel_a w3 (.cells #[.slice At' ts'.length ct', .slice Ab' l'.length cb'] 26)
  have HR0 := Lib.hid (row_below (row_grown HR0.out hg3 (by omega)) hA3)
  have HR1 := Lib.hid (row_below (row_grown HR1.out hg3 (by omega)) hA3)
  have HRP := Lib.hid (row_below (row_grown HRP.out hg3 (by omega)) hA3)
  have HRQ := Lib.hid (heap_alloc_new w3 (.cells #[.slice At' ts'.length ct', .slice Ab' l'.length cb'] 26))
  have HD3 := Lib.hid (hd3.low hA3 (by omega))
  have HB3 := Lib.hid ((grown_new HB2.out (by omega) hg3).trans (hA3.mono (by omega)))
  have HIT3 := Lib.hid ((HIT.out.grown hg3 (by show ¬ (w1.heap.size ≤ w.heap.size + 2 ∧ _); omega)).bel hA3)
  have HST3 := Lib.hid ((HST.out.grown hg3 (by show ¬ (w1.heap.size ≤ w.heap.size + 2 ∧ _); omega)).bel hA3)
  have HIQ := Lib.hid (hit'.bel hA3)
  have HSQ := Lib.hid (hst'.bel hA3)
  clear hit' hst' hd3 hg3 hA3
  go_wp2_with fail
  have hs4 : w3.heap.size < (w3.alloc (.cells #[.slice At' ts'.length ct', .slice Ab' l'.length cb'] 26)).heap.size := by simp
  generalize w3.alloc (.cells #[.slice At' ts'.length ct', .slice Ab' l'.length cb'] 26) = W3 at *
  refine (pick_any (w.heap.size + 2) p3 3 _ HD3.out (by omega) (by omega) (by omega)).mono ?_
  rintro e w4 ⟨k, rfl, -, -, hd4, hg4⟩
  have hsz4 := hg4.size
  have HR0 : Hid (RowB w4 w.heap.size 26 [.slice none 0 0, .slice none 0 0]) := Lib.hid (row_grown HR0.out hg4 (by omega))
  have HR1 : Hid (RowB w4 (w.heap.size + 1) 26 [.slice none 0 0, .slice none 0 0]) := Lib.hid (row_grown HR1.out hg4 (by omega))
  have HRP : Hid (RowB w4 w2.heap.size 26 [.slice At ts.length ct, .slice Ab l.length cb]) := Lib.hid (row_grown HRP.out hg4 (by omega))
  have HRQ : Hid (RowB w4 w3.heap.size 26 [.slice At' ts'.length ct', .slice Ab' l'.length cb']) := Lib.hid (row_grown HRQ.out hg4 (by omega))
  have HB4 := Lib.hid (grown_new HB3.out (by omega) hg4)
  have HIT4 := Lib.hid (HIT3.out.grown hg4 (by show ¬ (w1.heap.size ≤ w.heap.size + 2 ∧ _); omega))
  have HST4 := Lib.hid (HST3.out.grown hg4 (by show ¬ (w1.heap.size ≤ w.heap.size + 2 ∧ _); omega))
  have HIQ4 := Lib.hid (HIQ.out.grown hg4 (by show ¬ (W2.heap.size ≤ w.heap.size + 2); omega))
  have HSQ4 := Lib.hid (HSQ.out.grown hg4 (by show ¬ (W2.heap.size ≤ w.heap.size + 2); omega))
  clear hd4 hg4
  by_cases hk : 0 < k
  · go_wp2_with fail
    have a0 := HRP.out.cell 0
    have a1 := HRP.out.cell 1
    simp only [List.getElem?_cons_zero, List.getElem?_cons_succ] at a0 a1
    have hpl := HRP.out.lt
    have hql := HRQ.out.lt
    have hpq : w2.heap.size ≠ w3.heap.size := by omega
    have SO : Hid (∀ w', w4.grownBy w' (some w3.heap.size) → (w'.cell? ⟨w2.heap.size, 0, none⟩ = some (.slice At ts.length ct) ∧ w'.cell? ⟨w2.heap.size, 1, none⟩ = some (.slice Ab l.length cb) ∧ w4.grownBy w' (some w3.heap.size))) := Lib.hid fun w' h =>
      ⟨(World.cell?_of_block (w := w4) (a := ⟨w2.heap.size, 0, none⟩) (h.block w2.heap.size hpl (fun e => by injection e with e; omega))).trans a0, (World.cell?_of_block (w := w4) (a := ⟨w2.heap.size, 1, none⟩) (h.block w2.heap.size hpl (fun e => by injection e with e; omega))).trans a1, h⟩
    have GO : Hid (∀ w', (w'.cell? ⟨w2.heap.size, 0, none⟩ = some (.slice At ts.length ct) ∧ w'.cell? ⟨w2.heap.size, 1, none⟩ = some (.slice Ab l.length cb) ∧ w4.grownBy w' (some w3.heap.size)) → w4.grownBy w' (some w3.heap.size)) := Lib.hid fun w' h => h.2.2
    have HT0 : Hid (∀ w', w4.grownBy w' (some w3.heap.size) → IntS w' w'.heap.size (.slice At ts.length ct) ts) := Lib.hid fun w' h => (HIT4.out.grown h (by show ¬ (_ ∧ w3.heap.size < w2.heap.size); omega)).toS
    have HCE : Hid (∀ w', (w'.cell? ⟨w2.heap.size, 0, none⟩ = some (.slice At ts.length ct) ∧ w'.cell? ⟨w2.heap.size, 1, none⟩ = some (.slice Ab l.length cb) ∧ w4.grownBy w' (some w3.heap.size)) → Calls Try.prog 69 #[.slice Ab l.length cb] w' (CopyRet w' l)) := Lib.hid fun w' h => copy_any (szL l) (by omega) _ l w'.heap.size w' (Nat.le_refl _) (HST4.out.grown h.2.2 (by show ¬ (_ ∧ w3.heap.size < w2.heap.size); omega)).toS (Nat.le_refl _)
    clear a0 a1
    have tok1 : True := trivial
    go_region_held3 (fun w' => w'.cell? ⟨w2.heap.size, 0, none⟩ = some (.slice At ts.length ct) ∧ w'.cell? ⟨w2.heap.size, 1, none⟩ = some (.slice Ab l.length cb) ∧ w4.grownBy w' (some w3.heap.size))
      (first | exact SO.out _ (grown_bel ((Below.refl _ _).drew) (Nat.le_refl _) _) | exact SO.out _ (grown_bel ((bel_a _ _).drew) (Nat.le_refl _) _) | exact SO.out _ (by assumption) | exact SO.out _ (grown_alloc (GO.out _ (by assumption)) _) | exact SO.out _ (grown_tr (grown_tr (GO.out _ (by assumption)) (grown_set _ _ _ _)) (grown_set _ _ _ _)))
      (first
        | (go_at_call 69; (with_reducible refine (HCE.out _ (by assumption)).mono ?_); (rintro e w6 ⟨v6, rfl, hos, hb6⟩); (have gr6 := grown_below' (GO.out _ (by assumption)) hb6); (have hrb := RowB.low HRA.out hb6 (by have := (RowB.lt HRA.out); omega)); (have HRB := Lib.hid hrb); (have z0 := hrb.cell 0); (have z1 := hrb.cell 1); (have zf0 := hrb.frozen 0); (have zf1 := hrb.frozen 1); (simp only [List.getElem?_cons_zero, List.getElem?_cons_succ] at z0 z1); clear hrb; (obtain ⟨A6, c6, rfl, -⟩ := hos.slice))
        | ((have _t := tok1); clear tok1 _t; (refine step_app_ints (by rfl) (.tmp 18) (.tmp 20) (by rfl) w4.heap.size (.slice (some ⟨w4.heap.size, 0, none⟩) 0 0) [] (by rfl) (OInts.empty w4 w4.heap.size (Nat.le_refl _)) _ _ ts (by rfl) (HT0.out _ (GO.out _ (by assumption))) (by have := (GO.out _ (by assumption)).size; omega) (by simp; omega) ?_); intro v5 w5 hoi hgw hor; (have gr5 : w4.grownBy w5 (some w3.heap.size) := grown_far (GO.out _ (by assumption)) hgw (fun n e => by simp [Value.ownBlock] at e; omega)); (have HRA : Hid (RowB w5 w3.heap.size 26 [.slice At' ts'.length ct', .slice Ab' l'.length cb']) := Lib.hid ((hgw.block w3.heap.size (by simp; omega) (by simp [Value.ownBlock]; omega)).trans (HRQ.out.low ((bel_a w4 _).drew) hql))); (have HOI := Lib.hid hoi); (have HGW := Lib.hid hgw); (have HOR := Lib.hid hor); (obtain ⟨A5, c5, rfl, -⟩ := hoi.slice); clear hoi hgw hor)
        | fail)
    generalize hW6 : (w6.setCell ⟨w3.heap.size, 0, none⟩ (.slice A5 ts.length c5)).setCell ⟨w3.heap.size, 1, none⟩ (.slice A6 l.length c6) = W6 at *
    have HW6 := Lib.hid hW6
    have hr6 : RowB W6 w3.heap.size 26 [.slice A5 ts.length c5, .slice A6 l.length c6] := by rw [← hW6]; exact ((HRB.out.set_ 0 _).set_ 1 _)
    have hg6 : w6.grownBy W6 (some w3.heap.size) := by rw [← hW6]; exact grown_tr (grown_set _ _ _ _) (grown_set _ _ _ _)
    have hg46 : w4.grownBy W6 (some w3.heap.size) := grown_tr gr6 hg6
    have hb5s := gr5.size
    have hb6s := hb6.size
    have hg6s := hg6.size
    have HIQ6 : Hid (IntX W6 (fun b => w4.heap.size ≤ b) (.slice A5 ts.length c5) ts) := Lib.hid (((HOI.out.toX (by simp; omega)).frame (P' := fun b => w4.heap.size ≤ b) (by omega) fun b hb hl => ⟨hb, (hg6.block b (by omega) (fun e => by injection e with e; have : w4.heap.size ≤ b := hb; omega)).trans (hb6.block b hl)⟩))
    have HSQ6 : Hid (StX W6 (fun b => w4.heap.size ≤ b) (.slice A6 l.length c6) l) := Lib.hid (hos.toX.frame (by omega) fun b hb hl => ⟨by have : w5.heap.size ≤ b := hb; show w4.heap.size ≤ b; omega, hg6.block b hl (fun e => by injection e with e; have : w5.heap.size ≤ b := hb; omega)⟩)
    have HIT6 := Lib.hid (HIT4.out.grown hg46 (by show ¬ (_ ∧ w3.heap.size < w2.heap.size); omega))
    have HST6 := Lib.hid (HST4.out.grown hg46 (by show ¬ (_ ∧ w3.heap.size < w2.heap.size); omega))
    have HR0 : Hid (RowB W6 w.heap.size 26 [.slice none 0 0, .slice none 0 0]) := Lib.hid (row_grown HR0.out hg46 (by omega))
    have HR1 : Hid (RowB W6 (w.heap.size + 1) 26 [.slice none 0 0, .slice none 0 0]) := Lib.hid (row_grown HR1.out hg46 (by omega))
    have HRP : Hid (RowB W6 w2.heap.size 26 [.slice At ts.length ct, .slice Ab l.length cb]) := Lib.hid (row_grown HRP.out hg46 hpq)
    have HRQ := Lib.hid hr6
    have HB6 := Lib.hid (grown_new HB4.out (by omega) hg46)
    have hs46 := hg46.size
    clear hW6 hr6 hg6 hg46 gr5 gr6 hos hb6 z0 z1 zf0 zf1
    go_wp2_with fail
    have c0 := HRP.out.cell 0
    have c1 := HRP.out.cell 1
    have d0 := HRQ.out.cell 0
    have d1 := HRQ.out.cell 1
    have x0 := HR0.out.cell 0
    have x1 := HR0.out.cell 1
    have y0 := HR1.out.cell 0
    have y1 := HR1.out.cell 1
    have xf0 := HR0.out.frozen 0
    have xf1 := HR0.out.frozen 1
    have yf0 := HR1.out.frozen 0
    have yf1 := HR1.out.frozen 1
    simp only [List.getElem?_cons_zero, List.getElem?_cons_succ] at c0 c1 d0 d1 x0 x1 y0 y1
    have HX := Lib.hid (box22 HR0.out HR1.out (by omega) (.slice At ts.length ct) (.slice Ab l.length cb) (.slice A5 ts.length c5) (.slice A6 l.length c6))
    have HEND : Hid (P2Ret w (.returned (.tuple #[.agg #[.slice At ts.length ct, .slice Ab l.length cb], .agg #[.slice A5 ts.length c5, .slice A6 l.length c6]])) ((((W6.setCell ⟨w.heap.size, 0, none⟩ (.slice At ts.length ct)).setCell ⟨w.heap.size, 1, none⟩ (.slice Ab l.length cb)).setCell ⟨w.heap.size + 1, 0, none⟩ (.slice A5 ts.length c5)).setCell ⟨w.heap.size + 1, 1, none⟩ (.slice A6 l.length c6)).drew) := Lib.hid (by
      have hk : ∀ b, w1.heap.size ≤ b → b < W6.heap.size → (w.heap.size ≤ b) ∧ ((((W6.setCell ⟨w.heap.size, 0, none⟩ (.slice At ts.length ct)).setCell ⟨w.heap.size, 1, none⟩ (.slice Ab l.length cb)).setCell ⟨w.heap.size + 1, 0, none⟩ (.slice A5 ts.length c5)).setCell ⟨w.heap.size + 1, 1, none⟩ (.slice A6 l.length c6)).drew.heap[b]? = W6.heap[b]? := fun b hb _ => ⟨by omega, set4_blk _ _ _ _ (by omega) (by omega) _ _ _ _⟩
      have hss : W6.heap.size ≤ ((((W6.setCell ⟨w.heap.size, 0, none⟩ (.slice At ts.length ct)).setCell ⟨w.heap.size, 1, none⟩ (.slice Ab l.length cb)).setCell ⟨w.heap.size + 1, 0, none⟩ (.slice A5 ts.length c5)).setCell ⟨w.heap.size + 1, 1, none⟩ (.slice A6 l.length c6)).drew.heap.size := by show _ ≤ (World.setCell _ _ _).heap.size; simp only [World.size_setCell]; exact Nat.le_refl _
      exact ⟨_, _, _, _, ts, ts, l, l, rfl, HIT6.out.frame hss fun b hb hl => hk b hb.1 hl, HST6.out.frame hss fun b hb hl => hk b hb.1 hl, HIQ6.out.frame hss fun b hb hl => hk b (by have : w4.heap.size ≤ b := hb; omega) hl, HSQ6.out.frame hss fun b hb hl => hk b (by have : w4.heap.size ≤ b := hb; omega) hl, hts, hts, hsz, hsz, (bel_set4 HB6.out (by omega) (by omega) _ _ _ _).drew⟩)
    go_region_law (fail)
    all_goals
      go_wp2_with fail
      refine bodyPost_ret (res_two0 rfl _ _ w.heap.size (w.heap.size + 1) 26 _ _ (0, 0) (0, 0) _ rfl HX.out.1 rfl HX.out.2 Try.underlying26 rfl rfl rfl) rfl ?_
      exact HEND.out
  · go_wp2_with fail
    have c0 := HRP.out.cell 0
    have c1 := HRP.out.cell 1
    have d0 := HRQ.out.cell 0
    have d1 := HRQ.out.cell 1
    have x0 := HR0.out.cell 0
    have x1 := HR0.out.cell 1
    have y0 := HR1.out.cell 0
    have y1 := HR1.out.cell 1
    have xf0 := HR0.out.frozen 0
    have xf1 := HR0.out.frozen 1
    have yf0 := HR1.out.frozen 0
    have yf1 := HR1.out.frozen 1
    simp only [List.getElem?_cons_zero, List.getElem?_cons_succ] at c0 c1 d0 d1 x0 x1 y0 y1
    have HX := Lib.hid (box22 HR0.out HR1.out (by omega) (.slice At ts.length ct) (.slice Ab l.length cb) (.slice At' ts'.length ct') (.slice Ab' l'.length cb'))
    have HEND : Hid (P2Ret w (.returned (.tuple #[.agg #[.slice At ts.length ct, .slice Ab l.length cb], .agg #[.slice At' ts'.length ct', .slice Ab' l'.length cb']])) ((((w4.setCell ⟨w.heap.size, 0, none⟩ (.slice At ts.length ct)).setCell ⟨w.heap.size, 1, none⟩ (.slice Ab l.length cb)).setCell ⟨w.heap.size + 1, 0, none⟩ (.slice At' ts'.length ct')).setCell ⟨w.heap.size + 1, 1, none⟩ (.slice Ab' l'.length cb')).drew) := Lib.hid (by
      have hk : ∀ b, w1.heap.size ≤ b → b < w4.heap.size → (w.heap.size ≤ b) ∧ ((((w4.setCell ⟨w.heap.size, 0, none⟩ (.slice At ts.length ct)).setCell ⟨w.heap.size, 1, none⟩ (.slice Ab l.length cb)).setCell ⟨w.heap.size + 1, 0, none⟩ (.slice At' ts'.length ct')).setCell ⟨w.heap.size + 1, 1, none⟩ (.slice Ab' l'.length cb')).drew.heap[b]? = w4.heap[b]? := fun b hb _ => ⟨by omega, set4_blk _ _ _ _ (by omega) (by omega) _ _ _ _⟩
      have hss : w4.heap.size ≤ ((((w4.setCell ⟨w.heap.size, 0, none⟩ (.slice At ts.length ct)).setCell ⟨w.heap.size, 1, none⟩ (.slice Ab l.length cb)).setCell ⟨w.heap.size + 1, 0, none⟩ (.slice At' ts'.length ct')).setCell ⟨w.heap.size + 1, 1, none⟩ (.slice Ab' l'.length cb')).drew.heap.size := by show _ ≤ (World.setCell _ _ _).heap.size; simp only [World.size_setCell]; exact Nat.le_refl _
      exact ⟨_, _, _, _, ts, ts', l, l', rfl, HIT4.out.frame hss fun b hb hl => hk b hb.1 hl, HST4.out.frame hss fun b hb hl => hk b hb.1 hl, HIQ4.out.frame hss fun b hb hl => hk b (by have : W2.heap.size ≤ b := hb; omega) hl, HSQ4.out.frame hss fun b hb hl => hk b (by have : W2.heap.size ≤ b := hb; omega) hl, hts, by omega, hsz, by omega, (bel_set4 HB4.out (by omega) (by omega) _ _ _ _).drew⟩)
    go_region_law (fail)
    all_goals
      go_wp2_with fail
      refine bodyPost_ret (res_two0 rfl _ _ w.heap.size (w.heap.size + 1) 26 _ _ (0, 0) (0, 0) _ rfl HX.out.1 rfl HX.out.2 Try.underlying26 rfl rfl rfl) rfl ?_
      exact HEND.out

end Go.Proofs.Ytidlifijgooceaa

/- impl.graphOf once more: without a graph it answers nil. -/
namespace Go.Proofs.Ytidlifijgooceaa
open Go.RowKit

end Go.Proofs.Ytidlifijgooceaa
