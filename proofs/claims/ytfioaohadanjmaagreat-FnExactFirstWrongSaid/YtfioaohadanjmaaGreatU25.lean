import Derived.Test.YtfioaohadanjmaaGreatU23
set_option linter.unusedVariables false

/- spec.l7Move. -/
namespace Go.Proofs.YtfioaohadanjmaaGreat
open Go.RowKit Go.Lib

set_option maxHeartbeats 8000000 in
set_option maxRecDepth 100000 in
theorem l7Move_any (vt vs vc vl : Value) (ts : List Int) (s : Ms) (x : Pt) (An : Option Addr) (cn v u base B : Nat) (w : World) (ht : IntS w B vt ts) (hB : B ≤ w.heap.size) (h : SpS w base vs vc vl s) (hb : base ≤ w.heap.size) (hok : MsOk ts s)
    (hxv : x.x = (v : Nat)) (hvl : v < ts.length) (hyu : x.y = (u : Nat)) (hul : u < ts.length) (h6 : ts.length ≤ 6) (R : Ms × Option Int) (hR : R = putP ts ⟨if takesP ts (u : Nat) = true then s.sl.set u slD else s.sl, s.ce, s.rd⟩ v (slAt s.sl u)) :
    Calls Tryz.prog 86 #[vt, .agg #[vs, vc, vl], .agg #[.int .i64 x.op, .int .i64 x.x, .int .i64 x.y, .int .i64 x.n, .slice An x.next.length cn]] w
      (SpRet w base (R.1, codeV R.2)) := by
  have HR0 := Lib.hid hR
  clear hR
  have HT := Lib.hid ht
  have H := Lib.hid h
  have OK := Lib.hid hok
  have hus : u < s.sl.length := by rw [hok.ln]; exact hul
  have hsl6 : s.sl.length ≤ 6 := by rw [hok.ln]; exact h6
  obtain ⟨As, cs, rfl, hcs⟩ := h.sl.slice
  obtain ⟨Ac, cc, rfl, hcc⟩ := h.ce.slice
  obtain ⟨Al, cl, rfl, hcl⟩ := h.rd.slice
  obtain ⟨At, ct, rfl, hct, -, hr⟩ := ht
  obtain ⟨bt, ot, rfl, hbt, htc⟩ := hr.int_at (show 0 < ts.length by omega)
  have t0 := htc u hul
  obtain ⟨k1, k2, k3, k4⟩ := three_boxes w [.slice As s.sl.length cs, .slice Ac s.ce.length cc, .slice Al s.rd.length cl] [.int .i64 x.op, .int .i64 x.x, .int .i64 x.y, .int .i64 x.n, .slice An x.next.length cn] [.slice none 0 0, .slice none 0 0, .slice none 0 0] 57 94 57
  have HC := Lib.hid k1
  have HP := Lib.hid k2
  have HR := Lib.hid k3
  have HB0 := Lib.hid k4
  clear h hok hr htc k1 k2 k3 k4
  rw [hxv, hyu] at HP HB0 HC HR ⊢
  go_enter Tryz.func86, Tryz.ntmps86
  go_upto_region 1 with (at_builtin; fail)
  generalize ((w.alloc (.cells #[.slice As s.sl.length cs, .slice Ac s.ce.length cc, .slice Al s.rd.length cl] 57)).alloc (.cells #[.int .i64 x.op, .int .i64 (v : Nat), .int .i64 (u : Nat), .int .i64 x.n, .slice An x.next.length cn] 94)).alloc (.cells #[.slice none 0 0, .slice none 0 0, .slice none 0 0] 57) = W at *
  obtain ⟨bx, hbx⟩ : ∃ bx, bx = w.heap.size := ⟨_, rfl⟩
  rw [← hbx] at HC HP HR ⊢
  have HBX := Lib.hid hbx
  have hbr : w.heap.size ≤ bx + 1 + 1 := by omega
  clear hbx
  have H1 := Lib.hid (H.out.bel HB0.out)
  obtain ⟨g1, rfl, hg1, hgl1, u0, u1, u2, u3, -⟩ := H1.out.sl.at_ hus
  have HY : Hid (slAt s.sl u = s.sl[u]) := Lib.hid (slAt_get hus)
  generalize s.sl[u] = Y at *
  have c0 := HC.out.cell 0
  have p2 := HP.out.cell 2
  simp only [List.getElem?_cons_zero, List.getElem?_cons_succ] at c0 p2
  go_upto_region 2 with (at_builtin; fail)
  have H2 := Lib.hid (H1.out.bel (bel_a W (.cells #[.bool Y.set, .int .i64 Y.num, .int .i64 (Y.pc : Nat), .int .i64 (Y.pt : Nat)] 79)))
  have HC2 := Lib.hid (HC.out.alloc (.cells #[.bool Y.set, .int .i64 Y.num, .int .i64 (Y.pc : Nat), .int .i64 (Y.pt : Nat)] 79))
  have HP2 := Lib.hid (HP.out.alloc (.cells #[.bool Y.set, .int .i64 Y.num, .int .i64 (Y.pc : Nat), .int .i64 (Y.pt : Nat)] 79))
  have HR2 := Lib.hid (HR.out.alloc (.cells #[.bool Y.set, .int .i64 Y.num, .int .i64 (Y.pc : Nat), .int .i64 (Y.pt : Nat)] 79))
  have HZ2 := Lib.hid (RowB.new W [.bool Y.set, .int .i64 Y.num, .int .i64 (Y.pc : Nat), .int .i64 (Y.pt : Nat)] 79)
  have HB2 := Lib.hid (HB0.out.alloc HB0.out.size (.cells #[.bool Y.set, .int .i64 Y.num, .int .i64 (Y.pc : Nat), .int .i64 (Y.pt : Nat)] 79))
  clear c0 p2 u0 u1 u2 u3
  generalize W.alloc (.cells #[.bool Y.set, .int .i64 Y.num, .int .i64 (Y.pc : Nat), .int .i64 (Y.pt : Nat)] 79) = w2 at *
  generalize W.heap.size = bz at *
  have c0 := HC2.out.cell 0
  have c1 := HC2.out.cell 1
  have c2 := HC2.out.cell 2
  have p1 := HP2.out.cell 1
  have p2 := HP2.out.cell 2
  have z0 := HZ2.out.cell 0
  have z1 := HZ2.out.cell 1
  have z2 := HZ2.out.cell 2
  have z3 := HZ2.out.cell 3
  simp only [List.getElem?_cons_zero, List.getElem?_cons_succ] at c0 c1 c2 p1 p2 z0 z1 z2 z3
  have t1 := (HB2.out.cell (p := ⟨bt, ot + u, none⟩) (by show bt < w.heap.size; omega)).trans t0
  clear t0
  obtain ⟨ty, hty⟩ : ∃ ty, ty = ts.getD u 0 := ⟨_, rfl⟩
  rw [← hty] at t1
  have HTT : Hid (takesP ts (u : Nat) = (ty == 2 || ty == 4)) := Lib.hid (by unfold takesP typeOfP; rw [if_pos (Int.natCast_nonneg u), Int.toNat_natCast, hty])
  clear hty
  by_cases hcond : ty = 2 ∨ ty = 4
  · have HTK : Hid (takesP ts (u : Nat) = true) := Lib.hid (by rw [HTT.out]; rcases hcond with rfl | rfl <;> rfl)
    have HRR : Hid (R = putP ts ⟨s.sl.set u slD, s.ce, s.rd⟩ v Y) := Lib.hid (by rw [HR0.out, HY.out, if_pos HTK.out])
    rcases hcond with rfl | rfl
    · skip
      have HOK3 : Hid (MsOk ts ⟨s.sl.set u slD, s.ce, s.rd⟩) := Lib.hid ⟨OK.out.ce, by rw [List.length_set]; exact OK.out.ln⟩
      go_upto_region 3 with (at_builtin; fail)
      clear t1
      go_wp2_with (at_builtin; fail)
      refine (l7Clear_any _ _ _ s base u w2 H2.out (Nat.le_trans hb HB2.out.size) hus (by omega)).mono ?_
      rintro e w3 ⟨vs3, vc3, vl3, rfl, hs3, hb3⟩
      have HB3 := Lib.hid (HB2.out.trans (hb3.mono HB2.out.size))
      have HBX3 := Lib.hid hb3
      obtain ⟨A3a, c3a, rfl, -⟩ := hs3.sl.slice
      obtain ⟨A3b, c3b, rfl, -⟩ := hs3.ce.slice
      obtain ⟨A3c, c3c, rfl, -⟩ := hs3.rd.slice
      have HS3 : Hid (SpS w3 base (.slice A3a s.sl.length c3a) (.slice A3b s.ce.length c3b) (.slice A3c s.rd.length c3c) ⟨s.sl.set u slD, s.ce, s.rd⟩) := Lib.hid (by have := hs3; simpa only [List.length_set] using this)
      have HC3 := Lib.hid (HC2.out.low HBX3.out HC2.out.lt)
      have HP3 := Lib.hid (HP2.out.low HBX3.out HP2.out.lt)
      have HR3 := Lib.hid (HR2.out.low HBX3.out HR2.out.lt)
      have HZ3 := Lib.hid (HZ2.out.low HBX3.out HZ2.out.lt)
      have b0 := HC3.out.cell 0
      have b1 := HC3.out.cell 1
      have b2 := HC3.out.cell 2
      simp only [List.getElem?_cons_zero, List.getElem?_cons_succ] at b0 b1 b2
      have bf0 := HC3.out.frozen 0
      have bf1 := HC3.out.frozen 1
      have bf2 := HC3.out.frozen 2
      clear hs3 hb3 c0 c1 c2 p1 p2 z0 z1 z2 z3
      go_upto_region 4 with (at_builtin; fail)
      rw [set3z]
      have HC4 : Hid (RowB (w3.setCells bx 0 [.slice A3a s.sl.length c3a, .slice A3b s.ce.length c3b, .slice A3c s.rd.length c3c]) bx 57 [.slice A3a s.sl.length c3a, .slice A3b s.ce.length c3b, .slice A3c s.rd.length c3c]) := Lib.hid (HC3.out.putAll [.slice A3a s.sl.length c3a, .slice A3b s.ce.length c3b, .slice A3c s.rd.length c3c] rfl)
      have HR4 := Lib.hid (HR3.out.nes (show bx + 1 + 1 ≠ bx by omega) 0 [.slice A3a s.sl.length c3a, .slice A3b s.ce.length c3b, .slice A3c s.rd.length c3c])
      have HP4 := Lib.hid (HP3.out.kpu (KpU.ss HC3.out [.slice A3a s.sl.length c3a, .slice A3b s.ce.length c3b, .slice A3c s.rd.length c3c]) (by decide) (by decide))
      have HZ4 := Lib.hid (HZ3.out.kpu (KpU.ss HC3.out [.slice A3a s.sl.length c3a, .slice A3b s.ce.length c3b, .slice A3c s.rd.length c3c]) (by decide) (by decide))
      have HS4 := Lib.hid (HS3.out.kpu (KpU.ss HC3.out [.slice A3a s.sl.length c3a, .slice A3b s.ce.length c3b, .slice A3c s.rd.length c3c]))
      have HB4 := Lib.hid (belSets HB3.out (show w.heap.size ≤ bx by have := HBX.out; omega) 0 [.slice A3a s.sl.length c3a, .slice A3b s.ce.length c3b, .slice A3c s.rd.length c3c])
      clear b0 b1 b2 bf0 bf1 bf2
      generalize w3.setCells bx 0 [.slice A3a s.sl.length c3a, .slice A3b s.ce.length c3b, .slice A3c s.rd.length c3c] = w4 at *
      have c0 := HC4.out.cell 0
      have c1 := HC4.out.cell 1
      have c2 := HC4.out.cell 2
      have p1 := HP4.out.cell 1
      have z0 := HZ4.out.cell 0
      have z1 := HZ4.out.cell 1
      have z2 := HZ4.out.cell 2
      have z3 := HZ4.out.cell 3
      simp only [List.getElem?_cons_zero, List.getElem?_cons_succ] at c0 c1 c2 p1 z0 z1 z2 z3
      go_wp2_with (at_builtin; fail)
      refine (l7Put_any _ _ _ _ ts ⟨s.sl.set u slD, s.ce, s.rd⟩ Y base v B w4 (HT.out.low HB4.out hB) (Nat.le_trans hB HB4.out.size) HS4.out (Nat.le_trans hb HB4.out.size) HOK3.out hvl h6).mono ?_
      rw [← HRR.out]
      rintro e wz ⟨vs9, vc9, vl9, rfl, hs9, hb9⟩
      have HS9 := Lib.hid hs9
      have HB9 := Lib.hid hb9
      obtain ⟨A9a, c9a, rfl, -⟩ := hs9.sl.slice
      obtain ⟨A9b, c9b, rfl, -⟩ := hs9.ce.slice
      obtain ⟨A9c, c9c, rfl, -⟩ := hs9.rd.slice
      have HRz := Lib.hid (HR4.out.low HB9.out HR4.out.lt)
      have rz0 := HRz.out.cell 0
      have rz1 := HRz.out.cell 1
      have rz2 := HRz.out.cell 2
      simp only [List.getElem?_cons_zero, List.getElem?_cons_succ] at rz0 rz1 rz2
      have fz0 := HRz.out.frozen 0
      have fz1 := HRz.out.frozen 1
      have fz2 := HRz.out.frozen 2
      clear hs9 hb9
      go_wp2_with (at_builtin; fail)
      have HEN := Lib.hid (sp_end HRz.out rfl HS9.out (HB4.out.trans (HB9.out.mono HB4.out.size)) hbr)
      refine bodyPost_ret (res_s1 (p := 6) (u := 7) (ty := 57) rfl _ _ (bx + 1 + 1) 57 _ (0, 0) _ rfl HEN.out.1 Tryz.underlying57 rfl rfl) rfl ?_
      exact ⟨_, _, _, rfl, HEN.out.2.1, HEN.out.2.2⟩
    · skip
      have HOK3 : Hid (MsOk ts ⟨s.sl.set u slD, s.ce, s.rd⟩) := Lib.hid ⟨OK.out.ce, by rw [List.length_set]; exact OK.out.ln⟩
      go_upto_region 3 with (at_builtin; fail)
      clear t1
      go_wp2_with (at_builtin; fail)
      refine (l7Clear_any _ _ _ s base u w2 H2.out (Nat.le_trans hb HB2.out.size) hus (by omega)).mono ?_
      rintro e w3 ⟨vs3, vc3, vl3, rfl, hs3, hb3⟩
      have HB3 := Lib.hid (HB2.out.trans (hb3.mono HB2.out.size))
      have HBX3 := Lib.hid hb3
      obtain ⟨A3a, c3a, rfl, -⟩ := hs3.sl.slice
      obtain ⟨A3b, c3b, rfl, -⟩ := hs3.ce.slice
      obtain ⟨A3c, c3c, rfl, -⟩ := hs3.rd.slice
      have HS3 : Hid (SpS w3 base (.slice A3a s.sl.length c3a) (.slice A3b s.ce.length c3b) (.slice A3c s.rd.length c3c) ⟨s.sl.set u slD, s.ce, s.rd⟩) := Lib.hid (by have := hs3; simpa only [List.length_set] using this)
      have HC3 := Lib.hid (HC2.out.low HBX3.out HC2.out.lt)
      have HP3 := Lib.hid (HP2.out.low HBX3.out HP2.out.lt)
      have HR3 := Lib.hid (HR2.out.low HBX3.out HR2.out.lt)
      have HZ3 := Lib.hid (HZ2.out.low HBX3.out HZ2.out.lt)
      have b0 := HC3.out.cell 0
      have b1 := HC3.out.cell 1
      have b2 := HC3.out.cell 2
      simp only [List.getElem?_cons_zero, List.getElem?_cons_succ] at b0 b1 b2
      have bf0 := HC3.out.frozen 0
      have bf1 := HC3.out.frozen 1
      have bf2 := HC3.out.frozen 2
      clear hs3 hb3 c0 c1 c2 p1 p2 z0 z1 z2 z3
      go_upto_region 4 with (at_builtin; fail)
      rw [set3z]
      have HC4 : Hid (RowB (w3.setCells bx 0 [.slice A3a s.sl.length c3a, .slice A3b s.ce.length c3b, .slice A3c s.rd.length c3c]) bx 57 [.slice A3a s.sl.length c3a, .slice A3b s.ce.length c3b, .slice A3c s.rd.length c3c]) := Lib.hid (HC3.out.putAll [.slice A3a s.sl.length c3a, .slice A3b s.ce.length c3b, .slice A3c s.rd.length c3c] rfl)
      have HR4 := Lib.hid (HR3.out.nes (show bx + 1 + 1 ≠ bx by omega) 0 [.slice A3a s.sl.length c3a, .slice A3b s.ce.length c3b, .slice A3c s.rd.length c3c])
      have HP4 := Lib.hid (HP3.out.kpu (KpU.ss HC3.out [.slice A3a s.sl.length c3a, .slice A3b s.ce.length c3b, .slice A3c s.rd.length c3c]) (by decide) (by decide))
      have HZ4 := Lib.hid (HZ3.out.kpu (KpU.ss HC3.out [.slice A3a s.sl.length c3a, .slice A3b s.ce.length c3b, .slice A3c s.rd.length c3c]) (by decide) (by decide))
      have HS4 := Lib.hid (HS3.out.kpu (KpU.ss HC3.out [.slice A3a s.sl.length c3a, .slice A3b s.ce.length c3b, .slice A3c s.rd.length c3c]))
      have HB4 := Lib.hid (belSets HB3.out (show w.heap.size ≤ bx by have := HBX.out; omega) 0 [.slice A3a s.sl.length c3a, .slice A3b s.ce.length c3b, .slice A3c s.rd.length c3c])
      clear b0 b1 b2 bf0 bf1 bf2
      generalize w3.setCells bx 0 [.slice A3a s.sl.length c3a, .slice A3b s.ce.length c3b, .slice A3c s.rd.length c3c] = w4 at *
      have c0 := HC4.out.cell 0
      have c1 := HC4.out.cell 1
      have c2 := HC4.out.cell 2
      have p1 := HP4.out.cell 1
      have z0 := HZ4.out.cell 0
      have z1 := HZ4.out.cell 1
      have z2 := HZ4.out.cell 2
      have z3 := HZ4.out.cell 3
      simp only [List.getElem?_cons_zero, List.getElem?_cons_succ] at c0 c1 c2 p1 z0 z1 z2 z3
      go_wp2_with (at_builtin; fail)
      refine (l7Put_any _ _ _ _ ts ⟨s.sl.set u slD, s.ce, s.rd⟩ Y base v B w4 (HT.out.low HB4.out hB) (Nat.le_trans hB HB4.out.size) HS4.out (Nat.le_trans hb HB4.out.size) HOK3.out hvl h6).mono ?_
      rw [← HRR.out]
      rintro e wz ⟨vs9, vc9, vl9, rfl, hs9, hb9⟩
      have HS9 := Lib.hid hs9
      have HB9 := Lib.hid hb9
      obtain ⟨A9a, c9a, rfl, -⟩ := hs9.sl.slice
      obtain ⟨A9b, c9b, rfl, -⟩ := hs9.ce.slice
      obtain ⟨A9c, c9c, rfl, -⟩ := hs9.rd.slice
      have HRz := Lib.hid (HR4.out.low HB9.out HR4.out.lt)
      have rz0 := HRz.out.cell 0
      have rz1 := HRz.out.cell 1
      have rz2 := HRz.out.cell 2
      simp only [List.getElem?_cons_zero, List.getElem?_cons_succ] at rz0 rz1 rz2
      have fz0 := HRz.out.frozen 0
      have fz1 := HRz.out.frozen 1
      have fz2 := HRz.out.frozen 2
      clear hs9 hb9
      go_wp2_with (at_builtin; fail)
      have HEN := Lib.hid (sp_end HRz.out rfl HS9.out (HB4.out.trans (HB9.out.mono HB4.out.size)) hbr)
      refine bodyPost_ret (res_s1 (p := 6) (u := 7) (ty := 57) rfl _ _ (bx + 1 + 1) 57 _ (0, 0) _ rfl HEN.out.1 Tryz.underlying57 rfl rfl) rfl ?_
      exact ⟨_, _, _, rfl, HEN.out.2.1, HEN.out.2.2⟩
  · have HTK : Hid (¬ takesP ts (u : Nat) = true) := Lib.hid (by rw [HTT.out]; intro h; simp only [Bool.or_eq_true, beq_iff_eq] at h; exact hcond h)
    have HRR : Hid (R = putP ts ⟨s.sl, s.ce, s.rd⟩ v Y) := Lib.hid (by rw [HR0.out, HY.out, if_neg HTK.out])
    have q2 : (ty == 2) = false := by rw [Bool.eq_false_iff]; intro h; exact hcond (.inl (beq_iff_eq.1 h))
    have q4 : (ty == 4) = false := by rw [Bool.eq_false_iff]; intro h; exact hcond (.inr (beq_iff_eq.1 h))
    clear hcond
    go_upto_region 4 with (at_builtin; fail)
    clear t1
    go_wp2_with (at_builtin; fail)
    refine (l7Put_any _ _ _ _ ts s Y base v B w2 (HT.out.low HB2.out hB) (Nat.le_trans hB HB2.out.size) H2.out (Nat.le_trans hb HB2.out.size) OK.out hvl h6).mono ?_
    rw [← HRR.out]
    rintro e wz ⟨vs9, vc9, vl9, rfl, hs9, hb9⟩
    have HS9 := Lib.hid hs9
    have HB9 := Lib.hid hb9
    obtain ⟨A9a, c9a, rfl, -⟩ := hs9.sl.slice
    obtain ⟨A9b, c9b, rfl, -⟩ := hs9.ce.slice
    obtain ⟨A9c, c9c, rfl, -⟩ := hs9.rd.slice
    have HRz := Lib.hid (HR2.out.low HB9.out HR2.out.lt)
    have rz0 := HRz.out.cell 0
    have rz1 := HRz.out.cell 1
    have rz2 := HRz.out.cell 2
    simp only [List.getElem?_cons_zero, List.getElem?_cons_succ] at rz0 rz1 rz2
    have fz0 := HRz.out.frozen 0
    have fz1 := HRz.out.frozen 1
    have fz2 := HRz.out.frozen 2
    clear hs9 hb9
    go_wp2_with (at_builtin; fail)
    have HEN := Lib.hid (sp_end HRz.out rfl HS9.out (HB2.out.trans (HB9.out.mono HB2.out.size)) hbr)
    refine bodyPost_ret (res_s1 (p := 6) (u := 7) (ty := 57) rfl _ _ (bx + 1 + 1) 57 _ (0, 0) _ rfl HEN.out.1 Tryz.underlying57 rfl rfl) rfl ?_
    exact ⟨_, _, _, rfl, HEN.out.2.1, HEN.out.2.2⟩

end Go.Proofs.YtfioaohadanjmaaGreat
