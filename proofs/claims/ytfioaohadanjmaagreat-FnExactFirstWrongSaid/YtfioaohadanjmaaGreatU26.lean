import Derived.Test.YtfioaohadanjmaaGreatU24
import Derived.Test.YtfioaohadanjmaaGreatU25
set_option linter.unusedVariables false

/- spec.l7Do. -/
namespace Go.Proofs.YtfioaohadanjmaaGreat
open Go.RowKit Go.Lib

theorem OInts.rdN {w : World} {base : Nat} {v : Value} {l : List Int} (h : OInts w base v l) : RdN w 1 v l.length (l.map (.int .i64)) := by
  obtain ⟨A, c, rfl, hc⟩ := h.slice
  refine ⟨A, c, rfl, by simp, fun hn => ?_⟩
  obtain ⟨g, cap, e, hb, hlt⟩ := World.ownsRow.form h hn
  injection e with e1 _ e2
  subst e1 e2
  refine ⟨g, 0, rfl, fun j u hu => ?_⟩
  rw [Nat.zero_add]
  exact (World.ownsRow.cellAt h j (by have := (List.getElem?_eq_some_iff.1 hu).1; simp at this; omega)).trans hu
theorem wpList_app_is {ops : Array Oper} {rest : List Oper} {o : Oper} {a : Act} {Q : Exit → Act → World → Prop} {w : World} (hgd : o.guard = none) (s x : Operand) (ho : o.op = .call { callee := .builtin .append, args := #[s, x], argTypes := #[22, 22] })
    (base : Nat) (v : Value) (l : List Int) (hs : a.eval s = v) (hP : OInts w base v l) (b2 : Nat) (vs : Value) (l2 : List Int) (hx : a.eval x = vs) (hr : OInts w b2 vs l2) (hb : base ≤ w.heap.size) (hn : l.length + l2.length ≤ 4194304)
    (h : ∀ v' w', OInts w' base v' (l ++ l2) → w.grownBy w' v.ownBlock → (v'.ownBlock = v.ownBlock ∨ v'.ownBlock = some w.heap.size) → wpList Tryz.prog ops Q rest (a.put o.dst v') w') : wpList Tryz.prog ops Q (o :: rest) a w :=
  wpList_app_any Tryz.underlying22 Tryz.infoInt rfl (by decide) (by decide) hgd s x ho base v l.length _ hs hP vs l2.length (l2.map (.int .i64)) hx hr.rdN (by intro u hu; obtain ⟨z, -, rfl⟩ := List.mem_map.1 hu; rfl) hb hn fun v' w' h1 h2 h3 => h v' w' (by unfold OInts; rw [List.length_append, List.map_append]; exact h1) h2 h3
set_option maxHeartbeats 32000000 in
set_option maxRecDepth 100000 in
theorem l7Do_any (vt vs vc vl : Value) (ts : List Int) (s : Ms) (x : Pt) (An : Option Addr) (cn base B : Nat) (w : World) (ht : IntS w B vt ts) (hB : B ≤ w.heap.size) (h : SpS w base vs vc vl s) (hb : base ≤ w.heap.size) (hok : MsOk ts s)
    (hx : PtOk ts x) (hun : unsetP ts s x = false) (he11 : x.op ≠ 11) (hrd : s.rd.length ≤ 1000) (h6 : ts.length ≤ 6) :
    Calls Tryz.prog 62 #[vt, .agg #[vs, vc, vl], .agg #[.int .i64 x.op, .int .i64 x.x, .int .i64 x.y, .int .i64 x.n, .slice An x.next.length cn]] w (SpRet w base ((doP ts s x).1, codeV (doP ts s x).2)) := by
  have HT := Lib.hid ht
  have H := Lib.hid h
  have OK := Lib.hid hok
  have HUN := Lib.hid hun
  have HPX := Lib.hid (fun ho => pt_x hx ho)
  have HPY := Lib.hid (fun ho => pt_y hx ho)
  have HPO := Lib.hid hx
  obtain ⟨As, cs, rfl, hcs⟩ := h.sl.slice
  obtain ⟨Ac, cc, rfl, hcc⟩ := h.ce.slice
  obtain ⟨Al, cl, rfl, hcl⟩ := h.rd.slice
  obtain ⟨At, ct, rfl, hct, -, -⟩ := ht
  obtain ⟨k1, k2, k3, k4⟩ := three_boxes w [.slice As s.sl.length cs, .slice Ac s.ce.length cc, .slice Al s.rd.length cl] [.int .i64 x.op, .int .i64 x.x, .int .i64 x.y, .int .i64 x.n, .slice An x.next.length cn] [.slice none 0 0, .slice none 0 0, .slice none 0 0] 57 94 57
  have HC := Lib.hid k1
  have HP := Lib.hid k2
  have HR := Lib.hid k3
  have HB0 := Lib.hid k4
  clear h hok k1 k2 k3 k4 hun hx
  go_enter Tryz.func62, Tryz.ntmps62
  go_upto_region 1 with (at_builtin; fail)
  generalize ((w.alloc (.cells #[.slice As s.sl.length cs, .slice Ac s.ce.length cc, .slice Al s.rd.length cl] 57)).alloc (.cells #[.int .i64 x.op, .int .i64 x.x, .int .i64 x.y, .int .i64 x.n, .slice An x.next.length cn] 94)).alloc (.cells #[.slice none 0 0, .slice none 0 0, .slice none 0 0] 57) = W at *
  obtain ⟨bx, hbx⟩ : ∃ bx, bx = w.heap.size := ⟨_, rfl⟩
  rw [← hbx] at HC HP HR ⊢
  have hbr : w.heap.size ≤ bx + 1 + 1 := by omega
  have hwx : w.heap.size ≤ bx := by omega
  have HBX := Lib.hid hbx
  clear hbx
  have H1 := Lib.hid (H.out.bel HB0.out)
  have hxl := HC.out.lt
  have hpl := HP.out.lt
  have hrl := HR.out.lt
  have hbW : base ≤ W.heap.size := Nat.le_trans hb HB0.out.size
  have c0 := HC.out.cell 0
  have c1 := HC.out.cell 1
  have c2 := HC.out.cell 2
  have p0 := HP.out.cell 0
  have p1 := HP.out.cell 1
  have p2 := HP.out.cell 2
  have p3 := HP.out.cell 3
  have p4 := HP.out.cell 4
  simp only [List.getElem?_cons_zero, List.getElem?_cons_succ] at c0 c1 c2 p0 p1 p2 p3 p4
  by_cases h1 : x.op = 1
  · obtain ⟨v, hv, hvl⟩ := HPX.out (by omega)
    obtain ⟨R, hR⟩ : ∃ R, R = putP ts s v ⟨true, x.n, 0, 0⟩ := ⟨_, rfl⟩
    have HRR := Lib.hid hR
    have HRES : Hid (doP ts s x = R) := Lib.hid (by rw [doP_1 HUN.out h1, hv, Int.toNat_natCast, hR])
    rw [h1] at p0
    rw [hv] at p1
    clear h1 hv hR
    go_wp2_with (at_builtin; fail)
    refine (l7Put_any _ _ _ _ ts s ⟨true, x.n, 0, 0⟩ base v B W (HT.out.low HB0.out hB) (Nat.le_trans hB HB0.out.size) H1.out (Nat.le_trans hb HB0.out.size) OK.out hvl h6).mono ?_
    rw [← HRR.out]
    rintro e wz ⟨vs9, vc9, vl9, rfl, hs9, hb9⟩
    have HS9 := Lib.hid hs9
    have HB9 := Lib.hid hb9
    obtain ⟨A9a, c9a, rfl, -⟩ := hs9.sl.slice
    obtain ⟨A9b, c9b, rfl, -⟩ := hs9.ce.slice
    obtain ⟨A9c, c9c, rfl, -⟩ := hs9.rd.slice
    have HRz := Lib.hid (HR.out.low HB9.out HR.out.lt)
    have rz0 := HRz.out.cell 0
    have rz1 := HRz.out.cell 1
    have rz2 := HRz.out.cell 2
    simp only [List.getElem?_cons_zero, List.getElem?_cons_succ] at rz0 rz1 rz2
    have fz0 := HRz.out.frozen 0
    have fz1 := HRz.out.frozen 1
    have fz2 := HRz.out.frozen 2
    clear hs9 hb9
    go_wp2_with (at_builtin; fail)
    have HEN := Lib.hid (sp_end HRz.out rfl HS9.out (HB0.out.trans (HB9.out.mono HB0.out.size)) hbr)
    refine bodyPost_ret (res_s1 (p := 6) (u := 7) (ty := 57) rfl _ _ (bx + 1 + 1) 57 _ (0, 0) _ rfl HEN.out.1 Tryz.underlying57 rfl rfl) rfl ?_
    exact ⟨_, _, _, by rw [HRES.out]; rfl, by rw [HRES.out]; exact HEN.out.2.1, HEN.out.2.2⟩
  by_cases h2 : x.op = 2
  · obtain ⟨v, hv, hvl⟩ := HPX.out (by omega)
    have HNC := Lib.hid (sNewCell_any _ s.ce x.n base W H1.out.ce OK.out.ce)
    cases hnk : newOk s.ce x.n
    · have HRES : Hid (doP ts s x = (s, some 1)) := Lib.hid (doP_2n HUN.out h2 hnk)
      have HNK := Lib.hid hnk
      rw [h2] at p0
      clear h1 h2 hv hnk
      go_wp2_with (at_builtin; fail)
      refine HNC.out.mono ?_
      unfold MnRet
      rw [HNK.out]
      obtain ⟨z, hz⟩ : ∃ z : Int, z = ((if false = true then s.ce.length else 0 : Nat) : Int) := ⟨_, rfl⟩
      rw [← hz]
      rintro e w5 ⟨v5, rfl, -, hb5⟩
      have HB5 := Lib.hid hb5
      clear hz
      have HB6 := Lib.hid (HB5.out.alloc HB5.out.size (.cells #[.int .i64 z, .int .i64 0] 77))
      have HC6 := Lib.hid (HC.out.low HB6.out hxl)
      have HR6 := Lib.hid (HR.out.low HB6.out hrl)
      have HS6 := Lib.hid (H1.out.bel HB6.out)
      have HBW6 := Lib.hid (HB0.out.trans (HB6.out.mono HB0.out.size))
      clear hb5 c0 c1 c2 p0 p1 p2 p3 p4
      go_upto_region 7 with (at_builtin; fail)
      have c0 := HC6.out.cell 0
      have c1 := HC6.out.cell 1
      have c2 := HC6.out.cell 2
      have r0 := HR6.out.cell 0
      have r1 := HR6.out.cell 1
      have r2 := HR6.out.cell 2
      simp only [List.getElem?_cons_zero, List.getElem?_cons_succ] at c0 c1 c2 r0 r1 r2
      have rf0 := HR6.out.frozen 0
      have rf1 := HR6.out.frozen 1
      have rf2 := HR6.out.frozen 2
      go_wp2_with (at_builtin; fail)
      have HEN := Lib.hid (sp_end HR6.out rfl HS6.out HBW6.out hbr)
      refine bodyPost_ret (res_s1 (p := 6) (u := 7) (ty := 57) rfl _ _ (bx + 1 + 1) 57 _ (0, 0) _ rfl HEN.out.1 Tryz.underlying57 rfl rfl) rfl ?_
      exact ⟨_, _, _, by rw [HRES.out]; rfl, by rw [HRES.out]; exact HEN.out.2.1, HEN.out.2.2⟩
    · obtain ⟨R, hR⟩ : ∃ R, R = putP ts ⟨s.sl, s.ce ++ [newC x.n], s.rd⟩ v ⟨true, 0, s.ce.length, 0⟩ := ⟨_, rfl⟩
      have HRR := Lib.hid hR
      have HRES : Hid (doP ts s x = R) := Lib.hid (by rw [doP_2 HUN.out h2 hnk, hv, Int.toNat_natCast, hR])
      have HNK := Lib.hid hnk
      obtain ⟨m, hm⟩ : ∃ m, m = s.ce ++ [newC x.n] := ⟨_, rfl⟩
      have HOK6 : Hid (MsOk ts ⟨s.sl, m, s.rd⟩) := Lib.hid ⟨by obtain ⟨n1, n2, n3⟩ := newOk_len hnk OK.out.ce; rw [hm]; exact OK.out.ce.snoc n1 n2 n3, OK.out.ln⟩
      have HME := Lib.hid hm
      rw [← hm] at HRR
      have hus : 0 < s.sl.length := by rw [OK.out.ln]; omega
      obtain ⟨g1, rfl, hg1, hgl1, -, -, -, -, -⟩ := H1.out.sl.at_ hus
      rw [h2] at p0
      rw [hv] at p1
      have HVE := Lib.hid hv
      clear h1 h2 hv hnk hR hm
      go_wp2_with (at_builtin; fail)
      refine HNC.out.mono ?_
      unfold MnRet
      rw [HNK.out]
      rintro e w4 ⟨v5, rfl, hm5, hb5⟩
      have hm5 := hm5 rfl
      rw [← HME.out] at hm5
      obtain ⟨A8, c8, rfl, -⟩ := hm5.slice
      rw [if_pos rfl]
      have HB5 := Lib.hid (hb5.alloc hb5.size (.cells #[.int .i64 (s.ce.length : Nat), .int .i64 0] 77))
      have HM5 := Lib.hid ((hm5.base hbW).bel (bel_a w4 (.cells #[.int .i64 (s.ce.length : Nat), .int .i64 0] 77)))
      have HZ5 : Hid (RowB (w4.alloc (.cells #[.int .i64 (s.ce.length : Nat), .int .i64 0] 77)) w4.heap.size 77 [.int .i64 (s.ce.length : Nat), .int .i64 ((0 : Nat) : Int)]) := Lib.hid (RowB.new w4 [.int .i64 (s.ce.length : Nat), .int .i64 0] 77)
      have hbz : w4.heap.size ≠ bx := by have := hb5.size; omega
      clear hb5 hm5 c0 c1 c2 p0 p1 p2 p3 p4
      go_upto_region 8 with (at_builtin; fail)
      generalize w4.alloc (.cells #[.int .i64 (s.ce.length : Nat), .int .i64 0] 77) = w5 at *
      generalize w4.heap.size = bz at *
      have hHeld : True := trivial
      have HC5 := Lib.hid (HC.out.low HB5.out hxl)
      have HP5 := Lib.hid (HP.out.low HB5.out hpl)
      have HR5 := Lib.hid (HR.out.low HB5.out hrl)
      have H5 := Lib.hid (H1.out.bel HB5.out)
      have HBW5 := Lib.hid (HB0.out.trans (HB5.out.mono HB0.out.size))
      clear hHeld
      have c1 := HC5.out.cell 1
      have f1 := HC5.out.frozen 1
      simp only [List.getElem?_cons_zero, List.getElem?_cons_succ] at c1
      go_upto_region 9 with (at_builtin; fail)
      have HC6 : Hid (RowB (w5.setCell ⟨bx, 1, none⟩ (.slice A8 m.length c8)) bx 57 [.slice (some ⟨g1, 0, none⟩) s.sl.length cs, .slice A8 m.length c8, .slice Al s.rd.length cl]) := Lib.hid (HC5.out.set_ 1 (.slice A8 m.length c8))
      have HR6 := Lib.hid (HR5.out.ne_ (show bx + 1 + 1 ≠ bx by omega) 1 (.slice A8 m.length c8))
      have HKU := Lib.hid (KpU.s1 HC5.out 1 (.slice A8 m.length c8))
      have HP6 := Lib.hid (HP5.out.kpu HKU.out (by decide) (by decide))
      have HS6 : Hid (SpS (w5.setCell ⟨bx, 1, none⟩ (.slice A8 m.length c8)) base (.slice (some ⟨g1, 0, none⟩) s.sl.length cs) (.slice A8 m.length c8) (.slice Al s.rd.length cl) ⟨s.sl, m, s.rd⟩) := Lib.hid ⟨H5.out.sl.kpu HKU.out, HM5.out.kpu HKU.out, H5.out.rd.kpu HKU.out⟩
      have HB6 := Lib.hid (belSet1 HBW5.out hwx 1 (.slice A8 m.length c8))
      have HZ6' := HZ5.out.ne_ hbz 1 (.slice A8 m.length c8)
      clear c1 f1 HKU
      generalize w5.setCell ⟨bx, 1, none⟩ (.slice A8 m.length c8) = w6 at *
      have HZ6 := Lib.hid (show RowB w6 bz 77 _ from HZ6')
      have c0 := HC6.out.cell 0
      have c1 := HC6.out.cell 1
      have c2 := HC6.out.cell 2
      have p1 := HP6.out.cell 1
      have z0 := HZ6.out.cell 0
      have z1 := HZ6.out.cell 1
      simp only [List.getElem?_cons_zero, List.getElem?_cons_succ] at c0 c1 c2 p1 z0 z1
      rw [HVE.out] at p1
      go_wp2_with (at_builtin; fail)
      refine (l7Put_any _ _ _ _ ts ⟨s.sl, m, s.rd⟩ ⟨true, 0, s.ce.length, 0⟩ base v B w6 (HT.out.low HB6.out hB) (Nat.le_trans hB HB6.out.size) HS6.out (Nat.le_trans hb HB6.out.size) HOK6.out hvl h6).mono ?_
      rw [← HRR.out]
      rintro e wz ⟨vs9, vc9, vl9, rfl, hs9, hb9⟩
      have HS9 := Lib.hid hs9
      have HB9 := Lib.hid hb9
      obtain ⟨A9a, c9a, rfl, -⟩ := hs9.sl.slice
      obtain ⟨A9b, c9b, rfl, -⟩ := hs9.ce.slice
      obtain ⟨A9c, c9c, rfl, -⟩ := hs9.rd.slice
      have HRz := Lib.hid (HR6.out.low HB9.out HR6.out.lt)
      have rz0 := HRz.out.cell 0
      have rz1 := HRz.out.cell 1
      have rz2 := HRz.out.cell 2
      simp only [List.getElem?_cons_zero, List.getElem?_cons_succ] at rz0 rz1 rz2
      have fz0 := HRz.out.frozen 0
      have fz1 := HRz.out.frozen 1
      have fz2 := HRz.out.frozen 2
      clear hs9 hb9
      go_wp2_with (at_builtin; fail)
      have HEN := Lib.hid (sp_end HRz.out rfl HS9.out (HB6.out.trans (HB9.out.mono HB6.out.size)) hbr)
      refine bodyPost_ret (res_s1 (p := 6) (u := 7) (ty := 57) rfl _ _ (bx + 1 + 1) 57 _ (0, 0) _ rfl HEN.out.1 Tryz.underlying57 rfl rfl) rfl ?_
      exact ⟨_, _, _, by rw [HRES.out]; rfl, by rw [HRES.out]; exact HEN.out.2.1, HEN.out.2.2⟩
  by_cases h3 : x.op = 3
  · obtain ⟨v, hv, hvl⟩ := HPX.out (by omega)
    obtain ⟨u, hu, hul⟩ := HPY.out (by omega)
    obtain ⟨R, hR⟩ : ∃ R, R = putP ts ⟨if takesP ts (u : Nat) = true then s.sl.set u slD else s.sl, s.ce, s.rd⟩ v (slAt s.sl u) := ⟨_, rfl⟩
    have HRR := Lib.hid hR
    have HRES : Hid (doP ts s x = R) := Lib.hid (by rw [doP_3 HUN.out h3, hv, hu, Int.toNat_natCast, Int.toNat_natCast, hR])
    have HCL := Lib.hid (l7Move_any (.slice At ts.length ct) _ _ _ ts s x An cn v u base B W (HT.out.low HB0.out hB) (Nat.le_trans hB HB0.out.size) H1.out hbW OK.out hv hvl hu hul h6 R hR)
    rw [h3] at p0 HCL
    clear h1 h2 h3 hR hv hu
    go_wp2_with (at_builtin; fail)
    refine HCL.out.mono ?_
    rintro e wz ⟨vs9, vc9, vl9, rfl, hs9, hb9⟩
    have HS9 := Lib.hid hs9
    have HB9 := Lib.hid hb9
    obtain ⟨A9a, c9a, rfl, -⟩ := hs9.sl.slice
    obtain ⟨A9b, c9b, rfl, -⟩ := hs9.ce.slice
    obtain ⟨A9c, c9c, rfl, -⟩ := hs9.rd.slice
    have HRz := Lib.hid (HR.out.low HB9.out HR.out.lt)
    have rz0 := HRz.out.cell 0
    have rz1 := HRz.out.cell 1
    have rz2 := HRz.out.cell 2
    simp only [List.getElem?_cons_zero, List.getElem?_cons_succ] at rz0 rz1 rz2
    have fz0 := HRz.out.frozen 0
    have fz1 := HRz.out.frozen 1
    have fz2 := HRz.out.frozen 2
    clear hs9 hb9
    go_wp2_with (at_builtin; fail)
    have HEN := Lib.hid (sp_end HRz.out rfl HS9.out (HB0.out.trans (HB9.out.mono HB0.out.size)) hbr)
    refine bodyPost_ret (res_s1 (p := 6) (u := 7) (ty := 57) rfl _ _ (bx + 1 + 1) 57 _ (0, 0) _ rfl HEN.out.1 Tryz.underlying57 rfl rfl) rfl ?_
    exact ⟨_, _, _, by rw [HRES.out]; rfl, by rw [HRES.out]; exact HEN.out.2.1, HEN.out.2.2⟩
  by_cases h45 : x.op = 4 ∨ x.op = 5
  · obtain ⟨v, hv, hvl⟩ := HPX.out (by omega)
    obtain ⟨u, hu, hul⟩ := HPY.out (by omega)
    obtain ⟨R, hR⟩ : ∃ R, R = doP ts s x := ⟨_, rfl⟩
    have HRR := Lib.hid hR
    have HRES : Hid (doP ts s x = R) := Lib.hid hR.symm
    have HCL := Lib.hid (l7Make_any (.slice At ts.length ct) _ _ _ ts s x An cn v u base B W (HT.out.low HB0.out hB) (Nat.le_trans hB HB0.out.size) H1.out hbW OK.out h45 HUN.out hv hvl hu hul h6)
    rw [← hR] at HCL
    clear h1 h2 h3 hR hv hu
    rcases h45 with h4 | h4
    · rw [h4] at p0 HCL
      clear h4
      go_wp2_with (at_builtin; fail)
      refine HCL.out.mono ?_
      rintro e wz ⟨vs9, vc9, vl9, rfl, hs9, hb9⟩
      have HS9 := Lib.hid hs9
      have HB9 := Lib.hid hb9
      obtain ⟨A9a, c9a, rfl, -⟩ := hs9.sl.slice
      obtain ⟨A9b, c9b, rfl, -⟩ := hs9.ce.slice
      obtain ⟨A9c, c9c, rfl, -⟩ := hs9.rd.slice
      have HRz := Lib.hid (HR.out.low HB9.out HR.out.lt)
      have rz0 := HRz.out.cell 0
      have rz1 := HRz.out.cell 1
      have rz2 := HRz.out.cell 2
      simp only [List.getElem?_cons_zero, List.getElem?_cons_succ] at rz0 rz1 rz2
      have fz0 := HRz.out.frozen 0
      have fz1 := HRz.out.frozen 1
      have fz2 := HRz.out.frozen 2
      clear hs9 hb9
      go_wp2_with (at_builtin; fail)
      have HEN := Lib.hid (sp_end HRz.out rfl HS9.out (HB0.out.trans (HB9.out.mono HB0.out.size)) hbr)
      refine bodyPost_ret (res_s1 (p := 6) (u := 7) (ty := 57) rfl _ _ (bx + 1 + 1) 57 _ (0, 0) _ rfl HEN.out.1 Tryz.underlying57 rfl rfl) rfl ?_
      exact ⟨_, _, _, by rw [HRES.out]; rfl, by rw [HRES.out]; exact HEN.out.2.1, HEN.out.2.2⟩
    · rw [h4] at p0 HCL
      clear h4
      go_wp2_with (at_builtin; fail)
      refine HCL.out.mono ?_
      rintro e wz ⟨vs9, vc9, vl9, rfl, hs9, hb9⟩
      have HS9 := Lib.hid hs9
      have HB9 := Lib.hid hb9
      obtain ⟨A9a, c9a, rfl, -⟩ := hs9.sl.slice
      obtain ⟨A9b, c9b, rfl, -⟩ := hs9.ce.slice
      obtain ⟨A9c, c9c, rfl, -⟩ := hs9.rd.slice
      have HRz := Lib.hid (HR.out.low HB9.out HR.out.lt)
      have rz0 := HRz.out.cell 0
      have rz1 := HRz.out.cell 1
      have rz2 := HRz.out.cell 2
      simp only [List.getElem?_cons_zero, List.getElem?_cons_succ] at rz0 rz1 rz2
      have fz0 := HRz.out.frozen 0
      have fz1 := HRz.out.frozen 1
      have fz2 := HRz.out.frozen 2
      clear hs9 hb9
      go_wp2_with (at_builtin; fail)
      have HEN := Lib.hid (sp_end HRz.out rfl HS9.out (HB0.out.trans (HB9.out.mono HB0.out.size)) hbr)
      refine bodyPost_ret (res_s1 (p := 6) (u := 7) (ty := 57) rfl _ _ (bx + 1 + 1) 57 _ (0, 0) _ rfl HEN.out.1 Tryz.underlying57 rfl rfl) rfl ?_
      exact ⟨_, _, _, by rw [HRES.out]; rfl, by rw [HRES.out]; exact HEN.out.2.1, HEN.out.2.2⟩
  by_cases h6' : x.op = 6
  · obtain ⟨v, hv, hvl⟩ := HPX.out (by omega)
    obtain ⟨u, hu, hul⟩ := HPY.out (by omega)
    have hsl_u : u < s.sl.length := by rw [OK.out.ln]; exact hul
    obtain ⟨g1, rfl, hg1, hgl1, u0, u1, u2, u3, -⟩ := H1.out.sl.at_ (show u < s.sl.length by rw [OK.out.ln]; exact hul)
    obtain ⟨pc, hpc⟩ : ∃ pc, pc = (slAt s.sl u).pc := ⟨_, rfl⟩
    obtain ⟨pt, hpt⟩ : ∃ pt, pt = (slAt s.sl u).pt := ⟨_, rfl⟩
    rw [← slAt_get (show u < s.sl.length by rw [OK.out.ln]; exact hul)] at u0 u1 u2 u3
    rw [← hpc] at u2
    rw [← hpt] at u3
    obtain ⟨m, nn, code, hrp⟩ : ∃ m nn code, readP s.ce pc pt = (m, nn, code) := ⟨_, _, _, rfl⟩
    have HRP : Hid (readP s.ce (slAt s.sl x.y.toNat).pc (slAt s.sl x.y.toNat).pt = (m, nn, code)) := Lib.hid (by rw [hu, Int.toNat_natCast, ← hpc, ← hpt]; exact hrp)
    have OKM : Hid (okM m) := Lib.hid (by have := OK.out.ce.read pc pt; rwa [hrp] at this)
    have HNC : Hid (∀ wz : World, Below W.heap.size W wz → Calls Tryz.prog 88 #[.slice Ac s.ce.length cc, .agg #[.int .i64 (pc : Nat), .int .i64 (pt : Nat)]] wz fun e w' => ∃ v, e = .returned (.tuple #[v, .int .i64 nn, .int .i64 code]) ∧ MeS w' base v m ∧ Below wz.heap.size wz w') := Lib.hid fun wz hw => (sReadCell_any _ s.ce pc pt base wz (H1.out.ce.bel hw) OK.out.ce).mono (by
      rw [hrp]
      rintro e w' ⟨v, rfl, k1, k2⟩
      exact ⟨v, rfl, k1.base (Nat.le_trans hbW hw.size), k2⟩)
    have HOP := Lib.hid h6'
    rw [h6'] at p0
    rw [hu] at p2
    have HVE := Lib.hid hv
    clear h1 h2 h3 h45 h6' hv hu hpc hpt hrp
    go_upto_region 16 with (at_builtin; fail)
    refine wp_region_held_drew (S := (fun w' => w'.cell? ⟨bx, 0, none⟩ = some (.slice (some ⟨g1, 0, none⟩) s.sl.length cs) ∧ w'.cell? ⟨bx, 1, none⟩ = some (.slice Ac s.ce.length cc) ∧ w'.cell? ⟨g1, u * 4 + 2, none⟩ = some (.int .i64 (pc : Nat)) ∧ w'.cell? ⟨g1, u * 4 + 3, none⟩ = some (.int .i64 (pt : Nat)) ∧ w'.cell? ⟨bx + 1, 2, none⟩ = some (.int .i64 (u : Nat)) ∧ Below W.heap.size W w')) (by kernel_rfl) ?_ (fun hHeld => ?_)
    · exact ⟨c0, c1, u2, u3, p2, BelD W⟩
    refine wpAnyH_take (i := 0) (oi := ⟨some 77, _, _, _, _, _⟩) (v := ?_) rfl (by kernel_rfl) (by kernel_rfl) (by kernel_rfl) (fun _ _ _ h => h) (Or.inl ⟨by rfl, fun w' hSw => ?_⟩) (by assumption) ?_
    rotate_left
    · (try dsimp only at hSw); go_simp; (try with_reducible rfl)
    (try simp only [Act.put, List.setIfInBounds_toArray, List.set_cons_zero, List.set_cons_succ])
    refine wpAnyH_take (i := 1) (oi := ⟨some 78, _, _, _, _, _⟩) (v := ?_) rfl (by kernel_rfl) (by kernel_rfl) (by kernel_rfl) (fun _ _ _ h => h) (Or.inl ⟨by rfl, fun w' hSw => ?_⟩) (by assumption) ?_
    rotate_left
    · (try dsimp only at hSw); go_simp; (try with_reducible rfl)
    (try simp only [Act.put, List.setIfInBounds_toArray, List.set_cons_zero, List.set_cons_succ])
    refine wpAnyH_take (i := 2) (oi := ⟨some 79, _, _, _, _, _⟩) (v := ?_) rfl (by kernel_rfl) (by kernel_rfl) (by kernel_rfl) (fun _ _ _ h => h) (Or.inl ⟨by rfl, fun w' hSw => ?_⟩) (by assumption) ?_
    rotate_left
    · (try dsimp only at hSw); go_simp; (try with_reducible rfl)
    (try simp only [Act.put, List.setIfInBounds_toArray, List.set_cons_zero, List.set_cons_succ])
    refine wpAnyH_take (i := 3) (oi := ⟨some 80, _, _, _, _, _⟩) (v := ?_) rfl (by kernel_rfl) (by kernel_rfl) (by kernel_rfl) (fun _ _ _ h => h) (Or.inl ⟨by rfl, fun w' hSw => ?_⟩) (by assumption) ?_
    rotate_left
    · (try dsimp only at hSw); go_simp; (try with_reducible rfl)
    (try simp only [Act.put, List.setIfInBounds_toArray, List.set_cons_zero, List.set_cons_succ])
    refine wpAnyH_take (i := 4) (oi := ⟨some 81, _, _, _, _, _⟩) (v := ?_) rfl (by kernel_rfl) (by kernel_rfl) (by kernel_rfl) (fun _ _ _ h => h) (Or.inl ⟨by rfl, fun w' hSw => ?_⟩) (by assumption) ?_
    rotate_left
    · (try dsimp only at hSw); go_simp; (try with_reducible rfl)
    (try simp only [Act.put, List.setIfInBounds_toArray, List.set_cons_zero, List.set_cons_succ])
    refine wpAnyH_take (i := 5) (oi := ⟨some 82, _, _, _, _, _⟩) (v := ?_) rfl (by kernel_rfl) (by kernel_rfl) (by kernel_rfl) (fun _ _ _ h => h) (Or.inl ⟨by rfl, fun w' hSw => ?_⟩) (by assumption) ?_
    rotate_left
    · (try dsimp only at hSw); go_simp; (try with_reducible rfl)
    (try simp only [Act.put, List.setIfInBounds_toArray, List.set_cons_zero, List.set_cons_succ])
    refine wpAnyH_take (i := 6) (oi := ⟨some 83, _, _, _, _, _⟩) (v := ?_) rfl (by kernel_rfl) (by kernel_rfl) (by kernel_rfl) (fun _ _ _ h => h) (Or.inl ⟨by rfl, fun w' hSw => ?_⟩) (by assumption) ?_
    rotate_left
    · (try dsimp only at hSw); go_simp; (try with_reducible rfl)
    (try simp only [Act.put, List.setIfInBounds_toArray, List.set_cons_zero, List.set_cons_succ])
    refine wpAnyH_take (i := 7) (oi := ⟨some 84, _, _, _, _, _⟩) (v := ?_) rfl (by kernel_rfl) (by kernel_rfl) (by kernel_rfl) (fun _ _ _ h => h) (Or.inl ⟨by rfl, fun w' hSw => ?_⟩) (by assumption) ?_
    rotate_left
    · (try dsimp only at hSw); go_simp; (try with_reducible rfl)
    (try simp only [Act.put, List.setIfInBounds_toArray, List.set_cons_zero, List.set_cons_succ])
    refine wpAnyH_take (i := 8) (oi := ⟨some 85, _, _, _, _, _⟩) (v := ?_) rfl (by kernel_rfl) (by kernel_rfl) (by kernel_rfl) (fun _ _ _ h => h) (Or.inl ⟨by rfl, fun w' hSw => ?_⟩) (by assumption) ?_
    rotate_left
    · (try dsimp only at hSw); go_simp; (try with_reducible rfl)
    (try simp only [Act.put, List.setIfInBounds_toArray, List.set_cons_zero, List.set_cons_succ])
    refine wpAnyH_ready (rs := [9]) (by kernel_rfl) (by simp) ?_
    refine AllReadyH.cons (o := ⟨some 86, _, _, _, _, _⟩) rfl (fun K hK => ?_) AllReadyH.nil
    go_simp
    (refine (HNC.out _ (BelD W)).mono ?_)
    (rintro e w5 ⟨v5, rfl, hm5, hb5⟩)
    (have HB5 := Lib.hid ((BelD W).trans hb5))
    (have HM5 := Lib.hid hm5)
    (obtain ⟨A8, c8, rfl, -⟩ := hm5.slice)
    clear hm5 hb5
    go_simp
    refine hK.out _ _ ?_ (fun hHeld => ?_)
    · exact ⟨(HB5.out.cell (p := ⟨bx, 0, none⟩) hxl).trans c0, (HB5.out.cell (p := ⟨bx, 1, none⟩) hxl).trans c1, (HB5.out.cell (p := ⟨g1, u * 4 + 2, none⟩) hgl1).trans u2, (HB5.out.cell (p := ⟨g1, u * 4 + 3, none⟩) hgl1).trans u3, (HB5.out.cell (p := ⟨bx + 1, 2, none⟩) hpl).trans p2, HB5.out⟩
    clear hK K
    (try simp only [Act.put, List.setIfInBounds_toArray, List.set_cons_zero, List.set_cons_succ])
    refine wpAnyH_take (i := 10) (oi := ⟨some 76, _, _, _, _, _⟩) (v := ?_) rfl (by kernel_rfl) (by kernel_rfl) (by kernel_rfl) (fun _ _ _ h => h) (Or.inl ⟨by rfl, fun w' hSw => ?_⟩) (by assumption) ?_
    rotate_left
    · (try dsimp only at hSw); go_simp; (try with_reducible rfl)
    (try simp only [Act.put, List.setIfInBounds_toArray, List.set_cons_zero, List.set_cons_succ])
    refine wpAnyH_take (i := 11) (oi := ⟨some 87, _, _, _, _, _⟩) (v := ?_) rfl (by kernel_rfl) (by kernel_rfl) (by kernel_rfl) (fun _ _ _ h => h) (Or.inl ⟨by rfl, fun w' hSw => ?_⟩) (by assumption) ?_
    rotate_left
    · (try dsimp only at hSw); go_simp; (try with_reducible rfl)
    (try simp only [Act.put, List.setIfInBounds_toArray, List.set_cons_zero, List.set_cons_succ])
    refine wpAnyH_take (i := 12) (oi := ⟨some 88, _, _, _, _, _⟩) (v := ?_) rfl (by kernel_rfl) (by kernel_rfl) (by kernel_rfl) (fun _ _ _ h => h) (Or.inl ⟨by rfl, fun w' hSw => ?_⟩) (by assumption) ?_
    rotate_left
    · (try dsimp only at hSw); go_simp; (try with_reducible rfl)
    (try simp only [Act.put, List.setIfInBounds_toArray, List.set_cons_zero, List.set_cons_succ])
    refine wpAnyH_take (i := 13) (oi := ⟨some 89, _, _, _, _, _⟩) (v := ?_) rfl (by kernel_rfl) (by kernel_rfl) (by kernel_rfl) (fun _ _ _ h => h) (Or.inl ⟨by rfl, fun w' hSw => ?_⟩) (by assumption) ?_
    rotate_left
    · (try dsimp only at hSw); go_simp; (try with_reducible rfl)
    (try simp only [Act.put, List.setIfInBounds_toArray, List.set_cons_zero, List.set_cons_succ])
    refine wpAnyH_take (i := 14) (oi := ⟨some 11, _, _, _, _, _⟩) (v := ?_) rfl (by kernel_rfl) (by kernel_rfl) (by kernel_rfl) (fun _ _ _ h => h) (Or.inl ⟨by rfl, fun w' hSw => ?_⟩) (by assumption) ?_
    rotate_left
    · (try dsimp only at hSw); go_simp; (try with_reducible rfl)
    (try simp only [Act.put, List.setIfInBounds_toArray, List.set_cons_zero, List.set_cons_succ])
    refine wpAnyH_take (i := 15) (oi := ⟨some 12, _, _, _, _, _⟩) (v := ?_) rfl (by kernel_rfl) (by kernel_rfl) (by kernel_rfl) (fun _ _ _ h => h) (Or.inl ⟨by rfl, fun w' hSw => ?_⟩) (by assumption) ?_
    rotate_left
    · (try dsimp only at hSw); go_simp; (try with_reducible rfl)
    (try simp only [Act.put, List.setIfInBounds_toArray, List.set_cons_zero, List.set_cons_succ])
    refine wpAnyH_take (i := 16) (oi := ⟨some 13, _, _, _, _, _⟩) (v := ?_) rfl (by kernel_rfl) (by kernel_rfl) (by kernel_rfl) (fun _ _ _ h => h) (Or.inl ⟨by rfl, fun w' hSw => ?_⟩) (by assumption) ?_
    rotate_left
    · (try dsimp only at hSw); go_simp; (try with_reducible rfl)
    (try simp only [Act.put, List.setIfInBounds_toArray, List.set_cons_zero, List.set_cons_succ])
    refine wpAnyH_done (by kernel_rfl) ?_ _
    have HC5 := Lib.hid (HC.out.low HB5.out hxl)
    have HP5 := Lib.hid (HP.out.low HB5.out hpl)
    have HR5 := Lib.hid (HR.out.low HB5.out hrl)
    have H5 := Lib.hid (H1.out.bel HB5.out)
    have HBW5 := Lib.hid (HB0.out.trans (HB5.out.mono HB0.out.size))
    clear hHeld c0 c1 c2 u0 u1 u2 u3 p0 p1 p2 p3 p4 HNC
    have c1 := HC5.out.cell 1
    have f1 := HC5.out.frozen 1
    simp only [List.getElem?_cons_zero, List.getElem?_cons_succ] at c1
    go_upto_region 18 with (at_builtin; fail)
    have HC6 : Hid (RowB (w5.setCell ⟨bx, 1, none⟩ (.slice A8 m.length c8)) bx 57 [.slice (some ⟨g1, 0, none⟩) s.sl.length cs, .slice A8 m.length c8, .slice Al s.rd.length cl]) := Lib.hid (HC5.out.set_ 1 (.slice A8 m.length c8))
    have HR6 := Lib.hid (HR5.out.ne_ (show bx + 1 + 1 ≠ bx by omega) 1 (.slice A8 m.length c8))
    have HKU := Lib.hid (KpU.s1 HC5.out 1 (.slice A8 m.length c8))
    have HP6 := Lib.hid (HP5.out.kpu HKU.out (by decide) (by decide))
    have HS6 : Hid (SpS (w5.setCell ⟨bx, 1, none⟩ (.slice A8 m.length c8)) base (.slice (some ⟨g1, 0, none⟩) s.sl.length cs) (.slice A8 m.length c8) (.slice Al s.rd.length cl) ⟨s.sl, m, s.rd⟩) := Lib.hid ⟨H5.out.sl.kpu HKU.out, HM5.out.kpu HKU.out, H5.out.rd.kpu HKU.out⟩
    have HB6 := Lib.hid (belSet1 HBW5.out hwx 1 (.slice A8 m.length c8))
    clear c1 f1 HKU
    generalize w5.setCell ⟨bx, 1, none⟩ (.slice A8 m.length c8) = w6 at *
    by_cases hcode : code = 0
    · subst hcode
      obtain ⟨rd', hrd'⟩ : ∃ rd', rd' = s.rd ++ [nn] := ⟨_, rfl⟩
      have HRD := Lib.hid hrd'
      obtain ⟨R, hR⟩ : ∃ R, R = putP ts ⟨s.sl, m, rd'⟩ v ⟨true, nn, 0, 0⟩ := ⟨_, rfl⟩
      have HRR := Lib.hid hR
      have HRES : Hid (doP ts s x = R) := Lib.hid (by rw [doP_6 HUN.out HOP.out HRP.out, HVE.out, Int.toNat_natCast, hR, hrd'])
      have HOK9 : Hid (MsOk ts ⟨s.sl, m, rd'⟩) := Lib.hid ⟨OKM.out, OK.out.ln⟩
      clear hR hrd'
      have HE := Lib.hid (OInts.empty w6 w6.heap.size (Nat.le_refl _))
      have HRA := Lib.hid (HS6.out.rd.bel (bel_a w6 (.cells #[] 3)))
      have hzz : w6.heap.size ≤ (w6.alloc (.cells #[] 3)).heap.size := by simp
      have HC6a := Lib.hid (HC6.out.alloc (.cells #[] 3))
      have d2 := HC6a.out.cell 2
      simp only [List.getElem?_cons_zero, List.getElem?_cons_succ] at d2
      have tok1 : True := trivial
      go_upto_region 21 with (at_builtin; first
        | ((have _t := tok1); (clear _t tok1); go_must (refine wpList_app_is rfl (.tmp 97) (.tmp 99) rfl w6.heap.size _ [] rfl HE.out base _ s.rd rfl HRA.out hzz (by simp; omega) ?_); (intro v' w7 hP' hg' _); (have HB7 := Lib.hid ((bel_a w6 (.cells #[] 3)).trans ((Evo.grown (T := 3) (size := 1) HE.out hg').below hzz))); (rw [List.nil_append] at hP'); (have HP7 := Lib.hid hP'); (have hs7 := HB7.out.size); clear hP' hg')
        | (go_must (refine wpList_push_int rfl (.tmp 100) (.tmp 102) rfl HP7.out hs7 (by omega) nn rfl rfl ?_); (intro v' w8 hP' hE'); (have HB8 := Lib.hid (HB7.out.trans (((Evo.alloc w6.heap.size 3 _ _).trans hE').below hs7))); (rw [← HRD.out] at hP'); (have HP8 := Lib.hid hP'); (have HC8 := Lib.hid (HC6.out.low HB8.out HC6.out.lt)); (have d2 := HC8.out.cell 2); (simp only [List.getElem?_cons_zero, List.getElem?_cons_succ] at d2); (have df2 := HC8.out.frozen 2); (obtain ⟨Ar, cr, rfl, -⟩ := hP'.slice); clear hP' hE'))
      have HC9 : Hid (RowB (w8.setCell ⟨bx, 2, none⟩ (.slice Ar rd'.length cr)) bx 57 [.slice (some ⟨g1, 0, none⟩) s.sl.length cs, .slice A8 m.length c8, .slice Ar rd'.length cr]) := Lib.hid (HC8.out.set_ 2 (.slice Ar rd'.length cr))
      have HKU := Lib.hid (KpU.s1 HC8.out 2 (.slice Ar rd'.length cr))
      have HR9 := Lib.hid ((HR6.out.low HB8.out HR6.out.lt).ne_ (show bx + 1 + 1 ≠ bx by omega) 2 (.slice Ar rd'.length cr))
      have HP9 := Lib.hid ((HP6.out.low HB8.out HP6.out.lt).kpu HKU.out (by decide) (by decide))
      have HS9' := Lib.hid ((HS6.out.bel HB8.out).kpu HKU.out)
      have HQ9 : Hid (SpS (w8.setCell ⟨bx, 2, none⟩ (.slice Ar rd'.length cr)) base (.slice (some ⟨g1, 0, none⟩) s.sl.length cs) (.slice A8 m.length c8) (.slice Ar rd'.length cr) ⟨s.sl, m, rd'⟩) := Lib.hid ⟨HS9'.out.sl, HS9'.out.ce, (HP8.out.kpu HKU.out).baseLe (by have := HB6.out.size; omega)⟩
      have HB9' := Lib.hid (belSet1 (HB6.out.trans (HB8.out.mono HB6.out.size)) hwx 2 (.slice Ar rd'.length cr))
      clear d2 df2 HKU hs7
      generalize w8.setCell ⟨bx, 2, none⟩ (.slice Ar rd'.length cr) = w9 at *
      have c0 := HC9.out.cell 0
      have c1 := HC9.out.cell 1
      have c2 := HC9.out.cell 2
      have p1 := HP9.out.cell 1
      simp only [List.getElem?_cons_zero, List.getElem?_cons_succ] at c0 c1 c2 p1
      rw [HVE.out] at p1
      go_wp2_with (at_builtin; fail)
      refine (l7Put_any _ _ _ _ ts ⟨s.sl, m, rd'⟩ ⟨true, nn, 0, 0⟩ base v B w9 (HT.out.low HB9'.out hB) (Nat.le_trans hB HB9'.out.size) HQ9.out (Nat.le_trans hb HB9'.out.size) HOK9.out hvl h6).mono ?_
      rw [← HRR.out]
      rintro e wz ⟨vs9, vc9, vl9, rfl, hs9, hb9⟩
      have HS9 := Lib.hid hs9
      have HB9 := Lib.hid hb9
      obtain ⟨A9a, c9a, rfl, -⟩ := hs9.sl.slice
      obtain ⟨A9b, c9b, rfl, -⟩ := hs9.ce.slice
      obtain ⟨A9c, c9c, rfl, -⟩ := hs9.rd.slice
      have HRz := Lib.hid (HR9.out.low HB9.out HR9.out.lt)
      have rz0 := HRz.out.cell 0
      have rz1 := HRz.out.cell 1
      have rz2 := HRz.out.cell 2
      simp only [List.getElem?_cons_zero, List.getElem?_cons_succ] at rz0 rz1 rz2
      have fz0 := HRz.out.frozen 0
      have fz1 := HRz.out.frozen 1
      have fz2 := HRz.out.frozen 2
      clear hs9 hb9
      go_wp2_with (at_builtin; fail)
      have HEN := Lib.hid (sp_end HRz.out rfl HS9.out (HB9'.out.trans (HB9.out.mono HB9'.out.size)) hbr)
      refine bodyPost_ret (res_s1 (p := 6) (u := 7) (ty := 57) rfl _ _ (bx + 1 + 1) 57 _ (0, 0) _ rfl HEN.out.1 Tryz.underlying57 rfl rfl) rfl ?_
      exact ⟨_, _, _, by rw [HRES.out]; rfl, by rw [HRES.out]; exact HEN.out.2.1, HEN.out.2.2⟩
    · have HRES : Hid (doP ts s x = (⟨s.sl, m, s.rd⟩, endO code)) := Lib.hid (by rw [doP_6n HUN.out HOP.out HRP.out hcode]; unfold endO; rw [if_neg hcode])
      have qc : (code != 0) = true := by simpa using hcode
      clear hcode
      go_upto_region 19 with (at_builtin; fail)
      have HXf := HC6
      have HRf := HR6
      have HSf := HS6
      have HBf := HB6
      have hbrf := hbr
      have hnef : bx ≠ bx + 1 + 1 := by omega
      have y0 := HXf.out.cell 0
      have y1 := HXf.out.cell 1
      have y2 := HXf.out.cell 2
      simp only [List.getElem?_cons_zero, List.getElem?_cons_succ] at y0 y1 y2
      have rf0 := HRf.out.frozen 0
      have rf1 := HRf.out.frozen 1
      have rf2 := HRf.out.frozen 2
      have r0 := HRf.out.cell 0
      have r1 := HRf.out.cell 1
      have r2 := HRf.out.cell 2
      simp only [List.getElem?_cons_zero, List.getElem?_cons_succ] at r0 r1 r2
      refine wp_region_held_drew (S := (fun w' => w'.cell? ⟨bx, 0, none⟩ = some (.slice (some ⟨g1, 0, none⟩) s.sl.length cs) ∧ w'.cell? ⟨bx, 1, none⟩ = some (.slice A8 m.length c8) ∧ w'.cell? ⟨bx, 2, none⟩ = some (.slice Al s.rd.length cl))) (by kernel_rfl) ?_ (fun hHeld => ?_)
      · exact ⟨y0, y1, y2⟩
      refine wpAnyH_take (i := 0) (oi := ⟨some 94, _, _, _, _, _⟩) (v := ?_) rfl (by kernel_rfl) (by kernel_rfl) (by kernel_rfl) (fun _ _ _ h => h) (Or.inl ⟨by rfl, fun w' hSw => ?_⟩) (by assumption) ?_
      rotate_left
      · (try dsimp only at hSw); go_simp; (try with_reducible rfl)
      (try simp only [Act.put, List.setIfInBounds_toArray, List.set_cons_zero, List.set_cons_succ])
      refine wpAnyH_take (i := 1) (oi := ⟨some 95, _, _, _, _, _⟩) (v := ?_) rfl (by kernel_rfl) (by kernel_rfl) (by kernel_rfl) (fun _ _ _ h => h) (Or.inl ⟨by rfl, fun w' hSw => ?_⟩) (by assumption) ?_
      rotate_left
      · (try dsimp only at hSw); go_simp; (try with_reducible rfl)
      (try simp only [Act.put, List.setIfInBounds_toArray, List.set_cons_zero, List.set_cons_succ])
      refine wpAnyH_ready (rs := [2]) (by kernel_rfl) (by simp) ?_
      refine (AllReadyH.cons (o := ⟨some 96, _, _, _, _, _⟩) rfl (fun K hK => ?_) AllReadyH.nil)
      go_simp
      (refine (l7Code_any code _).mono ?_)
      (rintro e wz ⟨rfl, rfl⟩)
      go_simp
      refine hK.out _ _ ?_ (fun hHeld => ?_)
      · exact ⟨y0, y1, y2⟩
      clear hK K
      (try simp only [Act.put, List.setIfInBounds_toArray, List.set_cons_zero, List.set_cons_succ])
      refine wpAnyH_ready (rs := [3]) (by kernel_rfl) (by simp) ?_
      refine (AllReadyH.cons (o := ⟨none, _, _, _, _, _⟩) rfl (fun K hK => ?_) AllReadyH.nil)
      go_simp
      (have HEN := Lib.hid (sp_end (HRf.out.low (BelD w6) HRf.out.lt) rfl (HSf.out.bel (BelD w6)) (HBf.out.trans ((BelD w6).mono HBf.out.size)) hbrf))
      (have HXE : Hid (RowB (w6.drew.setCells (bx + 1 + 1) 0 [.slice (some ⟨g1, 0, none⟩) s.sl.length cs, .slice A8 m.length c8, .slice Al s.rd.length cl]) bx 57 [.slice (some ⟨g1, 0, none⟩) s.sl.length cs, .slice A8 m.length c8, .slice Al s.rd.length cl]) := Lib.hid ((HXf.out.low (BelD w6) HXf.out.lt).nes hnef 0 _))
      refine hK.out _ _ ?_ (fun hHeld => ?_)
      · exact ⟨HXE.out.cell 0, HXE.out.cell 1, HXE.out.cell 2⟩
      clear hK K
      (try simp only [Act.put, List.setIfInBounds_toArray, List.set_cons_zero, List.set_cons_succ])
      refine wpAnyH_take (i := 4) (oi := ⟨some 7, _, _, _, _, _⟩) (v := ?_) rfl (by kernel_rfl) (by kernel_rfl) (by kernel_rfl) (fun _ _ _ h => h) (Or.inl ⟨by rfl, fun w' hSw => ?_⟩) (by assumption) ?_
      rotate_left
      · (try dsimp only at hSw); go_simp; (try with_reducible rfl)
      (try simp only [Act.put, List.setIfInBounds_toArray, List.set_cons_zero, List.set_cons_succ])
      refine wpAnyH_done (by kernel_rfl) ?_ _
      go_wp2_with (at_builtin; fail)
      refine bodyPost_ret (res_s1 (p := 6) (u := 7) (ty := 57) rfl _ _ (bx + 1 + 1) 57 _ (0, 0) _ rfl HEN.out.1 Tryz.underlying57 rfl rfl) rfl ?_
      exact ⟨_, _, _, by rw [HRES.out]; rfl, by rw [HRES.out]; exact HEN.out.2.1, HEN.out.2.2⟩
  by_cases h7 : x.op = 7
  · obtain ⟨v, hv, hvl⟩ := HPX.out (by omega)
    obtain ⟨u, hu, hul⟩ := HPY.out (by omega)
    have hsl_v : v < s.sl.length := by rw [OK.out.ln]; exact hvl
    obtain ⟨g1, rfl, hg1, hgl1, u0, u1, u2, u3, -⟩ := H1.out.sl.at_ (show v < s.sl.length by rw [OK.out.ln]; exact hvl)
    obtain ⟨pc, hpc⟩ : ∃ pc, pc = (slAt s.sl v).pc := ⟨_, rfl⟩
    obtain ⟨pt, hpt⟩ : ∃ pt, pt = (slAt s.sl v).pt := ⟨_, rfl⟩
    rw [← slAt_get (show v < s.sl.length by rw [OK.out.ln]; exact hvl)] at u0 u1 u2 u3
    rw [← hpc] at u2
    rw [← hpt] at u3
    have hsl_u : u < s.sl.length := by rw [OK.out.ln]; exact hul
    obtain ⟨gu, eu, -, -, -, n1, -, -, -⟩ := H1.out.sl.at_ (show u < s.sl.length by rw [OK.out.ln]; exact hul)
    injection eu with eu
    injection eu with eu _ _
    subst eu
    rw [← slAt_get (show u < s.sl.length by rw [OK.out.ln]; exact hul)] at n1
    obtain ⟨nu, hnu⟩ : ∃ nu, nu = (slAt s.sl u).num := ⟨_, rfl⟩
    rw [← hnu] at n1
    obtain ⟨m, code, hrp⟩ : ∃ m code, writeP s.ce pc pt nu = (m, code) := ⟨_, _, rfl⟩
    have HRES : Hid (doP ts s x = (⟨s.sl, m, s.rd⟩, endO code)) := Lib.hid (doP_7 HUN.out h7 (by rw [hu, hv, Int.toNat_natCast, Int.toNat_natCast, ← hpc, ← hpt, ← hnu]; exact hrp))
    have HNC : Hid (∀ wz : World, Below W.heap.size W wz → Calls Tryz.prog 89 #[.slice Ac s.ce.length cc, .agg #[.int .i64 (pc : Nat), .int .i64 (pt : Nat)], .int .i64 nu] wz fun e w' => ∃ v, e = .returned (.tuple #[v, .int .i64 code]) ∧ MeS w' base v m ∧ Below wz.heap.size wz w') := Lib.hid fun wz hw => (sWriteCell_any _ s.ce pc pt base nu wz (H1.out.ce.bel hw) OK.out.ce).mono (by
      rw [hrp]
      rintro e w' ⟨v, rfl, k1, k2⟩
      exact ⟨v, rfl, k1.base (Nat.le_trans hbW hw.size), k2⟩)
    rw [h7] at p0
    rw [hu] at p2
    rw [hv] at p1
    clear h1 h2 h3 h45 h6' h7 hv hu hpc hpt hrp hnu
    go_upto_region 23 with (at_builtin; fail)
    refine wp_region_held_drew (S := (fun w' => w'.cell? ⟨bx, 0, none⟩ = some (.slice (some ⟨g1, 0, none⟩) s.sl.length cs) ∧ w'.cell? ⟨bx, 1, none⟩ = some (.slice Ac s.ce.length cc) ∧ w'.cell? ⟨g1, v * 4 + 2, none⟩ = some (.int .i64 (pc : Nat)) ∧ w'.cell? ⟨g1, v * 4 + 3, none⟩ = some (.int .i64 (pt : Nat)) ∧ w'.cell? ⟨g1, u * 4 + 1, none⟩ = some (.int .i64 nu) ∧ w'.cell? ⟨bx + 1, 1, none⟩ = some (.int .i64 (v : Nat)) ∧ w'.cell? ⟨bx + 1, 2, none⟩ = some (.int .i64 (u : Nat)) ∧ Below W.heap.size W w')) (by kernel_rfl) ?_ (fun hHeld => ?_)
    · exact ⟨c0, c1, u2, u3, n1, p1, p2, BelD W⟩
    refine wpAnyH_take (i := 0) (oi := ⟨some 117, _, _, _, _, _⟩) (v := ?_) rfl (by kernel_rfl) (by kernel_rfl) (by kernel_rfl) (fun _ _ _ h => h) (Or.inl ⟨by rfl, fun w' hSw => ?_⟩) (by assumption) ?_
    rotate_left
    · (try dsimp only at hSw); go_simp; (try with_reducible rfl)
    (try simp only [Act.put, List.setIfInBounds_toArray, List.set_cons_zero, List.set_cons_succ])
    refine wpAnyH_take (i := 1) (oi := ⟨some 118, _, _, _, _, _⟩) (v := ?_) rfl (by kernel_rfl) (by kernel_rfl) (by kernel_rfl) (fun _ _ _ h => h) (Or.inl ⟨by rfl, fun w' hSw => ?_⟩) (by assumption) ?_
    rotate_left
    · (try dsimp only at hSw); go_simp; (try with_reducible rfl)
    (try simp only [Act.put, List.setIfInBounds_toArray, List.set_cons_zero, List.set_cons_succ])
    refine wpAnyH_take (i := 2) (oi := ⟨some 119, _, _, _, _, _⟩) (v := ?_) rfl (by kernel_rfl) (by kernel_rfl) (by kernel_rfl) (fun _ _ _ h => h) (Or.inl ⟨by rfl, fun w' hSw => ?_⟩) (by assumption) ?_
    rotate_left
    · (try dsimp only at hSw); go_simp; (try with_reducible rfl)
    (try simp only [Act.put, List.setIfInBounds_toArray, List.set_cons_zero, List.set_cons_succ])
    refine wpAnyH_take (i := 3) (oi := ⟨some 120, _, _, _, _, _⟩) (v := ?_) rfl (by kernel_rfl) (by kernel_rfl) (by kernel_rfl) (fun _ _ _ h => h) (Or.inl ⟨by rfl, fun w' hSw => ?_⟩) (by assumption) ?_
    rotate_left
    · (try dsimp only at hSw); go_simp; (try with_reducible rfl)
    (try simp only [Act.put, List.setIfInBounds_toArray, List.set_cons_zero, List.set_cons_succ])
    refine wpAnyH_take (i := 4) (oi := ⟨some 121, _, _, _, _, _⟩) (v := ?_) rfl (by kernel_rfl) (by kernel_rfl) (by kernel_rfl) (fun _ _ _ h => h) (Or.inl ⟨by rfl, fun w' hSw => ?_⟩) (by assumption) ?_
    rotate_left
    · (try dsimp only at hSw); go_simp; (try with_reducible rfl)
    (try simp only [Act.put, List.setIfInBounds_toArray, List.set_cons_zero, List.set_cons_succ])
    refine wpAnyH_take (i := 5) (oi := ⟨some 122, _, _, _, _, _⟩) (v := ?_) rfl (by kernel_rfl) (by kernel_rfl) (by kernel_rfl) (fun _ _ _ h => h) (Or.inl ⟨by rfl, fun w' hSw => ?_⟩) (by assumption) ?_
    rotate_left
    · (try dsimp only at hSw); go_simp; (try with_reducible rfl)
    (try simp only [Act.put, List.setIfInBounds_toArray, List.set_cons_zero, List.set_cons_succ])
    refine wpAnyH_take (i := 6) (oi := ⟨some 123, _, _, _, _, _⟩) (v := ?_) rfl (by kernel_rfl) (by kernel_rfl) (by kernel_rfl) (fun _ _ _ h => h) (Or.inl ⟨by rfl, fun w' hSw => ?_⟩) (by assumption) ?_
    rotate_left
    · (try dsimp only at hSw); go_simp; (try with_reducible rfl)
    (try simp only [Act.put, List.setIfInBounds_toArray, List.set_cons_zero, List.set_cons_succ])
    refine wpAnyH_take (i := 7) (oi := ⟨some 124, _, _, _, _, _⟩) (v := ?_) rfl (by kernel_rfl) (by kernel_rfl) (by kernel_rfl) (fun _ _ _ h => h) (Or.inl ⟨by rfl, fun w' hSw => ?_⟩) (by assumption) ?_
    rotate_left
    · (try dsimp only at hSw); go_simp; (try with_reducible rfl)
    (try simp only [Act.put, List.setIfInBounds_toArray, List.set_cons_zero, List.set_cons_succ])
    refine wpAnyH_take (i := 8) (oi := ⟨some 125, _, _, _, _, _⟩) (v := ?_) rfl (by kernel_rfl) (by kernel_rfl) (by kernel_rfl) (fun _ _ _ h => h) (Or.inl ⟨by rfl, fun w' hSw => ?_⟩) (by assumption) ?_
    rotate_left
    · (try dsimp only at hSw); go_simp; (try with_reducible rfl)
    (try simp only [Act.put, List.setIfInBounds_toArray, List.set_cons_zero, List.set_cons_succ])
    refine wpAnyH_take (i := 9) (oi := ⟨some 126, _, _, _, _, _⟩) (v := ?_) rfl (by kernel_rfl) (by kernel_rfl) (by kernel_rfl) (fun _ _ _ h => h) (Or.inl ⟨by rfl, fun w' hSw => ?_⟩) (by assumption) ?_
    rotate_left
    · (try dsimp only at hSw); go_simp; (try with_reducible rfl)
    (try simp only [Act.put, List.setIfInBounds_toArray, List.set_cons_zero, List.set_cons_succ])
    refine wpAnyH_take (i := 10) (oi := ⟨some 127, _, _, _, _, _⟩) (v := ?_) rfl (by kernel_rfl) (by kernel_rfl) (by kernel_rfl) (fun _ _ _ h => h) (Or.inl ⟨by rfl, fun w' hSw => ?_⟩) (by assumption) ?_
    rotate_left
    · (try dsimp only at hSw); go_simp; (try with_reducible rfl)
    (try simp only [Act.put, List.setIfInBounds_toArray, List.set_cons_zero, List.set_cons_succ])
    refine wpAnyH_take (i := 11) (oi := ⟨some 128, _, _, _, _, _⟩) (v := ?_) rfl (by kernel_rfl) (by kernel_rfl) (by kernel_rfl) (fun _ _ _ h => h) (Or.inl ⟨by rfl, fun w' hSw => ?_⟩) (by assumption) ?_
    rotate_left
    · (try dsimp only at hSw); go_simp; (try with_reducible rfl)
    (try simp only [Act.put, List.setIfInBounds_toArray, List.set_cons_zero, List.set_cons_succ])
    refine wpAnyH_take (i := 12) (oi := ⟨some 129, _, _, _, _, _⟩) (v := ?_) rfl (by kernel_rfl) (by kernel_rfl) (by kernel_rfl) (fun _ _ _ h => h) (Or.inl ⟨by rfl, fun w' hSw => ?_⟩) (by assumption) ?_
    rotate_left
    · (try dsimp only at hSw); go_simp; (try with_reducible rfl)
    (try simp only [Act.put, List.setIfInBounds_toArray, List.set_cons_zero, List.set_cons_succ])
    refine wpAnyH_take (i := 13) (oi := ⟨some 130, _, _, _, _, _⟩) (v := ?_) rfl (by kernel_rfl) (by kernel_rfl) (by kernel_rfl) (fun _ _ _ h => h) (Or.inl ⟨by rfl, fun w' hSw => ?_⟩) (by assumption) ?_
    rotate_left
    · (try dsimp only at hSw); go_simp; (try with_reducible rfl)
    (try simp only [Act.put, List.setIfInBounds_toArray, List.set_cons_zero, List.set_cons_succ])
    refine wpAnyH_take (i := 14) (oi := ⟨some 131, _, _, _, _, _⟩) (v := ?_) rfl (by kernel_rfl) (by kernel_rfl) (by kernel_rfl) (fun _ _ _ h => h) (Or.inl ⟨by rfl, fun w' hSw => ?_⟩) (by assumption) ?_
    rotate_left
    · (try dsimp only at hSw); go_simp; (try with_reducible rfl)
    (try simp only [Act.put, List.setIfInBounds_toArray, List.set_cons_zero, List.set_cons_succ])
    refine wpAnyH_take (i := 15) (oi := ⟨some 132, _, _, _, _, _⟩) (v := ?_) rfl (by kernel_rfl) (by kernel_rfl) (by kernel_rfl) (fun _ _ _ h => h) (Or.inl ⟨by rfl, fun w' hSw => ?_⟩) (by assumption) ?_
    rotate_left
    · (try dsimp only at hSw); go_simp; (try with_reducible rfl)
    (try simp only [Act.put, List.setIfInBounds_toArray, List.set_cons_zero, List.set_cons_succ])
    refine wpAnyH_ready (rs := [16]) (by kernel_rfl) (by simp) ?_
    refine AllReadyH.cons (o := ⟨some 133, _, _, _, _, _⟩) rfl (fun K hK => ?_) AllReadyH.nil
    go_simp
    (refine (HNC.out _ (BelD W)).mono ?_)
    (rintro e w5 ⟨v5, rfl, hm5, hb5⟩)
    (have HB5 := Lib.hid ((BelD W).trans hb5))
    (have HM5 := Lib.hid hm5)
    (obtain ⟨A8, c8, rfl, -⟩ := hm5.slice)
    clear hm5 hb5
    go_simp
    refine hK.out _ _ ?_ (fun hHeld => ?_)
    · exact ⟨(HB5.out.cell (p := ⟨bx, 0, none⟩) hxl).trans c0, (HB5.out.cell (p := ⟨bx, 1, none⟩) hxl).trans c1, (HB5.out.cell (p := ⟨g1, v * 4 + 2, none⟩) hgl1).trans u2, (HB5.out.cell (p := ⟨g1, v * 4 + 3, none⟩) hgl1).trans u3, (HB5.out.cell (p := ⟨g1, u * 4 + 1, none⟩) hgl1).trans n1, (HB5.out.cell (p := ⟨bx + 1, 1, none⟩) hpl).trans p1, (HB5.out.cell (p := ⟨bx + 1, 2, none⟩) hpl).trans p2, HB5.out⟩
    clear hK K
    (try simp only [Act.put, List.setIfInBounds_toArray, List.set_cons_zero, List.set_cons_succ])
    refine wpAnyH_take (i := 17) (oi := ⟨some 116, _, _, _, _, _⟩) (v := ?_) rfl (by kernel_rfl) (by kernel_rfl) (by kernel_rfl) (fun _ _ _ h => h) (Or.inl ⟨by rfl, fun w' hSw => ?_⟩) (by assumption) ?_
    rotate_left
    · (try dsimp only at hSw); go_simp; (try with_reducible rfl)
    (try simp only [Act.put, List.setIfInBounds_toArray, List.set_cons_zero, List.set_cons_succ])
    refine wpAnyH_take (i := 18) (oi := ⟨some 134, _, _, _, _, _⟩) (v := ?_) rfl (by kernel_rfl) (by kernel_rfl) (by kernel_rfl) (fun _ _ _ h => h) (Or.inl ⟨by rfl, fun w' hSw => ?_⟩) (by assumption) ?_
    rotate_left
    · (try dsimp only at hSw); go_simp; (try with_reducible rfl)
    (try simp only [Act.put, List.setIfInBounds_toArray, List.set_cons_zero, List.set_cons_succ])
    refine wpAnyH_take (i := 19) (oi := ⟨some 135, _, _, _, _, _⟩) (v := ?_) rfl (by kernel_rfl) (by kernel_rfl) (by kernel_rfl) (fun _ _ _ h => h) (Or.inl ⟨by rfl, fun w' hSw => ?_⟩) (by assumption) ?_
    rotate_left
    · (try dsimp only at hSw); go_simp; (try with_reducible rfl)
    (try simp only [Act.put, List.setIfInBounds_toArray, List.set_cons_zero, List.set_cons_succ])
    refine wpAnyH_take (i := 20) (oi := ⟨some 14, _, _, _, _, _⟩) (v := ?_) rfl (by kernel_rfl) (by kernel_rfl) (by kernel_rfl) (fun _ _ _ h => h) (Or.inl ⟨by rfl, fun w' hSw => ?_⟩) (by assumption) ?_
    rotate_left
    · (try dsimp only at hSw); go_simp; (try with_reducible rfl)
    (try simp only [Act.put, List.setIfInBounds_toArray, List.set_cons_zero, List.set_cons_succ])
    refine wpAnyH_take (i := 21) (oi := ⟨some 15, _, _, _, _, _⟩) (v := ?_) rfl (by kernel_rfl) (by kernel_rfl) (by kernel_rfl) (fun _ _ _ h => h) (Or.inl ⟨by rfl, fun w' hSw => ?_⟩) (by assumption) ?_
    rotate_left
    · (try dsimp only at hSw); go_simp; (try with_reducible rfl)
    (try simp only [Act.put, List.setIfInBounds_toArray, List.set_cons_zero, List.set_cons_succ])
    refine wpAnyH_done (by kernel_rfl) ?_ _
    have HC5 := Lib.hid (HC.out.low HB5.out hxl)
    have HP5 := Lib.hid (HP.out.low HB5.out hpl)
    have HR5 := Lib.hid (HR.out.low HB5.out hrl)
    have H5 := Lib.hid (H1.out.bel HB5.out)
    have HBW5 := Lib.hid (HB0.out.trans (HB5.out.mono HB0.out.size))
    clear hHeld c0 c1 c2 u0 u1 u2 u3 n1 p0 p1 p2 p3 p4 HNC
    have c1 := HC5.out.cell 1
    have f1 := HC5.out.frozen 1
    simp only [List.getElem?_cons_zero, List.getElem?_cons_succ] at c1
    go_upto_region 25 with (at_builtin; fail)
    have HC6 : Hid (RowB (w5.setCell ⟨bx, 1, none⟩ (.slice A8 m.length c8)) bx 57 [.slice (some ⟨g1, 0, none⟩) s.sl.length cs, .slice A8 m.length c8, .slice Al s.rd.length cl]) := Lib.hid (HC5.out.set_ 1 (.slice A8 m.length c8))
    have HR6 := Lib.hid (HR5.out.ne_ (show bx + 1 + 1 ≠ bx by omega) 1 (.slice A8 m.length c8))
    have HKU := Lib.hid (KpU.s1 HC5.out 1 (.slice A8 m.length c8))
    have HP6 := Lib.hid (HP5.out.kpu HKU.out (by decide) (by decide))
    have HS6 : Hid (SpS (w5.setCell ⟨bx, 1, none⟩ (.slice A8 m.length c8)) base (.slice (some ⟨g1, 0, none⟩) s.sl.length cs) (.slice A8 m.length c8) (.slice Al s.rd.length cl) ⟨s.sl, m, s.rd⟩) := Lib.hid ⟨H5.out.sl.kpu HKU.out, HM5.out.kpu HKU.out, H5.out.rd.kpu HKU.out⟩
    have HB6 := Lib.hid (belSet1 HBW5.out hwx 1 (.slice A8 m.length c8))
    clear c1 f1 HKU
    generalize w5.setCell ⟨bx, 1, none⟩ (.slice A8 m.length c8) = w6 at *
    have HXf := HC6
    have HRf := HR6
    have HSf := HS6
    have HBf := HB6
    have hbrf := hbr
    have hnef : bx ≠ bx + 1 + 1 := by omega
    have y0 := HXf.out.cell 0
    have y1 := HXf.out.cell 1
    have y2 := HXf.out.cell 2
    simp only [List.getElem?_cons_zero, List.getElem?_cons_succ] at y0 y1 y2
    have rf0 := HRf.out.frozen 0
    have rf1 := HRf.out.frozen 1
    have rf2 := HRf.out.frozen 2
    have r0 := HRf.out.cell 0
    have r1 := HRf.out.cell 1
    have r2 := HRf.out.cell 2
    simp only [List.getElem?_cons_zero, List.getElem?_cons_succ] at r0 r1 r2
    refine wp_region_held_drew (S := (fun w' => w'.cell? ⟨bx, 0, none⟩ = some (.slice (some ⟨g1, 0, none⟩) s.sl.length cs) ∧ w'.cell? ⟨bx, 1, none⟩ = some (.slice A8 m.length c8) ∧ w'.cell? ⟨bx, 2, none⟩ = some (.slice Al s.rd.length cl))) (by kernel_rfl) ?_ (fun hHeld => ?_)
    · exact ⟨y0, y1, y2⟩
    refine wpAnyH_take (i := 0) (oi := ⟨some 138, _, _, _, _, _⟩) (v := ?_) rfl (by kernel_rfl) (by kernel_rfl) (by kernel_rfl) (fun _ _ _ h => h) (Or.inl ⟨by rfl, fun w' hSw => ?_⟩) (by assumption) ?_
    rotate_left
    · (try dsimp only at hSw); go_simp; (try with_reducible rfl)
    (try simp only [Act.put, List.setIfInBounds_toArray, List.set_cons_zero, List.set_cons_succ])
    refine wpAnyH_take (i := 1) (oi := ⟨some 139, _, _, _, _, _⟩) (v := ?_) rfl (by kernel_rfl) (by kernel_rfl) (by kernel_rfl) (fun _ _ _ h => h) (Or.inl ⟨by rfl, fun w' hSw => ?_⟩) (by assumption) ?_
    rotate_left
    · (try dsimp only at hSw); go_simp; (try with_reducible rfl)
    (try simp only [Act.put, List.setIfInBounds_toArray, List.set_cons_zero, List.set_cons_succ])
    refine wpAnyH_ready (rs := [2]) (by kernel_rfl) (by simp) ?_
    refine (AllReadyH.cons (o := ⟨some 140, _, _, _, _, _⟩) rfl (fun K hK => ?_) AllReadyH.nil)
    go_simp
    (refine (l7Code_any code _).mono ?_)
    (rintro e wz ⟨rfl, rfl⟩)
    go_simp
    refine hK.out _ _ ?_ (fun hHeld => ?_)
    · exact ⟨y0, y1, y2⟩
    clear hK K
    (try simp only [Act.put, List.setIfInBounds_toArray, List.set_cons_zero, List.set_cons_succ])
    refine wpAnyH_ready (rs := [3]) (by kernel_rfl) (by simp) ?_
    refine (AllReadyH.cons (o := ⟨none, _, _, _, _, _⟩) rfl (fun K hK => ?_) AllReadyH.nil)
    go_simp
    (have HEN := Lib.hid (sp_end (HRf.out.low (BelD w6) HRf.out.lt) rfl (HSf.out.bel (BelD w6)) (HBf.out.trans ((BelD w6).mono HBf.out.size)) hbrf))
    (have HXE : Hid (RowB (w6.drew.setCells (bx + 1 + 1) 0 [.slice (some ⟨g1, 0, none⟩) s.sl.length cs, .slice A8 m.length c8, .slice Al s.rd.length cl]) bx 57 [.slice (some ⟨g1, 0, none⟩) s.sl.length cs, .slice A8 m.length c8, .slice Al s.rd.length cl]) := Lib.hid ((HXf.out.low (BelD w6) HXf.out.lt).nes hnef 0 _))
    refine hK.out _ _ ?_ (fun hHeld => ?_)
    · exact ⟨HXE.out.cell 0, HXE.out.cell 1, HXE.out.cell 2⟩
    clear hK K
    (try simp only [Act.put, List.setIfInBounds_toArray, List.set_cons_zero, List.set_cons_succ])
    refine wpAnyH_take (i := 4) (oi := ⟨some 7, _, _, _, _, _⟩) (v := ?_) rfl (by kernel_rfl) (by kernel_rfl) (by kernel_rfl) (fun _ _ _ h => h) (Or.inl ⟨by rfl, fun w' hSw => ?_⟩) (by assumption) ?_
    rotate_left
    · (try dsimp only at hSw); go_simp; (try with_reducible rfl)
    (try simp only [Act.put, List.setIfInBounds_toArray, List.set_cons_zero, List.set_cons_succ])
    refine wpAnyH_done (by kernel_rfl) ?_ _
    go_wp2_with (at_builtin; fail)
    refine bodyPost_ret (res_s1 (p := 6) (u := 7) (ty := 57) rfl _ _ (bx + 1 + 1) 57 _ (0, 0) _ rfl HEN.out.1 Tryz.underlying57 rfl rfl) rfl ?_
    exact ⟨_, _, _, by rw [HRES.out]; rfl, by rw [HRES.out]; exact HEN.out.2.1, HEN.out.2.2⟩
  by_cases h8 : x.op = 8
  · obtain ⟨v, hv, hvl⟩ := HPX.out (by omega)
    have hsl_v : v < s.sl.length := by rw [OK.out.ln]; exact hvl
    obtain ⟨g1, rfl, hg1, hgl1, u0, u1, u2, u3, -⟩ := H1.out.sl.at_ (show v < s.sl.length by rw [OK.out.ln]; exact hvl)
    obtain ⟨pc, hpc⟩ : ∃ pc, pc = (slAt s.sl v).pc := ⟨_, rfl⟩
    obtain ⟨pt, hpt⟩ : ∃ pt, pt = (slAt s.sl v).pt := ⟨_, rfl⟩
    rw [← slAt_get (show v < s.sl.length by rw [OK.out.ln]; exact hvl)] at u0 u1 u2 u3
    rw [← hpc] at u2
    rw [← hpt] at u3
    obtain ⟨m, code, hrp⟩ : ∃ m code, freeP s.ce pc pt = (m, code) := ⟨_, _, rfl⟩
    have HRES : Hid (doP ts s x = (⟨s.sl.set v slD, m, s.rd⟩, endO code)) := Lib.hid (by rw [doP_8 HUN.out h8 (m := m) (code := code) (by rw [hv, Int.toNat_natCast, ← hpc, ← hpt]; exact hrp), hv, Int.toNat_natCast])
    have HNC : Hid (∀ wz : World, Below W.heap.size W wz → Calls Tryz.prog 81 #[.slice Ac s.ce.length cc, .agg #[.int .i64 (pc : Nat), .int .i64 (pt : Nat)]] wz fun e w' => ∃ v, e = .returned (.tuple #[v, .int .i64 code]) ∧ MeS w' base v m ∧ Below wz.heap.size wz w') := Lib.hid fun wz hw => (sFreeCell_any _ s.ce pc pt base wz (H1.out.ce.bel hw) OK.out.ce).mono (by
      rw [hrp]
      rintro e w' ⟨v, rfl, k1, k2⟩
      exact ⟨v, rfl, k1.base (Nat.le_trans hbW hw.size), k2⟩)
    rw [h8] at p0
    rw [hv] at p1
    have HVE := Lib.hid hv
    clear h1 h2 h3 h45 h6' h7 h8 hv hpc hpt hrp
    go_upto_region 27 with (at_builtin; fail)
    refine wp_region_held_drew (S := (fun w' => w'.cell? ⟨bx, 0, none⟩ = some (.slice (some ⟨g1, 0, none⟩) s.sl.length cs) ∧ w'.cell? ⟨bx, 1, none⟩ = some (.slice Ac s.ce.length cc) ∧ w'.cell? ⟨g1, v * 4 + 2, none⟩ = some (.int .i64 (pc : Nat)) ∧ w'.cell? ⟨g1, v * 4 + 3, none⟩ = some (.int .i64 (pt : Nat)) ∧ w'.cell? ⟨bx + 1, 1, none⟩ = some (.int .i64 (v : Nat)) ∧ Below W.heap.size W w')) (by kernel_rfl) ?_ (fun hHeld => ?_)
    · exact ⟨c0, c1, u2, u3, p1, BelD W⟩
    refine wpAnyH_take (i := 0) (oi := ⟨some 144, _, _, _, _, _⟩) (v := ?_) rfl (by kernel_rfl) (by kernel_rfl) (by kernel_rfl) (fun _ _ _ h => h) (Or.inl ⟨by rfl, fun w' hSw => ?_⟩) (by assumption) ?_
    rotate_left
    · (try dsimp only at hSw); go_simp; (try with_reducible rfl)
    (try simp only [Act.put, List.setIfInBounds_toArray, List.set_cons_zero, List.set_cons_succ])
    refine wpAnyH_take (i := 1) (oi := ⟨some 145, _, _, _, _, _⟩) (v := ?_) rfl (by kernel_rfl) (by kernel_rfl) (by kernel_rfl) (fun _ _ _ h => h) (Or.inl ⟨by rfl, fun w' hSw => ?_⟩) (by assumption) ?_
    rotate_left
    · (try dsimp only at hSw); go_simp; (try with_reducible rfl)
    (try simp only [Act.put, List.setIfInBounds_toArray, List.set_cons_zero, List.set_cons_succ])
    refine wpAnyH_take (i := 2) (oi := ⟨some 146, _, _, _, _, _⟩) (v := ?_) rfl (by kernel_rfl) (by kernel_rfl) (by kernel_rfl) (fun _ _ _ h => h) (Or.inl ⟨by rfl, fun w' hSw => ?_⟩) (by assumption) ?_
    rotate_left
    · (try dsimp only at hSw); go_simp; (try with_reducible rfl)
    (try simp only [Act.put, List.setIfInBounds_toArray, List.set_cons_zero, List.set_cons_succ])
    refine wpAnyH_take (i := 3) (oi := ⟨some 147, _, _, _, _, _⟩) (v := ?_) rfl (by kernel_rfl) (by kernel_rfl) (by kernel_rfl) (fun _ _ _ h => h) (Or.inl ⟨by rfl, fun w' hSw => ?_⟩) (by assumption) ?_
    rotate_left
    · (try dsimp only at hSw); go_simp; (try with_reducible rfl)
    (try simp only [Act.put, List.setIfInBounds_toArray, List.set_cons_zero, List.set_cons_succ])
    refine wpAnyH_take (i := 4) (oi := ⟨some 148, _, _, _, _, _⟩) (v := ?_) rfl (by kernel_rfl) (by kernel_rfl) (by kernel_rfl) (fun _ _ _ h => h) (Or.inl ⟨by rfl, fun w' hSw => ?_⟩) (by assumption) ?_
    rotate_left
    · (try dsimp only at hSw); go_simp; (try with_reducible rfl)
    (try simp only [Act.put, List.setIfInBounds_toArray, List.set_cons_zero, List.set_cons_succ])
    refine wpAnyH_take (i := 5) (oi := ⟨some 149, _, _, _, _, _⟩) (v := ?_) rfl (by kernel_rfl) (by kernel_rfl) (by kernel_rfl) (fun _ _ _ h => h) (Or.inl ⟨by rfl, fun w' hSw => ?_⟩) (by assumption) ?_
    rotate_left
    · (try dsimp only at hSw); go_simp; (try with_reducible rfl)
    (try simp only [Act.put, List.setIfInBounds_toArray, List.set_cons_zero, List.set_cons_succ])
    refine wpAnyH_take (i := 6) (oi := ⟨some 150, _, _, _, _, _⟩) (v := ?_) rfl (by kernel_rfl) (by kernel_rfl) (by kernel_rfl) (fun _ _ _ h => h) (Or.inl ⟨by rfl, fun w' hSw => ?_⟩) (by assumption) ?_
    rotate_left
    · (try dsimp only at hSw); go_simp; (try with_reducible rfl)
    (try simp only [Act.put, List.setIfInBounds_toArray, List.set_cons_zero, List.set_cons_succ])
    refine wpAnyH_take (i := 7) (oi := ⟨some 151, _, _, _, _, _⟩) (v := ?_) rfl (by kernel_rfl) (by kernel_rfl) (by kernel_rfl) (fun _ _ _ h => h) (Or.inl ⟨by rfl, fun w' hSw => ?_⟩) (by assumption) ?_
    rotate_left
    · (try dsimp only at hSw); go_simp; (try with_reducible rfl)
    (try simp only [Act.put, List.setIfInBounds_toArray, List.set_cons_zero, List.set_cons_succ])
    refine wpAnyH_take (i := 8) (oi := ⟨some 152, _, _, _, _, _⟩) (v := ?_) rfl (by kernel_rfl) (by kernel_rfl) (by kernel_rfl) (fun _ _ _ h => h) (Or.inl ⟨by rfl, fun w' hSw => ?_⟩) (by assumption) ?_
    rotate_left
    · (try dsimp only at hSw); go_simp; (try with_reducible rfl)
    (try simp only [Act.put, List.setIfInBounds_toArray, List.set_cons_zero, List.set_cons_succ])
    refine wpAnyH_ready (rs := [9]) (by kernel_rfl) (by simp) ?_
    refine AllReadyH.cons (o := ⟨some 153, _, _, _, _, _⟩) rfl (fun K hK => ?_) AllReadyH.nil
    go_simp
    (refine (HNC.out _ (BelD W)).mono ?_)
    (rintro e w5 ⟨v5, rfl, hm5, hb5⟩)
    (have HB5 := Lib.hid ((BelD W).trans hb5))
    (have HM5 := Lib.hid hm5)
    (obtain ⟨A8, c8, rfl, -⟩ := hm5.slice)
    clear hm5 hb5
    go_simp
    refine hK.out _ _ ?_ (fun hHeld => ?_)
    · exact ⟨(HB5.out.cell (p := ⟨bx, 0, none⟩) hxl).trans c0, (HB5.out.cell (p := ⟨bx, 1, none⟩) hxl).trans c1, (HB5.out.cell (p := ⟨g1, v * 4 + 2, none⟩) hgl1).trans u2, (HB5.out.cell (p := ⟨g1, v * 4 + 3, none⟩) hgl1).trans u3, (HB5.out.cell (p := ⟨bx + 1, 1, none⟩) hpl).trans p1, HB5.out⟩
    clear hK K
    (try simp only [Act.put, List.setIfInBounds_toArray, List.set_cons_zero, List.set_cons_succ])
    refine wpAnyH_take (i := 10) (oi := ⟨some 143, _, _, _, _, _⟩) (v := ?_) rfl (by kernel_rfl) (by kernel_rfl) (by kernel_rfl) (fun _ _ _ h => h) (Or.inl ⟨by rfl, fun w' hSw => ?_⟩) (by assumption) ?_
    rotate_left
    · (try dsimp only at hSw); go_simp; (try with_reducible rfl)
    (try simp only [Act.put, List.setIfInBounds_toArray, List.set_cons_zero, List.set_cons_succ])
    refine wpAnyH_take (i := 11) (oi := ⟨some 154, _, _, _, _, _⟩) (v := ?_) rfl (by kernel_rfl) (by kernel_rfl) (by kernel_rfl) (fun _ _ _ h => h) (Or.inl ⟨by rfl, fun w' hSw => ?_⟩) (by assumption) ?_
    rotate_left
    · (try dsimp only at hSw); go_simp; (try with_reducible rfl)
    (try simp only [Act.put, List.setIfInBounds_toArray, List.set_cons_zero, List.set_cons_succ])
    refine wpAnyH_take (i := 12) (oi := ⟨some 155, _, _, _, _, _⟩) (v := ?_) rfl (by kernel_rfl) (by kernel_rfl) (by kernel_rfl) (fun _ _ _ h => h) (Or.inl ⟨by rfl, fun w' hSw => ?_⟩) (by assumption) ?_
    rotate_left
    · (try dsimp only at hSw); go_simp; (try with_reducible rfl)
    (try simp only [Act.put, List.setIfInBounds_toArray, List.set_cons_zero, List.set_cons_succ])
    refine wpAnyH_take (i := 13) (oi := ⟨some 16, _, _, _, _, _⟩) (v := ?_) rfl (by kernel_rfl) (by kernel_rfl) (by kernel_rfl) (fun _ _ _ h => h) (Or.inl ⟨by rfl, fun w' hSw => ?_⟩) (by assumption) ?_
    rotate_left
    · (try dsimp only at hSw); go_simp; (try with_reducible rfl)
    (try simp only [Act.put, List.setIfInBounds_toArray, List.set_cons_zero, List.set_cons_succ])
    refine wpAnyH_take (i := 14) (oi := ⟨some 17, _, _, _, _, _⟩) (v := ?_) rfl (by kernel_rfl) (by kernel_rfl) (by kernel_rfl) (fun _ _ _ h => h) (Or.inl ⟨by rfl, fun w' hSw => ?_⟩) (by assumption) ?_
    rotate_left
    · (try dsimp only at hSw); go_simp; (try with_reducible rfl)
    (try simp only [Act.put, List.setIfInBounds_toArray, List.set_cons_zero, List.set_cons_succ])
    refine wpAnyH_done (by kernel_rfl) ?_ _
    have HC5 := Lib.hid (HC.out.low HB5.out hxl)
    have HP5 := Lib.hid (HP.out.low HB5.out hpl)
    have HR5 := Lib.hid (HR.out.low HB5.out hrl)
    have H5 := Lib.hid (H1.out.bel HB5.out)
    have HBW5 := Lib.hid (HB0.out.trans (HB5.out.mono HB0.out.size))
    clear hHeld c0 c1 c2 u0 u1 u2 u3 p0 p1 p2 p3 p4 HNC
    have c1 := HC5.out.cell 1
    have f1 := HC5.out.frozen 1
    simp only [List.getElem?_cons_zero, List.getElem?_cons_succ] at c1
    go_upto_region 29 with (at_builtin; fail)
    have HC6 : Hid (RowB (w5.setCell ⟨bx, 1, none⟩ (.slice A8 m.length c8)) bx 57 [.slice (some ⟨g1, 0, none⟩) s.sl.length cs, .slice A8 m.length c8, .slice Al s.rd.length cl]) := Lib.hid (HC5.out.set_ 1 (.slice A8 m.length c8))
    have HR6 := Lib.hid (HR5.out.ne_ (show bx + 1 + 1 ≠ bx by omega) 1 (.slice A8 m.length c8))
    have HKU := Lib.hid (KpU.s1 HC5.out 1 (.slice A8 m.length c8))
    have HP6 := Lib.hid (HP5.out.kpu HKU.out (by decide) (by decide))
    have HS6 : Hid (SpS (w5.setCell ⟨bx, 1, none⟩ (.slice A8 m.length c8)) base (.slice (some ⟨g1, 0, none⟩) s.sl.length cs) (.slice A8 m.length c8) (.slice Al s.rd.length cl) ⟨s.sl, m, s.rd⟩) := Lib.hid ⟨H5.out.sl.kpu HKU.out, HM5.out.kpu HKU.out, H5.out.rd.kpu HKU.out⟩
    have HB6 := Lib.hid (belSet1 HBW5.out hwx 1 (.slice A8 m.length c8))
    clear c1 f1 HKU
    generalize w5.setCell ⟨bx, 1, none⟩ (.slice A8 m.length c8) = w6 at *
    have c0 := HC6.out.cell 0
    have c1 := HC6.out.cell 1
    have c2 := HC6.out.cell 2
    have p1 := HP6.out.cell 1
    simp only [List.getElem?_cons_zero, List.getElem?_cons_succ] at c0 c1 c2 p1
    rw [HVE.out] at p1
    go_wp2_with (at_builtin; fail)
    refine (l7Clear_any _ _ _ ⟨s.sl, m, s.rd⟩ base v w6 HS6.out (Nat.le_trans hb HB6.out.size) (show v < s.sl.length by rw [OK.out.ln]; exact hvl) (by show s.sl.length ≤ 1000; rw [OK.out.ln]; omega)).mono ?_
    rintro e w7 ⟨vs7, vc7, vl7, rfl, hs7, hb7⟩
    have HB7 := Lib.hid (HB6.out.trans (hb7.mono HB6.out.size))
    have HR7 := Lib.hid (HR6.out.low hb7 HR6.out.lt)
    obtain ⟨A7a, c7a, rfl, -⟩ := hs7.sl.slice
    obtain ⟨A7b, c7b, rfl, -⟩ := hs7.ce.slice
    obtain ⟨A7c, c7c, rfl, -⟩ := hs7.rd.slice
    simp only [List.length_set] at hs7 ⊢
    have HS7 : Hid (SpS w7 base (.slice A7a s.sl.length c7a) (.slice A7b m.length c7b) (.slice A7c s.rd.length c7c) ⟨s.sl.set v slD, m, s.rd⟩) := Lib.hid hs7
    clear hs7 hb7 c0 c1 c2 p1
    have r0 := HR7.out.cell 0
    have r1 := HR7.out.cell 1
    have r2 := HR7.out.cell 2
    simp only [List.getElem?_cons_zero, List.getElem?_cons_succ] at r0 r1 r2
    have rf0 := HR7.out.frozen 0
    have rf1 := HR7.out.frozen 1
    have rf2 := HR7.out.frozen 2
    go_wp2_with (at_builtin; fail)
    refine (l7Code_any code _).mono ?_
    rintro e wz ⟨rfl, rfl⟩
    go_wp2_with (at_builtin; fail)
    have HEN := Lib.hid (sp_end HR7.out rfl HS7.out HB7.out hbr)
    refine bodyPost_ret (res_s1 (p := 6) (u := 7) (ty := 57) rfl _ _ (bx + 1 + 1) 57 _ (0, 0) _ rfl HEN.out.1 Tryz.underlying57 rfl rfl) rfl ?_
    exact ⟨_, _, _, by rw [HRES.out]; rfl, by rw [HRES.out]; exact HEN.out.2.1, HEN.out.2.2⟩
  have HRES : Hid (doP ts s x = (s, none)) := Lib.hid (doP_0 HUN.out (by omega) he11)
  obtain ⟨op, hop⟩ : ∃ op, op = x.op := ⟨_, rfl⟩
  rw [← hop] at p0 h1 h2 h3 h45 h6' h7 h8
  have q1 : (op == 1) = false := beq_eq_false_iff_ne.2 (by omega)
  have q2 : (op == 2) = false := beq_eq_false_iff_ne.2 (by omega)
  have q3 : (op == 3) = false := beq_eq_false_iff_ne.2 (by omega)
  have q4 : (op == 4) = false := beq_eq_false_iff_ne.2 (by omega)
  have q5 : (op == 5) = false := beq_eq_false_iff_ne.2 (by omega)
  have q6 : (op == 6) = false := beq_eq_false_iff_ne.2 (by omega)
  have q7 : (op == 7) = false := beq_eq_false_iff_ne.2 (by omega)
  have q8 : (op == 8) = false := beq_eq_false_iff_ne.2 (by omega)
  clear h1 h2 h3 h45 h6' h7 h8 hop
  go_upto_region 30 with (at_builtin; fail)
  clear c0 c1 c2
  have c0 := HC.out.cell 0
  have c1 := HC.out.cell 1
  have c2 := HC.out.cell 2
  have r0 := HR.out.cell 0
  have r1 := HR.out.cell 1
  have r2 := HR.out.cell 2
  simp only [List.getElem?_cons_zero, List.getElem?_cons_succ] at c0 c1 c2 r0 r1 r2
  have rf0 := HR.out.frozen 0
  have rf1 := HR.out.frozen 1
  have rf2 := HR.out.frozen 2
  go_wp2_with (at_builtin; fail)
  have HEN := Lib.hid (sp_end HR.out rfl H1.out HB0.out hbr)
  refine bodyPost_ret (res_s1 (p := 6) (u := 7) (ty := 57) rfl _ _ (bx + 1 + 1) 57 _ (0, 0) _ rfl HEN.out.1 Tryz.underlying57 rfl rfl) rfl ?_
  exact ⟨_, _, _, by rw [HRES.out]; rfl, by rw [HRES.out]; exact HEN.out.2.1, HEN.out.2.2⟩

end Go.Proofs.YtfioaohadanjmaaGreat
