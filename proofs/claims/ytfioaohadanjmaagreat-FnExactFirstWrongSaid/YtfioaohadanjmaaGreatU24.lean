import Derived.Test.YtfioaohadanjmaaGreatU23
import Derived.Test.YtfioaohadanjmaaGreatU21
set_option linter.unusedVariables false

/- spec.l7Make. -/
namespace Go.Proofs.YtfioaohadanjmaaGreat
open Go.RowKit Go.Lib

set_option maxHeartbeats 16000000 in
set_option maxRecDepth 100000 in
theorem l7Make_any (vt vs vc vl : Value) (ts : List Int) (s : Ms) (x : Pt) (An : Option Addr) (cn v u base B : Nat) (w : World) (ht : IntS w B vt ts) (hB : B ≤ w.heap.size) (h : SpS w base vs vc vl s) (hb : base ≤ w.heap.size) (hok : MsOk ts s)
    (hop : x.op = 4 ∨ x.op = 5) (hun : unsetP ts s x = false) (hxv : x.x = (v : Nat)) (hvl : v < ts.length) (hyu : x.y = (u : Nat)) (hul : u < ts.length) (h6 : ts.length ≤ 6) :
    Calls Tryz.prog 87 #[vt, .agg #[vs, vc, vl], .agg #[.int .i64 x.op, .int .i64 x.x, .int .i64 x.y, .int .i64 x.n, .slice An x.next.length cn]] w (SpRet w base ((doP ts s x).1, codeV (doP ts s x).2)) := by
  have HT := Lib.hid ht
  have H := Lib.hid h
  have OK := Lib.hid hok
  have HUN := Lib.hid hun
  have hus : u < s.sl.length := by rw [hok.ln]; exact hul
  obtain ⟨As, cs, rfl, hcs⟩ := h.sl.slice
  obtain ⟨Ac, cc, rfl, hcc⟩ := h.ce.slice
  obtain ⟨Al, cl, rfl, hcl⟩ := h.rd.slice
  obtain ⟨k1, k2, k3, k4⟩ := three_boxes w [.slice As s.sl.length cs, .slice Ac s.ce.length cc, .slice Al s.rd.length cl] [.int .i64 x.op, .int .i64 x.x, .int .i64 x.y, .int .i64 x.n, .slice An x.next.length cn] [.slice none 0 0, .slice none 0 0, .slice none 0 0] 57 94 57
  have HC := Lib.hid k1
  have HP := Lib.hid k2
  have HR := Lib.hid k3
  have HB0 := Lib.hid k4
  clear h hok ht k1 k2 k3 k4 hun
  rw [hxv, hyu] at HP HB0 HC HR ⊢
  go_enter Tryz.func87, Tryz.ntmps87
  go_upto_region 1 with (at_builtin; fail)
  generalize ((w.alloc (.cells #[.slice As s.sl.length cs, .slice Ac s.ce.length cc, .slice Al s.rd.length cl] 57)).alloc (.cells #[.int .i64 x.op, .int .i64 (v : Nat), .int .i64 (u : Nat), .int .i64 x.n, .slice An x.next.length cn] 94)).alloc (.cells #[.slice none 0 0, .slice none 0 0, .slice none 0 0] 57) = W at *
  obtain ⟨bx, hbx⟩ : ∃ bx, bx = w.heap.size := ⟨_, rfl⟩
  rw [← hbx] at HC HP HR ⊢
  have hbr : w.heap.size ≤ bx + 1 + 1 := by omega
  have hwx : w.heap.size ≤ bx := by omega
  have HBX := Lib.hid hbx
  clear hbx
  have H1 := Lib.hid (H.out.bel HB0.out)
  obtain ⟨g1, rfl, hg1, hgl1, u0, u1, u2, u3, -⟩ := H1.out.sl.at_ hus
  obtain ⟨pc, hpc⟩ : ∃ pc, pc = s.sl[u].pc := ⟨_, rfl⟩
  rw [← hpc] at u2
  obtain ⟨pt, hpt⟩ : ∃ pt, pt = s.sl[u].pt := ⟨_, rfl⟩
  rw [← hpt] at u3
  have HLP : Hid (∀ un, lendP s.ce (slAt s.sl x.y.toNat).pc (slAt s.sl x.y.toNat).pt un = lendP s.ce pc pt un) := Lib.hid fun un => by rw [hyu, Int.toNat_natCast, slAt_get hus, hpc, hpt]
  have c0 := HC.out.cell 0
  have c1 := HC.out.cell 1
  have p0 := HP.out.cell 0
  have p2 := HP.out.cell 2
  simp only [List.getElem?_cons_zero, List.getElem?_cons_succ] at c0 c1 p0 p2
  have hxl := HC.out.lt
  have hpl := HP.out.lt
  have hrl := HR.out.lt
  have hbW : base ≤ W.heap.size := Nat.le_trans hb HB0.out.size
  clear u0 u1 hpc hpt
  obtain ⟨m1, pz, py, code1, hl1⟩ : ∃ m1 pz py code1, lendP s.ce pc pt false = (m1, (pz, py), code1) := ⟨_, _, _, _, rfl⟩
  have HL1 := Lib.hid hl1
  have OKM1 : Hid (okM m1) := Lib.hid (by have := OK.out.ce.lend pc pt false; rwa [hl1] at this)
  have HNC1 : Hid (∀ wz : World, Below W.heap.size W wz → Calls Tryz.prog 109 #[.slice Ac s.ce.length cc, .agg #[.int .i64 (pc : Nat), .int .i64 (pt : Nat)]] wz fun e w' => ∃ v, e = .returned (.tuple #[v, .agg #[.int .i64 (pz : Nat), .int .i64 (py : Nat)], .int .i64 code1]) ∧ MeS w' base v m1 ∧ Below wz.heap.size wz w') := Lib.hid fun wz hw => (sShareCell_any _ s.ce pc pt base wz (H1.out.ce.bel hw) OK.out.ce).mono (by
    rw [hl1]
    rintro e w' ⟨v, rfl, k1, k2⟩
    exact ⟨v, rfl, k1.base (Nat.le_trans hbW hw.size), k2⟩)
  clear hl1
  go_cut [8, 9, 10] from 11 to 24 (fun s8 s9 s10 wx => ∃ bz : Nat, s9 = .pointer (some ⟨bz, 0, none⟩) ∧ s10 = .int .i64 code1 ∧ Below W.heap.size W wx ∧ W.heap.size ≤ bz ∧ RowB wx bz 77 [.int .i64 (pz : Nat), .int .i64 (py : Nat)] ∧ MeS wx base s8 m1)
  case first =>
    refine wp_region_held_drew (S := (fun w' => w'.cell? ⟨bx, 0, none⟩ = some (.slice (some ⟨g1, 0, none⟩) s.sl.length cs) ∧ w'.cell? ⟨bx, 1, none⟩ = some (.slice Ac s.ce.length cc) ∧ w'.cell? ⟨g1, u * 4 + 2, none⟩ = some (.int .i64 (pc : Nat)) ∧ w'.cell? ⟨g1, u * 4 + 3, none⟩ = some (.int .i64 (pt : Nat)) ∧ w'.cell? ⟨bx + 1, 2, none⟩ = some (.int .i64 (u : Nat)) ∧ Below W.heap.size W w')) (by kernel_rfl) ?_ (fun hHeld => ?_)
    · exact ⟨c0, c1, u2, u3, p2, (BelD W)⟩
    refine wpAnyH_take (i := 0) (oi := ⟨some 12, _, _, _, _, _⟩) (v := ?_) rfl (by kernel_rfl) (by kernel_rfl) (by kernel_rfl) (fun _ _ _ h => h) (Or.inl ⟨by rfl, fun w' hSw => ?_⟩) (by assumption) ?_
    rotate_left
    · (try dsimp only at hSw); go_simp; (try with_reducible rfl)
    (try simp only [Act.put, List.setIfInBounds_toArray, List.set_cons_zero, List.set_cons_succ])
    refine wpAnyH_take (i := 1) (oi := ⟨some 13, _, _, _, _, _⟩) (v := ?_) rfl (by kernel_rfl) (by kernel_rfl) (by kernel_rfl) (fun _ _ _ h => h) (Or.inl ⟨by rfl, fun w' hSw => ?_⟩) (by assumption) ?_
    rotate_left
    · (try dsimp only at hSw); go_simp; (try with_reducible rfl)
    (try simp only [Act.put, List.setIfInBounds_toArray, List.set_cons_zero, List.set_cons_succ])
    refine wpAnyH_take (i := 2) (oi := ⟨some 14, _, _, _, _, _⟩) (v := ?_) rfl (by kernel_rfl) (by kernel_rfl) (by kernel_rfl) (fun _ _ _ h => h) (Or.inl ⟨by rfl, fun w' hSw => ?_⟩) (by assumption) ?_
    rotate_left
    · (try dsimp only at hSw); go_simp; (try with_reducible rfl)
    (try simp only [Act.put, List.setIfInBounds_toArray, List.set_cons_zero, List.set_cons_succ])
    refine wpAnyH_take (i := 3) (oi := ⟨some 15, _, _, _, _, _⟩) (v := ?_) rfl (by kernel_rfl) (by kernel_rfl) (by kernel_rfl) (fun _ _ _ h => h) (Or.inl ⟨by rfl, fun w' hSw => ?_⟩) (by assumption) ?_
    rotate_left
    · (try dsimp only at hSw); go_simp; (try with_reducible rfl)
    (try simp only [Act.put, List.setIfInBounds_toArray, List.set_cons_zero, List.set_cons_succ])
    refine wpAnyH_take (i := 4) (oi := ⟨some 16, _, _, _, _, _⟩) (v := ?_) rfl (by kernel_rfl) (by kernel_rfl) (by kernel_rfl) (fun _ _ _ h => h) (Or.inl ⟨by rfl, fun w' hSw => ?_⟩) (by assumption) ?_
    rotate_left
    · (try dsimp only at hSw); go_simp; (try with_reducible rfl)
    (try simp only [Act.put, List.setIfInBounds_toArray, List.set_cons_zero, List.set_cons_succ])
    refine wpAnyH_take (i := 5) (oi := ⟨some 17, _, _, _, _, _⟩) (v := ?_) rfl (by kernel_rfl) (by kernel_rfl) (by kernel_rfl) (fun _ _ _ h => h) (Or.inl ⟨by rfl, fun w' hSw => ?_⟩) (by assumption) ?_
    rotate_left
    · (try dsimp only at hSw); go_simp; (try with_reducible rfl)
    (try simp only [Act.put, List.setIfInBounds_toArray, List.set_cons_zero, List.set_cons_succ])
    refine wpAnyH_take (i := 6) (oi := ⟨some 18, _, _, _, _, _⟩) (v := ?_) rfl (by kernel_rfl) (by kernel_rfl) (by kernel_rfl) (fun _ _ _ h => h) (Or.inl ⟨by rfl, fun w' hSw => ?_⟩) (by assumption) ?_
    rotate_left
    · (try dsimp only at hSw); go_simp; (try with_reducible rfl)
    (try simp only [Act.put, List.setIfInBounds_toArray, List.set_cons_zero, List.set_cons_succ])
    refine wpAnyH_take (i := 7) (oi := ⟨some 19, _, _, _, _, _⟩) (v := ?_) rfl (by kernel_rfl) (by kernel_rfl) (by kernel_rfl) (fun _ _ _ h => h) (Or.inl ⟨by rfl, fun w' hSw => ?_⟩) (by assumption) ?_
    rotate_left
    · (try dsimp only at hSw); go_simp; (try with_reducible rfl)
    (try simp only [Act.put, List.setIfInBounds_toArray, List.set_cons_zero, List.set_cons_succ])
    refine wpAnyH_take (i := 8) (oi := ⟨some 20, _, _, _, _, _⟩) (v := ?_) rfl (by kernel_rfl) (by kernel_rfl) (by kernel_rfl) (fun _ _ _ h => h) (Or.inl ⟨by rfl, fun w' hSw => ?_⟩) (by assumption) ?_
    rotate_left
    · (try dsimp only at hSw); go_simp; (try with_reducible rfl)
    (try simp only [Act.put, List.setIfInBounds_toArray, List.set_cons_zero, List.set_cons_succ])
    refine wpAnyH_ready (rs := [9, 14]) (by kernel_rfl) (by simp) ?_
    refine (AllReadyH.cons (o := ⟨some 21, _, _, _, _, _⟩) rfl (fun K hK => ?_) (AllReadyH.cons (o := ⟨some 9, _, _, _, _, _⟩) rfl (fun K hK => ?_) AllReadyH.nil))
    · go_simp
      (refine (HNC1.out _ (BelD W)).mono ?_)
      (rintro e w11 ⟨v11, rfl, hm11, hb11⟩)
      (have HB11 := Lib.hid ((BelD W).trans hb11))
      (have HM11 := Lib.hid hm11)
      clear hm11 hb11
      go_simp
      refine hK.out _ _ ?_ (fun hHeld => ?_)
      · exact ⟨(HB11.out.cell (p := ⟨bx, 0, none⟩) hxl).trans c0, (HB11.out.cell (p := ⟨bx, 1, none⟩) hxl).trans c1, (HB11.out.cell (p := ⟨g1, u * 4 + 2, none⟩) hgl1).trans u2, (HB11.out.cell (p := ⟨g1, u * 4 + 3, none⟩) hgl1).trans u3, (HB11.out.cell (p := ⟨bx + 1, 2, none⟩) hpl).trans p2, HB11.out⟩
      clear hK K
      (try simp only [Act.put, List.setIfInBounds_toArray, List.set_cons_zero, List.set_cons_succ])
      refine wpAnyH_take (i := 10) (oi := ⟨some 11, _, _, _, _, _⟩) (v := ?_) rfl (by kernel_rfl) (by kernel_rfl) (by kernel_rfl) (fun _ _ _ h => h) (Or.inl ⟨by rfl, fun w' hSw => ?_⟩) (by assumption) ?_
      rotate_left
      · (try dsimp only at hSw); go_simp; (try with_reducible rfl)
      (try simp only [Act.put, List.setIfInBounds_toArray, List.set_cons_zero, List.set_cons_succ])
      refine wpAnyH_take (i := 11) (oi := ⟨some 22, _, _, _, _, _⟩) (v := ?_) rfl (by kernel_rfl) (by kernel_rfl) (by kernel_rfl) (fun _ _ _ h => h) (Or.inl ⟨by rfl, fun w' hSw => ?_⟩) (by assumption) ?_
      rotate_left
      · (try dsimp only at hSw); go_simp; (try with_reducible rfl)
      (try simp only [Act.put, List.setIfInBounds_toArray, List.set_cons_zero, List.set_cons_succ])
      refine wpAnyH_take (i := 12) (oi := ⟨some 23, _, _, _, _, _⟩) (v := ?_) rfl (by kernel_rfl) (by kernel_rfl) (by kernel_rfl) (fun _ _ _ h => h) (Or.inl ⟨by rfl, fun w' hSw => ?_⟩) (by assumption) ?_
      rotate_left
      · (try dsimp only at hSw); go_simp; (try with_reducible rfl)
      (try simp only [Act.put, List.setIfInBounds_toArray, List.set_cons_zero, List.set_cons_succ])
      refine wpAnyH_take (i := 13) (oi := ⟨some 24, _, _, _, _, _⟩) (v := ?_) rfl (by kernel_rfl) (by kernel_rfl) (by kernel_rfl) (fun _ _ _ h => h) (Or.inl ⟨by rfl, fun w' hSw => ?_⟩) (by assumption) ?_
      rotate_left
      · (try dsimp only at hSw); go_simp; (try with_reducible rfl)
      (try simp only [Act.put, List.setIfInBounds_toArray, List.set_cons_zero, List.set_cons_succ])
      refine wpAnyH_ready (rs := [14]) (by kernel_rfl) (by simp) ?_
      refine (AllReadyH.cons (o := ⟨some 9, _, _, _, _, _⟩) rfl (fun K hK => ?_) AllReadyH.nil)
      go_simp
      (have HB12 := Lib.hid (HB11.out.alloc HB11.out.size (.cells #[.int .i64 0, .int .i64 0] 77)))
      (have HZ12 := Lib.hid (RowB.new w11 [.int .i64 0, .int .i64 0] 77))
      (have HM12 := Lib.hid (HM11.out.bel (bel_a w11 (.cells #[.int .i64 0, .int .i64 0] 77))))
      (generalize w11.alloc (.cells #[.int .i64 0, .int .i64 0] 77) = w12 at HB12 HZ12 HM12 ⊢)
      (have hbz := HB11.out.size)
      (have hzl := HZ12.out.lt)
      (have r0 := HZ12.out.cell 0)
      (have r1 := HZ12.out.cell 1)
      (have rf0 := HZ12.out.frozen 0)
      (have rf1 := HZ12.out.frozen 1)
      (simp only [List.getElem?_cons_zero, List.getElem?_cons_succ] at r0 r1)
      refine hK.out _ _ ?_ (fun hHeld => ?_)
      · exact ⟨(HB12.out.cell (p := ⟨bx, 0, none⟩) hxl).trans c0, (HB12.out.cell (p := ⟨bx, 1, none⟩) hxl).trans c1, (HB12.out.cell (p := ⟨g1, u * 4 + 2, none⟩) hgl1).trans u2, (HB12.out.cell (p := ⟨g1, u * 4 + 3, none⟩) hgl1).trans u3, (HB12.out.cell (p := ⟨bx + 1, 2, none⟩) hpl).trans p2, HB12.out⟩
      clear hK K
      (try simp only [Act.put, List.setIfInBounds_toArray, List.set_cons_zero, List.set_cons_succ])
      refine wpAnyH_take (i := 15) (oi := ⟨some 8, _, _, _, _, _⟩) (v := ?_) rfl (by kernel_rfl) (by kernel_rfl) (by kernel_rfl) (fun _ _ _ h => h) (Or.inl ⟨by rfl, fun w' hSw => ?_⟩) (by assumption) ?_
      rotate_left
      · (try dsimp only at hSw); go_simp; (try with_reducible rfl)
      (try simp only [Act.put, List.setIfInBounds_toArray, List.set_cons_zero, List.set_cons_succ])
      refine wpAnyH_ready (rs := [16]) (by kernel_rfl) (by simp) ?_
      refine (AllReadyH.cons (o := ⟨none, _, _, _, _, _⟩) rfl (fun K hK => ?_) AllReadyH.nil)
      go_simp
      (have HB13 := Lib.hid (show Below W.heap.size W (w12.setCells w11.heap.size 0 [.int .i64 (pz : Nat), .int .i64 (py : Nat)]) from belSets HB12.out hbz 0 _))
      (have HZ13 := Lib.hid (show RowB (w12.setCells w11.heap.size 0 [.int .i64 (pz : Nat), .int .i64 (py : Nat)]) w11.heap.size 77 [.int .i64 (pz : Nat), .int .i64 (py : Nat)] from HZ12.out.putAll [.int .i64 (pz : Nat), .int .i64 (py : Nat)] rfl))
      (have HM13 := Lib.hid (show MeS (w12.setCells w11.heap.size 0 [.int .i64 (pz : Nat), .int .i64 (py : Nat)]) base v11 m1 from HM12.out.kpu (KpU.ps HZ12.out _)))
      refine hK.out _ _ ?_ (fun hHeld => ?_)
      · exact ⟨(HB13.out.cell (p := ⟨bx, 0, none⟩) hxl).trans c0, (HB13.out.cell (p := ⟨bx, 1, none⟩) hxl).trans c1, (HB13.out.cell (p := ⟨g1, u * 4 + 2, none⟩) hgl1).trans u2, (HB13.out.cell (p := ⟨g1, u * 4 + 3, none⟩) hgl1).trans u3, (HB13.out.cell (p := ⟨bx + 1, 2, none⟩) hpl).trans p2, HB13.out⟩
      clear hK K
      (try simp only [Act.put, List.setIfInBounds_toArray, List.set_cons_zero, List.set_cons_succ])
      refine wpAnyH_take (i := 17) (oi := ⟨some 10, _, _, _, _, _⟩) (v := ?_) rfl (by kernel_rfl) (by kernel_rfl) (by kernel_rfl) (fun _ _ _ h => h) (Or.inl ⟨by rfl, fun w' hSw => ?_⟩) (by assumption) ?_
      rotate_left
      · (try dsimp only at hSw); go_simp; (try with_reducible rfl)
      (try simp only [Act.put, List.setIfInBounds_toArray, List.set_cons_zero, List.set_cons_succ])
      refine wpAnyH_done (by kernel_rfl) ?_ _
      go_wp2_with (at_builtin; fail)
      go_meet
      exact ⟨_, rfl, rfl, HB13.out, hbz, HZ13.out, HM13.out⟩
    · go_simp
      (have HB10 := Lib.hid (bel_a W (.cells #[.int .i64 0, .int .i64 0] 77)).drew)
      (have HZ10 := Lib.hid (show RowB (W.alloc (.cells #[.int .i64 0, .int .i64 0] 77)).drew W.heap.size 77 [.int .i64 0, .int .i64 0] from RowB.new W _ _))
      (generalize (W.alloc (.cells #[.int .i64 0, .int .i64 0] 77)).drew = w10 at HB10 HZ10 ⊢)
      (have hbz : W.heap.size ≤ W.heap.size := Nat.le_refl _)
      (have hzl := HZ10.out.lt)
      refine hK.out _ _ ?_ (fun hHeld => ?_)
      · exact ⟨(HB10.out.cell (p := ⟨bx, 0, none⟩) hxl).trans c0, (HB10.out.cell (p := ⟨bx, 1, none⟩) hxl).trans c1, (HB10.out.cell (p := ⟨g1, u * 4 + 2, none⟩) hgl1).trans u2, (HB10.out.cell (p := ⟨g1, u * 4 + 3, none⟩) hgl1).trans u3, (HB10.out.cell (p := ⟨bx + 1, 2, none⟩) hpl).trans p2, HB10.out⟩
      clear hK K
      (try simp only [Act.put, List.setIfInBounds_toArray, List.set_cons_zero, List.set_cons_succ])
      refine wpAnyH_ready (rs := [9]) (by kernel_rfl) (by simp) ?_
      refine (AllReadyH.cons (o := ⟨some 21, _, _, _, _, _⟩) rfl (fun K hK => ?_) AllReadyH.nil)
      go_simp
      (refine (HNC1.out _ HB10.out).mono ?_)
      (rintro e w12 ⟨v11, rfl, hm11, hb11⟩)
      (have HB12 := Lib.hid (HB10.out.trans (hb11.mono HB10.out.size)))
      (have HZ12 := Lib.hid (HZ10.out.low hb11 hzl))
      (have HM12 := Lib.hid hm11)
      clear hm11 hb11
      (have r0 := HZ12.out.cell 0)
      (have r1 := HZ12.out.cell 1)
      (have rf0 := HZ12.out.frozen 0)
      (have rf1 := HZ12.out.frozen 1)
      (simp only [List.getElem?_cons_zero, List.getElem?_cons_succ] at r0 r1)
      go_simp
      refine hK.out _ _ ?_ (fun hHeld => ?_)
      · exact ⟨(HB12.out.cell (p := ⟨bx, 0, none⟩) hxl).trans c0, (HB12.out.cell (p := ⟨bx, 1, none⟩) hxl).trans c1, (HB12.out.cell (p := ⟨g1, u * 4 + 2, none⟩) hgl1).trans u2, (HB12.out.cell (p := ⟨g1, u * 4 + 3, none⟩) hgl1).trans u3, (HB12.out.cell (p := ⟨bx + 1, 2, none⟩) hpl).trans p2, HB12.out⟩
      clear hK K
      (try simp only [Act.put, List.setIfInBounds_toArray, List.set_cons_zero, List.set_cons_succ])
      refine wpAnyH_take (i := 10) (oi := ⟨some 11, _, _, _, _, _⟩) (v := ?_) rfl (by kernel_rfl) (by kernel_rfl) (by kernel_rfl) (fun _ _ _ h => h) (Or.inl ⟨by rfl, fun w' hSw => ?_⟩) (by assumption) ?_
      rotate_left
      · (try dsimp only at hSw); go_simp; (try with_reducible rfl)
      (try simp only [Act.put, List.setIfInBounds_toArray, List.set_cons_zero, List.set_cons_succ])
      refine wpAnyH_take (i := 11) (oi := ⟨some 22, _, _, _, _, _⟩) (v := ?_) rfl (by kernel_rfl) (by kernel_rfl) (by kernel_rfl) (fun _ _ _ h => h) (Or.inl ⟨by rfl, fun w' hSw => ?_⟩) (by assumption) ?_
      rotate_left
      · (try dsimp only at hSw); go_simp; (try with_reducible rfl)
      (try simp only [Act.put, List.setIfInBounds_toArray, List.set_cons_zero, List.set_cons_succ])
      refine wpAnyH_take (i := 12) (oi := ⟨some 23, _, _, _, _, _⟩) (v := ?_) rfl (by kernel_rfl) (by kernel_rfl) (by kernel_rfl) (fun _ _ _ h => h) (Or.inl ⟨by rfl, fun w' hSw => ?_⟩) (by assumption) ?_
      rotate_left
      · (try dsimp only at hSw); go_simp; (try with_reducible rfl)
      (try simp only [Act.put, List.setIfInBounds_toArray, List.set_cons_zero, List.set_cons_succ])
      refine wpAnyH_take (i := 13) (oi := ⟨some 24, _, _, _, _, _⟩) (v := ?_) rfl (by kernel_rfl) (by kernel_rfl) (by kernel_rfl) (fun _ _ _ h => h) (Or.inl ⟨by rfl, fun w' hSw => ?_⟩) (by assumption) ?_
      rotate_left
      · (try dsimp only at hSw); go_simp; (try with_reducible rfl)
      (try simp only [Act.put, List.setIfInBounds_toArray, List.set_cons_zero, List.set_cons_succ])
      refine wpAnyH_take (i := 15) (oi := ⟨some 8, _, _, _, _, _⟩) (v := ?_) rfl (by kernel_rfl) (by kernel_rfl) (by kernel_rfl) (fun _ _ _ h => h) (Or.inl ⟨by rfl, fun w' hSw => ?_⟩) (by assumption) ?_
      rotate_left
      · (try dsimp only at hSw); go_simp; (try with_reducible rfl)
      (try simp only [Act.put, List.setIfInBounds_toArray, List.set_cons_zero, List.set_cons_succ])
      refine wpAnyH_ready (rs := [16]) (by kernel_rfl) (by simp) ?_
      refine (AllReadyH.cons (o := ⟨none, _, _, _, _, _⟩) rfl (fun K hK => ?_) AllReadyH.nil)
      go_simp
      (have HB13 := Lib.hid (show Below W.heap.size W (w12.setCells W.heap.size 0 [.int .i64 (pz : Nat), .int .i64 (py : Nat)]) from belSets HB12.out hbz 0 _))
      (have HZ13 := Lib.hid (show RowB (w12.setCells W.heap.size 0 [.int .i64 (pz : Nat), .int .i64 (py : Nat)]) W.heap.size 77 [.int .i64 (pz : Nat), .int .i64 (py : Nat)] from HZ12.out.putAll [.int .i64 (pz : Nat), .int .i64 (py : Nat)] rfl))
      (have HM13 := Lib.hid (show MeS (w12.setCells W.heap.size 0 [.int .i64 (pz : Nat), .int .i64 (py : Nat)]) base v11 m1 from HM12.out.kpu (KpU.ps HZ12.out _)))
      refine hK.out _ _ ?_ (fun hHeld => ?_)
      · exact ⟨(HB13.out.cell (p := ⟨bx, 0, none⟩) hxl).trans c0, (HB13.out.cell (p := ⟨bx, 1, none⟩) hxl).trans c1, (HB13.out.cell (p := ⟨g1, u * 4 + 2, none⟩) hgl1).trans u2, (HB13.out.cell (p := ⟨g1, u * 4 + 3, none⟩) hgl1).trans u3, (HB13.out.cell (p := ⟨bx + 1, 2, none⟩) hpl).trans p2, HB13.out⟩
      clear hK K
      (try simp only [Act.put, List.setIfInBounds_toArray, List.set_cons_zero, List.set_cons_succ])
      refine wpAnyH_take (i := 17) (oi := ⟨some 10, _, _, _, _, _⟩) (v := ?_) rfl (by kernel_rfl) (by kernel_rfl) (by kernel_rfl) (fun _ _ _ h => h) (Or.inl ⟨by rfl, fun w' hSw => ?_⟩) (by assumption) ?_
      rotate_left
      · (try dsimp only at hSw); go_simp; (try with_reducible rfl)
      (try simp only [Act.put, List.setIfInBounds_toArray, List.set_cons_zero, List.set_cons_succ])
      refine wpAnyH_done (by kernel_rfl) ?_ _
      go_wp2_with (at_builtin; fail)
      go_meet
      exact ⟨_, rfl, rfl, HB13.out, hbz, HZ13.out, HM13.out⟩
  case rest =>
    obtain ⟨bz, rfl, rfl, hb5, hbz, hrow, hme⟩ := hcut
    have HB5 := Lib.hid hb5
    have HZ5 := Lib.hid hrow
    have HM5 := Lib.hid hme
    clear hb5 hrow hme HNC1
    have p0 := (HB5.out.cell (p := ⟨bx + 1, 0, none⟩) hpl).trans p0
    rcases hop with hop4 | hop5
    · have HOPP : Hid (x.op = 4 ∨ x.op = 5) := Lib.hid (.inl hop4)
      have HLE : Hid (lendP s.ce (slAt s.sl x.y.toNat).pc (slAt s.sl x.y.toNat).pt (x.op == 5) = (m1, (pz, py), code1)) := Lib.hid (by rw [HLP.out, hop4]; exact HL1.out)
      rw [hop4] at p0
      clear hop4
      go_upto_region 4 with (at_builtin; fail)
      clear p0
      obtain ⟨A8, c8, rfl, -⟩ := HM5.out.slice
      have HC5 := Lib.hid (HC.out.low HB5.out hxl)
      have HP5 := Lib.hid (HP.out.low HB5.out hpl)
      have HR5 := Lib.hid (HR.out.low HB5.out hrl)
      have H5 := Lib.hid (H1.out.bel HB5.out)
      have HBwc := Lib.hid (HB0.out.trans (HB5.out.mono HB0.out.size))
      clear c0 c1 u2 u3 p2
      have c1 := HC5.out.cell 1
      have f1 := HC5.out.frozen 1
      simp only [List.getElem?_cons_zero, List.getElem?_cons_succ] at c1
      go_upto_region 5 with (at_builtin; fail)
      have HC6 : Hid (RowB (wc.setCell ⟨bx, 1, none⟩ (.slice A8 m1.length c8)) bx 57 [.slice (some ⟨g1, 0, none⟩) s.sl.length cs, .slice A8 m1.length c8, .slice Al s.rd.length cl]) := Lib.hid (HC5.out.set_ 1 (.slice A8 m1.length c8))
      have HR6 := Lib.hid (HR5.out.ne_ (show bx + 1 + 1 ≠ bx by omega) 1 (.slice A8 m1.length c8))
      have HZ6 := Lib.hid (HZ5.out.ne_ (show bz ≠ bx by omega) 1 (.slice A8 m1.length c8))
      have HKU := Lib.hid (KpU.s1 HC5.out 1 (.slice A8 m1.length c8))
      have HP6 := Lib.hid (HP5.out.kpu HKU.out (by decide) (by decide))
      have HS6 : Hid (SpS (wc.setCell ⟨bx, 1, none⟩ (.slice A8 m1.length c8)) base (.slice (some ⟨g1, 0, none⟩) s.sl.length cs) (.slice A8 m1.length c8) (.slice Al s.rd.length cl) ⟨s.sl, m1, s.rd⟩) := Lib.hid ⟨H5.out.sl.kpu HKU.out, HM5.out.kpu HKU.out, H5.out.rd.kpu HKU.out⟩
      have HB6 := Lib.hid (belSet1 HBwc.out hwx 1 (.slice A8 m1.length c8))
      clear c1 f1 HKU
      generalize wc.setCell ⟨bx, 1, none⟩ (.slice A8 m1.length c8) = w6 at *
      by_cases hcode : code1 = 0
      · subst hcode
        have HD := Lib.hid (doP_45 HUN.out HOPP.out HLE.out)
        obtain ⟨R, hR⟩ : ∃ R, R = putP ts ⟨s.sl, m1, s.rd⟩ v ⟨true, 0, pz, py⟩ := ⟨_, rfl⟩
        have HRR := Lib.hid hR
        have HRES : Hid (doP ts s x = R) := Lib.hid (by rw [HD.out, hxv, Int.toNat_natCast, hR])
        have HOK6 : Hid (MsOk ts ⟨s.sl, m1, s.rd⟩) := Lib.hid ⟨OKM1.out, OK.out.ln⟩
        clear hR HD
        have c0 := HC6.out.cell 0
        have c1 := HC6.out.cell 1
        have c2 := HC6.out.cell 2
        have p1 := HP6.out.cell 1
        have z0 := HZ6.out.cell 0
        have z1 := HZ6.out.cell 1
        simp only [List.getElem?_cons_zero, List.getElem?_cons_succ] at c0 c1 c2 p1 z0 z1
        go_wp2_with (at_builtin; fail)
        refine (l7Put_any _ _ _ _ ts ⟨s.sl, m1, s.rd⟩ ⟨true, 0, pz, py⟩ base v B w6 (HT.out.low HB6.out hB) (Nat.le_trans hB HB6.out.size) HS6.out (Nat.le_trans hb HB6.out.size) HOK6.out hvl h6).mono ?_
        rw [← HRR.out]
        rintro e wz ⟨vs9, vc9, vl9, rfl, hs9, hb9⟩
        have HS9 := Lib.hid hs9
        have HB9 := Lib.hid hb9
        obtain ⟨A9a, c9a, rfl, -⟩ := hs9.sl.slice
        obtain ⟨A9b, c9b, rfl, -⟩ := hs9.ce.slice
        obtain ⟨A9c, c9c, rfl, -⟩ := hs9.rd.slice
        have HRz := Lib.hid (HR6.out.low HB9.out HR6.out.lt)
        have rz0 := HRz.out.cell 0
        have rz1 := HRz.out.cell 1
        have rz2 := HRz.out.cell 2
        simp only [List.getElem?_cons_zero, List.getElem?_cons_succ] at rz0 rz1 rz2
        have fz0 := HRz.out.frozen 0
        have fz1 := HRz.out.frozen 1
        have fz2 := HRz.out.frozen 2
        clear hs9 hb9
        go_wp2_with (at_builtin; fail)
        have HEN := Lib.hid (sp_end HRz.out rfl HS9.out (HB6.out.trans (HB9.out.mono HB6.out.size)) hbr)
        refine bodyPost_ret (res_s1 (p := 6) (u := 7) (ty := 57) rfl _ _ (bx + 1 + 1) 57 _ (0, 0) _ rfl HEN.out.1 Tryz.underlying57 rfl rfl) rfl ?_
        exact ⟨_, _, _, by rw [HRES.out]; rfl, by rw [HRES.out]; exact HEN.out.2.1, HEN.out.2.2⟩
      · have HRES : Hid (doP ts s x = (⟨s.sl, m1, s.rd⟩, endO code1)) := Lib.hid (by rw [doP_45n HUN.out HOPP.out HLE.out hcode]; unfold endO; rw [if_neg hcode])
        have qc : (code1 != 0) = true := by simpa using hcode
        clear hcode
        go_upto_region 6 with (at_builtin; fail)
        have HXf := HC6
        have HRf := HR6
        have HSf := HS6
        have HBf := HB6
        have hbrf := hbr
        have hnef : bx ≠ bx + 1 + 1 := by omega
        have y0 := HXf.out.cell 0
        have y1 := HXf.out.cell 1
        have y2 := HXf.out.cell 2
        simp only [List.getElem?_cons_zero, List.getElem?_cons_succ] at y0 y1 y2
        have rf0 := HRf.out.frozen 0
        have rf1 := HRf.out.frozen 1
        have rf2 := HRf.out.frozen 2
        have r0 := HRf.out.cell 0
        have r1 := HRf.out.cell 1
        have r2 := HRf.out.cell 2
        simp only [List.getElem?_cons_zero, List.getElem?_cons_succ] at r0 r1 r2
        refine wp_region_held_drew (S := (fun w' => w'.cell? ⟨bx, 0, none⟩ = some (.slice (some ⟨g1, 0, none⟩) s.sl.length cs) ∧ w'.cell? ⟨bx, 1, none⟩ = some (.slice A8 m1.length c8) ∧ w'.cell? ⟨bx, 2, none⟩ = some (.slice Al s.rd.length cl))) (by kernel_rfl) ?_ (fun hHeld => ?_)
        · exact ⟨y0, y1, y2⟩
        refine wpAnyH_take (i := 0) (oi := ⟨some 46, _, _, _, _, _⟩) (v := ?_) rfl (by kernel_rfl) (by kernel_rfl) (by kernel_rfl) (fun _ _ _ h => h) (Or.inl ⟨by rfl, fun w' hSw => ?_⟩) (by assumption) ?_
        rotate_left
        · (try dsimp only at hSw); go_simp; (try with_reducible rfl)
        (try simp only [Act.put, List.setIfInBounds_toArray, List.set_cons_zero, List.set_cons_succ])
        refine wpAnyH_take (i := 1) (oi := ⟨some 47, _, _, _, _, _⟩) (v := ?_) rfl (by kernel_rfl) (by kernel_rfl) (by kernel_rfl) (fun _ _ _ h => h) (Or.inl ⟨by rfl, fun w' hSw => ?_⟩) (by assumption) ?_
        rotate_left
        · (try dsimp only at hSw); go_simp; (try with_reducible rfl)
        (try simp only [Act.put, List.setIfInBounds_toArray, List.set_cons_zero, List.set_cons_succ])
        refine wpAnyH_ready (rs := [2]) (by kernel_rfl) (by simp) ?_
        refine (AllReadyH.cons (o := ⟨some 48, _, _, _, _, _⟩) rfl (fun K hK => ?_) AllReadyH.nil)
        go_simp
        (refine (l7Code_any code1 _).mono ?_)
        (rintro e wz ⟨rfl, rfl⟩)
        go_simp
        refine hK.out _ _ ?_ (fun hHeld => ?_)
        · exact ⟨y0, y1, y2⟩
        clear hK K
        (try simp only [Act.put, List.setIfInBounds_toArray, List.set_cons_zero, List.set_cons_succ])
        refine wpAnyH_ready (rs := [3]) (by kernel_rfl) (by simp) ?_
        refine (AllReadyH.cons (o := ⟨none, _, _, _, _, _⟩) rfl (fun K hK => ?_) AllReadyH.nil)
        go_simp
        (have HEN := Lib.hid (sp_end (HRf.out.low (BelD w6) HRf.out.lt) rfl (HSf.out.bel (BelD w6)) (HBf.out.trans ((BelD w6).mono HBf.out.size)) hbrf))
        (have HXE : Hid (RowB (w6.drew.setCells (bx + 1 + 1) 0 [.slice (some ⟨g1, 0, none⟩) s.sl.length cs, .slice A8 m1.length c8, .slice Al s.rd.length cl]) bx 57 [.slice (some ⟨g1, 0, none⟩) s.sl.length cs, .slice A8 m1.length c8, .slice Al s.rd.length cl]) := Lib.hid ((HXf.out.low (BelD w6) HXf.out.lt).nes hnef 0 _))
        refine hK.out _ _ ?_ (fun hHeld => ?_)
        · exact ⟨HXE.out.cell 0, HXE.out.cell 1, HXE.out.cell 2⟩
        clear hK K
        (try simp only [Act.put, List.setIfInBounds_toArray, List.set_cons_zero, List.set_cons_succ])
        refine wpAnyH_take (i := 4) (oi := ⟨some 7, _, _, _, _, _⟩) (v := ?_) rfl (by kernel_rfl) (by kernel_rfl) (by kernel_rfl) (fun _ _ _ h => h) (Or.inl ⟨by rfl, fun w' hSw => ?_⟩) (by assumption) ?_
        rotate_left
        · (try dsimp only at hSw); go_simp; (try with_reducible rfl)
        (try simp only [Act.put, List.setIfInBounds_toArray, List.set_cons_zero, List.set_cons_succ])
        refine wpAnyH_done (by kernel_rfl) ?_ _
        go_wp2_with (at_builtin; fail)
        refine bodyPost_ret (res_s1 (p := 6) (u := 7) (ty := 57) rfl _ _ (bx + 1 + 1) 57 _ (0, 0) _ rfl HEN.out.1 Tryz.underlying57 rfl rfl) rfl ?_
        exact ⟨_, _, _, by rw [HRES.out]; rfl, by rw [HRES.out]; exact HEN.out.2.1, HEN.out.2.2⟩
    · have HOPP : Hid (x.op = 4 ∨ x.op = 5) := Lib.hid (.inr hop5)
      obtain ⟨m2, qz, qy, code2, hl2⟩ : ∃ m2 qz qy code2, lendP s.ce pc pt true = (m2, (qz, qy), code2) := ⟨_, _, _, _, rfl⟩
      have OKM2 : Hid (okM m2) := Lib.hid (by have := OK.out.ce.lend pc pt true; rwa [hl2] at this)
      have HLE : Hid (lendP s.ce (slAt s.sl x.y.toNat).pc (slAt s.sl x.y.toNat).pt (x.op == 5) = (m2, (qz, qy), code2)) := Lib.hid (by rw [HLP.out, hop5]; exact hl2)
      have HNC2 : Hid (∀ wz : World, Below W.heap.size W wz → Calls Tryz.prog 110 #[.slice Ac s.ce.length cc, .agg #[.int .i64 (pc : Nat), .int .i64 (pt : Nat)]] wz fun e w' => ∃ v, e = .returned (.tuple #[v, .agg #[.int .i64 (qz : Nat), .int .i64 (qy : Nat)], .int .i64 code2]) ∧ MeS w' base v m2 ∧ Below wz.heap.size wz w') := Lib.hid fun wz hw => (sBorrowCell_any _ s.ce pc pt base wz (H1.out.ce.bel hw) OK.out.ce).mono (by
        rw [hl2]
        rintro e w' ⟨v, rfl, k1, k2⟩
        exact ⟨v, rfl, k1.base (Nat.le_trans hbW hw.size), k2⟩)
      obtain ⟨A7, c7, rfl, -⟩ := HM5.out.slice
      rw [hop5] at p0
      clear hop5
      clear hl2
      go_upto_region 3 with (at_builtin; fail)
      clear p0
      generalize wc = w5 at *
      have HB5d := Lib.hid (HB5.out.trans ((BelD w5).mono HB5.out.size))
      go_cut [8, 10] from 28 to 41 (fun s8 s10 wx => s10 = .int .i64 code2 ∧ Below W.heap.size W wx ∧ RowB wx bz 77 [.int .i64 (qz : Nat), .int .i64 (qy : Nat)] ∧ MeS wx base s8 m2)
      case first =>
        refine wp_region_held_drew (S := (fun w' => w'.cell? ⟨bx, 0, none⟩ = some (.slice (some ⟨g1, 0, none⟩) s.sl.length cs) ∧ w'.cell? ⟨bx, 1, none⟩ = some (.slice Ac s.ce.length cc) ∧ w'.cell? ⟨g1, u * 4 + 2, none⟩ = some (.int .i64 (pc : Nat)) ∧ w'.cell? ⟨g1, u * 4 + 3, none⟩ = some (.int .i64 (pt : Nat)) ∧ w'.cell? ⟨bx + 1, 2, none⟩ = some (.int .i64 (u : Nat)) ∧ Below W.heap.size W w')) (by kernel_rfl) ?_ (fun hHeld => ?_)
        · exact ⟨(HB5d.out.cell (p := ⟨bx, 0, none⟩) hxl).trans c0, (HB5d.out.cell (p := ⟨bx, 1, none⟩) hxl).trans c1, (HB5d.out.cell (p := ⟨g1, u * 4 + 2, none⟩) hgl1).trans u2, (HB5d.out.cell (p := ⟨g1, u * 4 + 3, none⟩) hgl1).trans u3, (HB5d.out.cell (p := ⟨bx + 1, 2, none⟩) hpl).trans p2, HB5d.out⟩
        refine wpAnyH_take (i := 0) (oi := ⟨some 29, _, _, _, _, _⟩) (v := ?_) rfl (by kernel_rfl) (by kernel_rfl) (by kernel_rfl) (fun _ _ _ h => h) (Or.inl ⟨by rfl, fun w' hSw => ?_⟩) (by assumption) ?_
        rotate_left
        · (try dsimp only at hSw); go_simp; (try with_reducible rfl)
        (try simp only [Act.put, List.setIfInBounds_toArray, List.set_cons_zero, List.set_cons_succ])
        refine wpAnyH_take (i := 1) (oi := ⟨some 30, _, _, _, _, _⟩) (v := ?_) rfl (by kernel_rfl) (by kernel_rfl) (by kernel_rfl) (fun _ _ _ h => h) (Or.inl ⟨by rfl, fun w' hSw => ?_⟩) (by assumption) ?_
        rotate_left
        · (try dsimp only at hSw); go_simp; (try with_reducible rfl)
        (try simp only [Act.put, List.setIfInBounds_toArray, List.set_cons_zero, List.set_cons_succ])
        refine wpAnyH_take (i := 2) (oi := ⟨some 31, _, _, _, _, _⟩) (v := ?_) rfl (by kernel_rfl) (by kernel_rfl) (by kernel_rfl) (fun _ _ _ h => h) (Or.inl ⟨by rfl, fun w' hSw => ?_⟩) (by assumption) ?_
        rotate_left
        · (try dsimp only at hSw); go_simp; (try with_reducible rfl)
        (try simp only [Act.put, List.setIfInBounds_toArray, List.set_cons_zero, List.set_cons_succ])
        refine wpAnyH_take (i := 3) (oi := ⟨some 32, _, _, _, _, _⟩) (v := ?_) rfl (by kernel_rfl) (by kernel_rfl) (by kernel_rfl) (fun _ _ _ h => h) (Or.inl ⟨by rfl, fun w' hSw => ?_⟩) (by assumption) ?_
        rotate_left
        · (try dsimp only at hSw); go_simp; (try with_reducible rfl)
        (try simp only [Act.put, List.setIfInBounds_toArray, List.set_cons_zero, List.set_cons_succ])
        refine wpAnyH_take (i := 4) (oi := ⟨some 33, _, _, _, _, _⟩) (v := ?_) rfl (by kernel_rfl) (by kernel_rfl) (by kernel_rfl) (fun _ _ _ h => h) (Or.inl ⟨by rfl, fun w' hSw => ?_⟩) (by assumption) ?_
        rotate_left
        · (try dsimp only at hSw); go_simp; (try with_reducible rfl)
        (try simp only [Act.put, List.setIfInBounds_toArray, List.set_cons_zero, List.set_cons_succ])
        refine wpAnyH_take (i := 5) (oi := ⟨some 34, _, _, _, _, _⟩) (v := ?_) rfl (by kernel_rfl) (by kernel_rfl) (by kernel_rfl) (fun _ _ _ h => h) (Or.inl ⟨by rfl, fun w' hSw => ?_⟩) (by assumption) ?_
        rotate_left
        · (try dsimp only at hSw); go_simp; (try with_reducible rfl)
        (try simp only [Act.put, List.setIfInBounds_toArray, List.set_cons_zero, List.set_cons_succ])
        refine wpAnyH_take (i := 6) (oi := ⟨some 35, _, _, _, _, _⟩) (v := ?_) rfl (by kernel_rfl) (by kernel_rfl) (by kernel_rfl) (fun _ _ _ h => h) (Or.inl ⟨by rfl, fun w' hSw => ?_⟩) (by assumption) ?_
        rotate_left
        · (try dsimp only at hSw); go_simp; (try with_reducible rfl)
        (try simp only [Act.put, List.setIfInBounds_toArray, List.set_cons_zero, List.set_cons_succ])
        refine wpAnyH_take (i := 7) (oi := ⟨some 36, _, _, _, _, _⟩) (v := ?_) rfl (by kernel_rfl) (by kernel_rfl) (by kernel_rfl) (fun _ _ _ h => h) (Or.inl ⟨by rfl, fun w' hSw => ?_⟩) (by assumption) ?_
        rotate_left
        · (try dsimp only at hSw); go_simp; (try with_reducible rfl)
        (try simp only [Act.put, List.setIfInBounds_toArray, List.set_cons_zero, List.set_cons_succ])
        refine wpAnyH_take (i := 8) (oi := ⟨some 37, _, _, _, _, _⟩) (v := ?_) rfl (by kernel_rfl) (by kernel_rfl) (by kernel_rfl) (fun _ _ _ h => h) (Or.inl ⟨by rfl, fun w' hSw => ?_⟩) (by assumption) ?_
        rotate_left
        · (try dsimp only at hSw); go_simp; (try with_reducible rfl)
        (try simp only [Act.put, List.setIfInBounds_toArray, List.set_cons_zero, List.set_cons_succ])
        refine wpAnyH_ready (rs := [9]) (by kernel_rfl) (by simp) ?_
        refine (AllReadyH.cons (o := ⟨some 38, _, _, _, _, _⟩) rfl (fun K hK => ?_) AllReadyH.nil)
        go_simp
        (refine (HNC2.out _ HB5d.out).mono ?_)
        (rintro e w12 ⟨v11, rfl, hm11, hb11⟩)
        (have HB12 := Lib.hid (HB5d.out.trans (hb11.mono HB5d.out.size)))
        (have HZ12 := Lib.hid ((show RowB w5.drew bz 77 _ from HZ5.out).low hb11 HZ5.out.lt))
        (have HM12 := Lib.hid hm11)
        clear hm11 hb11
        (have r0 := HZ12.out.cell 0)
        (have r1 := HZ12.out.cell 1)
        (have rf0 := HZ12.out.frozen 0)
        (have rf1 := HZ12.out.frozen 1)
        (simp only [List.getElem?_cons_zero, List.getElem?_cons_succ] at r0 r1)
        go_simp
        refine hK.out _ _ ?_ (fun hHeld => ?_)
        · exact ⟨(HB12.out.cell (p := ⟨bx, 0, none⟩) hxl).trans c0, (HB12.out.cell (p := ⟨bx, 1, none⟩) hxl).trans c1, (HB12.out.cell (p := ⟨g1, u * 4 + 2, none⟩) hgl1).trans u2, (HB12.out.cell (p := ⟨g1, u * 4 + 3, none⟩) hgl1).trans u3, (HB12.out.cell (p := ⟨bx + 1, 2, none⟩) hpl).trans p2, HB12.out⟩
        clear hK K
        (try simp only [Act.put, List.setIfInBounds_toArray, List.set_cons_zero, List.set_cons_succ])
        refine wpAnyH_take (i := 10) (oi := ⟨some 28, _, _, _, _, _⟩) (v := ?_) rfl (by kernel_rfl) (by kernel_rfl) (by kernel_rfl) (fun _ _ _ h => h) (Or.inl ⟨by rfl, fun w' hSw => ?_⟩) (by assumption) ?_
        rotate_left
        · (try dsimp only at hSw); go_simp; (try with_reducible rfl)
        (try simp only [Act.put, List.setIfInBounds_toArray, List.set_cons_zero, List.set_cons_succ])
        refine wpAnyH_take (i := 11) (oi := ⟨some 39, _, _, _, _, _⟩) (v := ?_) rfl (by kernel_rfl) (by kernel_rfl) (by kernel_rfl) (fun _ _ _ h => h) (Or.inl ⟨by rfl, fun w' hSw => ?_⟩) (by assumption) ?_
        rotate_left
        · (try dsimp only at hSw); go_simp; (try with_reducible rfl)
        (try simp only [Act.put, List.setIfInBounds_toArray, List.set_cons_zero, List.set_cons_succ])
        refine wpAnyH_take (i := 12) (oi := ⟨some 40, _, _, _, _, _⟩) (v := ?_) rfl (by kernel_rfl) (by kernel_rfl) (by kernel_rfl) (fun _ _ _ h => h) (Or.inl ⟨by rfl, fun w' hSw => ?_⟩) (by assumption) ?_
        rotate_left
        · (try dsimp only at hSw); go_simp; (try with_reducible rfl)
        (try simp only [Act.put, List.setIfInBounds_toArray, List.set_cons_zero, List.set_cons_succ])
        refine wpAnyH_take (i := 13) (oi := ⟨some 41, _, _, _, _, _⟩) (v := ?_) rfl (by kernel_rfl) (by kernel_rfl) (by kernel_rfl) (fun _ _ _ h => h) (Or.inl ⟨by rfl, fun w' hSw => ?_⟩) (by assumption) ?_
        rotate_left
        · (try dsimp only at hSw); go_simp; (try with_reducible rfl)
        (try simp only [Act.put, List.setIfInBounds_toArray, List.set_cons_zero, List.set_cons_succ])
        refine wpAnyH_take (i := 14) (oi := ⟨some 8, _, _, _, _, _⟩) (v := ?_) rfl (by kernel_rfl) (by kernel_rfl) (by kernel_rfl) (fun _ _ _ h => h) (Or.inl ⟨by rfl, fun w' hSw => ?_⟩) (by assumption) ?_
        rotate_left
        · (try dsimp only at hSw); go_simp; (try with_reducible rfl)
        (try simp only [Act.put, List.setIfInBounds_toArray, List.set_cons_zero, List.set_cons_succ])
        refine wpAnyH_ready (rs := [15]) (by kernel_rfl) (by simp) ?_
        refine (AllReadyH.cons (o := ⟨none, _, _, _, _, _⟩) rfl (fun K hK => ?_) AllReadyH.nil)
        go_simp
        (have HB13 := Lib.hid (show Below W.heap.size W (w12.setCells bz 0 [.int .i64 (qz : Nat), .int .i64 (qy : Nat)]) from belSets HB12.out hbz 0 _))
        (have HZ13 := Lib.hid (show RowB (w12.setCells bz 0 [.int .i64 (qz : Nat), .int .i64 (qy : Nat)]) bz 77 [.int .i64 (qz : Nat), .int .i64 (qy : Nat)] from HZ12.out.putAll [.int .i64 (qz : Nat), .int .i64 (qy : Nat)] rfl))
        (have HM13 := Lib.hid (show MeS (w12.setCells bz 0 [.int .i64 (qz : Nat), .int .i64 (qy : Nat)]) base v11 m2 from HM12.out.kpu (KpU.ps HZ12.out _)))
        refine hK.out _ _ ?_ (fun hHeld => ?_)
        · exact ⟨(HB13.out.cell (p := ⟨bx, 0, none⟩) hxl).trans c0, (HB13.out.cell (p := ⟨bx, 1, none⟩) hxl).trans c1, (HB13.out.cell (p := ⟨g1, u * 4 + 2, none⟩) hgl1).trans u2, (HB13.out.cell (p := ⟨g1, u * 4 + 3, none⟩) hgl1).trans u3, (HB13.out.cell (p := ⟨bx + 1, 2, none⟩) hpl).trans p2, HB13.out⟩
        clear hK K
        (try simp only [Act.put, List.setIfInBounds_toArray, List.set_cons_zero, List.set_cons_succ])
        refine wpAnyH_take (i := 16) (oi := ⟨some 10, _, _, _, _, _⟩) (v := ?_) rfl (by kernel_rfl) (by kernel_rfl) (by kernel_rfl) (fun _ _ _ h => h) (Or.inl ⟨by rfl, fun w' hSw => ?_⟩) (by assumption) ?_
        rotate_left
        · (try dsimp only at hSw); go_simp; (try with_reducible rfl)
        (try simp only [Act.put, List.setIfInBounds_toArray, List.set_cons_zero, List.set_cons_succ])
        refine wpAnyH_done (by kernel_rfl) ?_ _
        go_wp2_with (at_builtin; fail)
        go_meet
        exact ⟨rfl, HB13.out, HZ13.out, HM13.out⟩
      case rest =>
        obtain ⟨rfl, hb5, hrow, hme⟩ := hcut
        clear HB5 HZ5 HM5 HB5d HNC2
        have HB5 := Lib.hid hb5
        have HZ5 := Lib.hid hrow
        have HM5 := Lib.hid hme
        clear hb5 hrow hme
        obtain ⟨A8, c8, rfl, -⟩ := HM5.out.slice
        have HC5 := Lib.hid (HC.out.low HB5.out hxl)
        have HP5 := Lib.hid (HP.out.low HB5.out hpl)
        have HR5 := Lib.hid (HR.out.low HB5.out hrl)
        have H5 := Lib.hid (H1.out.bel HB5.out)
        have HBwc := Lib.hid (HB0.out.trans (HB5.out.mono HB0.out.size))
        clear c0 c1 u2 u3 p2
        have c1 := HC5.out.cell 1
        have f1 := HC5.out.frozen 1
        simp only [List.getElem?_cons_zero, List.getElem?_cons_succ] at c1
        go_upto_region 5 with (at_builtin; fail)
        have HC6 : Hid (RowB (wc.setCell ⟨bx, 1, none⟩ (.slice A8 m2.length c8)) bx 57 [.slice (some ⟨g1, 0, none⟩) s.sl.length cs, .slice A8 m2.length c8, .slice Al s.rd.length cl]) := Lib.hid (HC5.out.set_ 1 (.slice A8 m2.length c8))
        have HR6 := Lib.hid (HR5.out.ne_ (show bx + 1 + 1 ≠ bx by omega) 1 (.slice A8 m2.length c8))
        have HZ6 := Lib.hid (HZ5.out.ne_ (show bz ≠ bx by omega) 1 (.slice A8 m2.length c8))
        have HKU := Lib.hid (KpU.s1 HC5.out 1 (.slice A8 m2.length c8))
        have HP6 := Lib.hid (HP5.out.kpu HKU.out (by decide) (by decide))
        have HS6 : Hid (SpS (wc.setCell ⟨bx, 1, none⟩ (.slice A8 m2.length c8)) base (.slice (some ⟨g1, 0, none⟩) s.sl.length cs) (.slice A8 m2.length c8) (.slice Al s.rd.length cl) ⟨s.sl, m2, s.rd⟩) := Lib.hid ⟨H5.out.sl.kpu HKU.out, HM5.out.kpu HKU.out, H5.out.rd.kpu HKU.out⟩
        have HB6 := Lib.hid (belSet1 HBwc.out hwx 1 (.slice A8 m2.length c8))
        clear c1 f1 HKU
        generalize wc.setCell ⟨bx, 1, none⟩ (.slice A8 m2.length c8) = w6 at *
        by_cases hcode : code2 = 0
        · subst hcode
          have HD := Lib.hid (doP_45 HUN.out HOPP.out HLE.out)
          obtain ⟨R, hR⟩ : ∃ R, R = putP ts ⟨s.sl, m2, s.rd⟩ v ⟨true, 0, qz, qy⟩ := ⟨_, rfl⟩
          have HRR := Lib.hid hR
          have HRES : Hid (doP ts s x = R) := Lib.hid (by rw [HD.out, hxv, Int.toNat_natCast, hR])
          have HOK6 : Hid (MsOk ts ⟨s.sl, m2, s.rd⟩) := Lib.hid ⟨OKM2.out, OK.out.ln⟩
          clear hR HD
          have c0 := HC6.out.cell 0
          have c1 := HC6.out.cell 1
          have c2 := HC6.out.cell 2
          have p1 := HP6.out.cell 1
          have z0 := HZ6.out.cell 0
          have z1 := HZ6.out.cell 1
          simp only [List.getElem?_cons_zero, List.getElem?_cons_succ] at c0 c1 c2 p1 z0 z1
          go_wp2_with (at_builtin; fail)
          refine (l7Put_any _ _ _ _ ts ⟨s.sl, m2, s.rd⟩ ⟨true, 0, qz, qy⟩ base v B w6 (HT.out.low HB6.out hB) (Nat.le_trans hB HB6.out.size) HS6.out (Nat.le_trans hb HB6.out.size) HOK6.out hvl h6).mono ?_
          rw [← HRR.out]
          rintro e wz ⟨vs9, vc9, vl9, rfl, hs9, hb9⟩
          have HS9 := Lib.hid hs9
          have HB9 := Lib.hid hb9
          obtain ⟨A9a, c9a, rfl, -⟩ := hs9.sl.slice
          obtain ⟨A9b, c9b, rfl, -⟩ := hs9.ce.slice
          obtain ⟨A9c, c9c, rfl, -⟩ := hs9.rd.slice
          have HRz := Lib.hid (HR6.out.low HB9.out HR6.out.lt)
          have rz0 := HRz.out.cell 0
          have rz1 := HRz.out.cell 1
          have rz2 := HRz.out.cell 2
          simp only [List.getElem?_cons_zero, List.getElem?_cons_succ] at rz0 rz1 rz2
          have fz0 := HRz.out.frozen 0
          have fz1 := HRz.out.frozen 1
          have fz2 := HRz.out.frozen 2
          clear hs9 hb9
          go_wp2_with (at_builtin; fail)
          have HEN := Lib.hid (sp_end HRz.out rfl HS9.out (HB6.out.trans (HB9.out.mono HB6.out.size)) hbr)
          refine bodyPost_ret (res_s1 (p := 6) (u := 7) (ty := 57) rfl _ _ (bx + 1 + 1) 57 _ (0, 0) _ rfl HEN.out.1 Tryz.underlying57 rfl rfl) rfl ?_
          exact ⟨_, _, _, by rw [HRES.out]; rfl, by rw [HRES.out]; exact HEN.out.2.1, HEN.out.2.2⟩
        · have HRES : Hid (doP ts s x = (⟨s.sl, m2, s.rd⟩, endO code2)) := Lib.hid (by rw [doP_45n HUN.out HOPP.out HLE.out hcode]; unfold endO; rw [if_neg hcode])
          have qc : (code2 != 0) = true := by simpa using hcode
          clear hcode
          go_upto_region 6 with (at_builtin; fail)
          have HXf := HC6
          have HRf := HR6
          have HSf := HS6
          have HBf := HB6
          have hbrf := hbr
          have hnef : bx ≠ bx + 1 + 1 := by omega
          have y0 := HXf.out.cell 0
          have y1 := HXf.out.cell 1
          have y2 := HXf.out.cell 2
          simp only [List.getElem?_cons_zero, List.getElem?_cons_succ] at y0 y1 y2
          have rf0 := HRf.out.frozen 0
          have rf1 := HRf.out.frozen 1
          have rf2 := HRf.out.frozen 2
          have r0 := HRf.out.cell 0
          have r1 := HRf.out.cell 1
          have r2 := HRf.out.cell 2
          simp only [List.getElem?_cons_zero, List.getElem?_cons_succ] at r0 r1 r2
          refine wp_region_held_drew (S := (fun w' => w'.cell? ⟨bx, 0, none⟩ = some (.slice (some ⟨g1, 0, none⟩) s.sl.length cs) ∧ w'.cell? ⟨bx, 1, none⟩ = some (.slice A8 m2.length c8) ∧ w'.cell? ⟨bx, 2, none⟩ = some (.slice Al s.rd.length cl))) (by kernel_rfl) ?_ (fun hHeld => ?_)
          · exact ⟨y0, y1, y2⟩
          refine wpAnyH_take (i := 0) (oi := ⟨some 46, _, _, _, _, _⟩) (v := ?_) rfl (by kernel_rfl) (by kernel_rfl) (by kernel_rfl) (fun _ _ _ h => h) (Or.inl ⟨by rfl, fun w' hSw => ?_⟩) (by assumption) ?_
          rotate_left
          · (try dsimp only at hSw); go_simp; (try with_reducible rfl)
          (try simp only [Act.put, List.setIfInBounds_toArray, List.set_cons_zero, List.set_cons_succ])
          refine wpAnyH_take (i := 1) (oi := ⟨some 47, _, _, _, _, _⟩) (v := ?_) rfl (by kernel_rfl) (by kernel_rfl) (by kernel_rfl) (fun _ _ _ h => h) (Or.inl ⟨by rfl, fun w' hSw => ?_⟩) (by assumption) ?_
          rotate_left
          · (try dsimp only at hSw); go_simp; (try with_reducible rfl)
          (try simp only [Act.put, List.setIfInBounds_toArray, List.set_cons_zero, List.set_cons_succ])
          refine wpAnyH_ready (rs := [2]) (by kernel_rfl) (by simp) ?_
          refine (AllReadyH.cons (o := ⟨some 48, _, _, _, _, _⟩) rfl (fun K hK => ?_) AllReadyH.nil)
          go_simp
          (refine (l7Code_any code2 _).mono ?_)
          (rintro e wz ⟨rfl, rfl⟩)
          go_simp
          refine hK.out _ _ ?_ (fun hHeld => ?_)
          · exact ⟨y0, y1, y2⟩
          clear hK K
          (try simp only [Act.put, List.setIfInBounds_toArray, List.set_cons_zero, List.set_cons_succ])
          refine wpAnyH_ready (rs := [3]) (by kernel_rfl) (by simp) ?_
          refine (AllReadyH.cons (o := ⟨none, _, _, _, _, _⟩) rfl (fun K hK => ?_) AllReadyH.nil)
          go_simp
          (have HEN := Lib.hid (sp_end (HRf.out.low (BelD w6) HRf.out.lt) rfl (HSf.out.bel (BelD w6)) (HBf.out.trans ((BelD w6).mono HBf.out.size)) hbrf))
          (have HXE : Hid (RowB (w6.drew.setCells (bx + 1 + 1) 0 [.slice (some ⟨g1, 0, none⟩) s.sl.length cs, .slice A8 m2.length c8, .slice Al s.rd.length cl]) bx 57 [.slice (some ⟨g1, 0, none⟩) s.sl.length cs, .slice A8 m2.length c8, .slice Al s.rd.length cl]) := Lib.hid ((HXf.out.low (BelD w6) HXf.out.lt).nes hnef 0 _))
          refine hK.out _ _ ?_ (fun hHeld => ?_)
          · exact ⟨HXE.out.cell 0, HXE.out.cell 1, HXE.out.cell 2⟩
          clear hK K
          (try simp only [Act.put, List.setIfInBounds_toArray, List.set_cons_zero, List.set_cons_succ])
          refine wpAnyH_take (i := 4) (oi := ⟨some 7, _, _, _, _, _⟩) (v := ?_) rfl (by kernel_rfl) (by kernel_rfl) (by kernel_rfl) (fun _ _ _ h => h) (Or.inl ⟨by rfl, fun w' hSw => ?_⟩) (by assumption) ?_
          rotate_left
          · (try dsimp only at hSw); go_simp; (try with_reducible rfl)
          (try simp only [Act.put, List.setIfInBounds_toArray, List.set_cons_zero, List.set_cons_succ])
          refine wpAnyH_done (by kernel_rfl) ?_ _
          go_wp2_with (at_builtin; fail)
          refine bodyPost_ret (res_s1 (p := 6) (u := 7) (ty := 57) rfl _ _ (bx + 1 + 1) 57 _ (0, 0) _ rfl HEN.out.1 Tryz.underlying57 rfl rfl) rfl ?_
          exact ⟨_, _, _, by rw [HRES.out]; rfl, by rw [HRES.out]; exact HEN.out.2.1, HEN.out.2.2⟩

end Go.Proofs.YtfioaohadanjmaaGreat
