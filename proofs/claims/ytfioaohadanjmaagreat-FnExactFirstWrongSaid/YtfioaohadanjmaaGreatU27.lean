import Derived.Test.YtfioaohadanjmaaGreatU23
import Derived.Test.YtfioaohadanjmaaGreatU20
import Derived.Deep.LoopGhost
import Derived.Test.YtfioaohadanjmaaGreatU06
import Derived.Test.YtfioaohadanjmaaGreatU13
import Derived.Laws.OwnMore
import Derived.ArgAppend
set_option linter.unusedVariables false

/- spec.l7End. -/
namespace Go.Proofs.YtfioaohadanjmaaGreat
open Go.RowKit Go.Lib

set_option maxHeartbeats 16000000 in
set_option maxRecDepth 100000 in
theorem l7End_any (vt vs vc vl : Value) (ts : List Int) (s : Ms) (base B : Nat) (w : World) (ht : IntS w B vt ts) (hB : B ≤ w.heap.size) (h : SpS w base vs vc vl s) (hb : base ≤ w.heap.size) (hok : MsOk ts s) (h6 : ts.length ≤ 6) :
    Calls Tryz.prog 60 #[vt, .agg #[vs, vc, vl]] w (SpRet w base (finP ts ts.length 0 s)) := by
  have HT := Lib.hid ht
  have H := Lib.hid h
  have OK := Lib.hid hok
  obtain ⟨At, ct, rfl, hct, -, -⟩ := ht
  obtain ⟨k1, k2, k3⟩ := two_boxes w [vs, vc, vl] [.slice none 0 0, .slice none 0 0, .slice none 0 0] 57 57
  have HC := Lib.hid k1
  have HR := Lib.hid k2
  have HB0 := Lib.hid k3
  obtain ⟨A0, c0', rfl, -⟩ := h.sl.slice
  obtain ⟨A1, c1', rfl, -⟩ := h.ce.slice
  obtain ⟨A2, c2', rfl, -⟩ := h.rd.slice
  clear h hok k1 k2 k3
  go_enter Tryz.func60, Tryz.ntmps60
  go_upto_region 1 with (at_builtin; fail)
  generalize (w.alloc (.cells #[.slice A0 s.sl.length c0', .slice A1 s.ce.length c1', .slice A2 s.rd.length c2'] 57)).alloc (.cells #[.slice none 0 0, .slice none 0 0, .slice none 0 0] 57) = W at *
  obtain ⟨bx, hbx⟩ : ∃ bx, bx = w.heap.size := ⟨_, rfl⟩
  rw [← hbx] at HC HR ⊢
  have hbr : w.heap.size ≤ bx + 1 := by omega
  have hwx : w.heap.size ≤ bx := by omega
  have HBX := Lib.hid hbx
  clear hbx
  have H1 := Lib.hid (H.out.bel HB0.out)
  go_wp2_with (at_builtin; fail)
  go_loopg [6, 7, 8] (ts.length + 1) (fun gk i a7 a8 wr => ∃ (k : Nat) (vs' vc' vl' : Value) (s' : Ms), k ≤ ts.length ∧ i = .int .i64 k ∧ RowB wr bx 57 [vs', vc', vl'] ∧ RowB wr (bx + 1) 57 [.slice none 0 0, .slice none 0 0, .slice none 0 0] ∧ SpS wr base vs' vc' vl' s' ∧ MsOk ts s' ∧ finP ts (ts.length - k) k s' = finP ts ts.length 0 s ∧ Below w.heap.size w wr ∧ ts.length - k < gk)
  case atStart => exact ⟨0, _, _, _, s, Nat.zero_le _, rfl, HC.out, HR.out, H1.out, OK.out, rfl, HB0.out, by omega⟩
  case round =>
    obtain ⟨k, vs', vc', vl', s', hk, rfl, hc, hr, hs, hok, hf, hbw, hgk⟩ := hrel
    have HCW := Lib.hid hc
    have HRW := Lib.hid hr
    have HSW := Lib.hid hs
    have OKW := Lib.hid hok
    have HF := Lib.hid hf
    have HBW := Lib.hid hbw
    have hsw := hbw.size
    have HLN : Hid (s'.sl.length = ts.length) := Lib.hid hok.ln
    have hxl := hc.lt
    have hrl := hr.lt
    obtain ⟨As, cs, rfl, hcs⟩ := hs.sl.slice
    obtain ⟨Ac, cc, rfl, hcc⟩ := hs.ce.slice
    obtain ⟨Al, cl, rfl, hcl⟩ := hs.rd.slice
    have c0 := hc.cell 0
    have c1 := hc.cell 1
    have c2 := hc.cell 2
    simp only [List.getElem?_cons_zero, List.getElem?_cons_succ] at c0 c1 c2
    clear hc hr hok hf hbw
    by_cases hlt : k < ts.length
    · have hks : k < s'.sl.length := by rw [HLN.out]; exact hlt
      have htw := HT.out.low HBW.out hB
      obtain ⟨At', ct', e, -, -, hrt⟩ := htw
      injection e with e1 e9 e2
      clear e9
      subst e1 e2
      obtain ⟨bt, ot, rfl, hbt, htc⟩ := hrt.int_at (show 0 < ts.length by omega)
      have t0 := htc k hlt
      obtain ⟨g1, rfl, hg1, hgl1, u0, u1, u2, u3, -⟩ := hs.sl.at_ hks
      obtain ⟨ty, hty⟩ : ∃ ty, ty = ts.getD k 0 := ⟨_, rfl⟩
      rw [← hty] at t0
      obtain ⟨st, hst⟩ : ∃ st, st = s'.sl[k].set := ⟨_, rfl⟩
      rw [← hst] at u0
      obtain ⟨pc, hpc⟩ : ∃ pc, pc = s'.sl[k].pc := ⟨_, rfl⟩
      rw [← hpc] at u2
      obtain ⟨pt, hpt⟩ : ∃ pt, pt = s'.sl[k].pt := ⟨_, rfl⟩
      rw [← hpt] at u3
      have HTY := Lib.hid hty
      have HAT : Hid (slAt s'.sl k = s'.sl[k]) := Lib.hid (slAt_get hks)
      have HST : Hid ((slAt s'.sl k).set = st) := Lib.hid (by rw [HAT.out, hst])
      have HPC : Hid ((slAt s'.sl k).pc = pc ∧ (slAt s'.sl k).pt = pt) := Lib.hid (by rw [HAT.out, hpc, hpt]; exact ⟨rfl, rfl⟩)
      have HNK : Hid (ts.length - k = (ts.length - (k + 1)) + 1) := Lib.hid (by omega)
      clear hs htc hrt hty hst hpc hpt u1
      by_cases hcond : ty = 2 ∧ st = true
      · obtain ⟨rfl, rfl⟩ := hcond
        have HCN : Hid (ts.getD k 0 = 2 ∧ (slAt s'.sl k).set = true) := Lib.hid ⟨HTY.out.symm, HST.out⟩
        obtain ⟨ce', code, hfp⟩ : ∃ ce' code, freeP s'.ce pc pt = (ce', code) := ⟨_, _, rfl⟩
        have HFP : Hid (freeP s'.ce (slAt s'.sl k).pc (slAt s'.sl k).pt = (ce', code)) := Lib.hid (by rw [HPC.out.1, HPC.out.2]; exact hfp)
        have HFR := Lib.hid (fun (wz : World) (hz : Below wr.heap.size wr wz) => sFreeCell_any _ s'.ce pc pt base wz (HSW.out.ce.bel hz) OKW.out.ce)
        have OKC : Hid (okM ce') := Lib.hid (by have := OKW.out.ce.free pc pt; rwa [hfp] at this)
        rw [hfp] at HFR
        clear hfp HTY HST HPC HAT
        go_wp2_with (at_builtin; fail)
        refine wp_region_held_drew (S := (fun w' => w'.cell? ⟨bx, 0, none⟩ = some (.slice (some ⟨g1, 0, none⟩) s'.sl.length cs) ∧ w'.cell? ⟨bx, 1, none⟩ = some (.slice Ac s'.ce.length cc) ∧ w'.cell? ⟨g1, k * 4 + 2, none⟩ = some (.int .i64 (pc : Nat)) ∧ w'.cell? ⟨g1, k * 4 + 3, none⟩ = some (.int .i64 (pt : Nat)) ∧ Below wr.heap.size wr w')) (by kernel_rfl) ?_ (fun hHeld => ?_)
        · exact ⟨c0, c1, u2, u3, BelD wr⟩
        refine wpAnyH_take (i := 0) (oi := ⟨some 30, _, _, _, _, _⟩) (v := ?_) rfl (by kernel_rfl) (by kernel_rfl) (by kernel_rfl) (fun _ _ _ h => h) (Or.inl ⟨by rfl, fun w' hSw => ?_⟩) (by assumption) ?_
        rotate_left
        · (try dsimp only at hSw); go_simp; (try with_reducible rfl)
        (try simp only [Act.put, List.setIfInBounds_toArray, List.set_cons_zero, List.set_cons_succ])
        refine wpAnyH_take (i := 1) (oi := ⟨some 31, _, _, _, _, _⟩) (v := ?_) rfl (by kernel_rfl) (by kernel_rfl) (by kernel_rfl) (fun _ _ _ h => h) (Or.inl ⟨by rfl, fun w' hSw => ?_⟩) (by assumption) ?_
        rotate_left
        · (try dsimp only at hSw); go_simp; (try with_reducible rfl)
        (try simp only [Act.put, List.setIfInBounds_toArray, List.set_cons_zero, List.set_cons_succ])
        refine wpAnyH_take (i := 2) (oi := ⟨some 32, _, _, _, _, _⟩) (v := ?_) rfl (by kernel_rfl) (by kernel_rfl) (by kernel_rfl) (fun _ _ _ h => h) (Or.inl ⟨by rfl, fun w' hSw => ?_⟩) (by assumption) ?_
        rotate_left
        · (try dsimp only at hSw); go_simp; (try with_reducible rfl)
        (try simp only [Act.put, List.setIfInBounds_toArray, List.set_cons_zero, List.set_cons_succ])
        refine wpAnyH_take (i := 3) (oi := ⟨some 33, _, _, _, _, _⟩) (v := ?_) rfl (by kernel_rfl) (by kernel_rfl) (by kernel_rfl) (fun _ _ _ h => h) (Or.inl ⟨by rfl, fun w' hSw => ?_⟩) (by assumption) ?_
        rotate_left
        · (try dsimp only at hSw); go_simp; (try with_reducible rfl)
        (try simp only [Act.put, List.setIfInBounds_toArray, List.set_cons_zero, List.set_cons_succ])
        refine wpAnyH_take (i := 4) (oi := ⟨some 34, _, _, _, _, _⟩) (v := ?_) rfl (by kernel_rfl) (by kernel_rfl) (by kernel_rfl) (fun _ _ _ h => h) (Or.inl ⟨by rfl, fun w' hSw => ?_⟩) (by assumption) ?_
        rotate_left
        · (try dsimp only at hSw); go_simp; (try with_reducible rfl)
        (try simp only [Act.put, List.setIfInBounds_toArray, List.set_cons_zero, List.set_cons_succ])
        refine wpAnyH_take (i := 5) (oi := ⟨some 35, _, _, _, _, _⟩) (v := ?_) rfl (by kernel_rfl) (by kernel_rfl) (by kernel_rfl) (fun _ _ _ h => h) (Or.inl ⟨by rfl, fun w' hSw => ?_⟩) (by assumption) ?_
        rotate_left
        · (try dsimp only at hSw); go_simp; (try with_reducible rfl)
        (try simp only [Act.put, List.setIfInBounds_toArray, List.set_cons_zero, List.set_cons_succ])
        refine wpAnyH_take (i := 6) (oi := ⟨some 36, _, _, _, _, _⟩) (v := ?_) rfl (by kernel_rfl) (by kernel_rfl) (by kernel_rfl) (fun _ _ _ h => h) (Or.inl ⟨by rfl, fun w' hSw => ?_⟩) (by assumption) ?_
        rotate_left
        · (try dsimp only at hSw); go_simp; (try with_reducible rfl)
        (try simp only [Act.put, List.setIfInBounds_toArray, List.set_cons_zero, List.set_cons_succ])
        refine wpAnyH_take (i := 7) (oi := ⟨some 37, _, _, _, _, _⟩) (v := ?_) rfl (by kernel_rfl) (by kernel_rfl) (by kernel_rfl) (fun _ _ _ h => h) (Or.inl ⟨by rfl, fun w' hSw => ?_⟩) (by assumption) ?_
        rotate_left
        · (try dsimp only at hSw); go_simp; (try with_reducible rfl)
        (try simp only [Act.put, List.setIfInBounds_toArray, List.set_cons_zero, List.set_cons_succ])
        refine wpAnyH_ready (rs := [8]) (by kernel_rfl) (by simp) ?_
        refine AllReadyH.cons (o := ⟨some 38, _, _, _, _, _⟩) rfl (fun K hK => ?_) AllReadyH.nil
        go_simp
        (refine (HFR.out _ (BelD wr)).mono ?_)
        (rintro e w9 ⟨v9, rfl, hm9, hb9⟩)
        (have HB9 := Lib.hid ((BelD wr).trans hb9))
        (have HM9 := Lib.hid (show MeS w9 wr.heap.size v9 ce' from hm9))
        (obtain ⟨A9, c9, rfl, -⟩ := hm9.slice)
        clear hm9 hb9
        go_simp
        refine hK.out _ _ ?_ (fun hHeld => ?_)
        · exact ⟨(HB9.out.cell (p := ⟨bx, 0, none⟩) hxl).trans c0, (HB9.out.cell (p := ⟨bx, 1, none⟩) hxl).trans c1, (HB9.out.cell (p := ⟨g1, k * 4 + 2, none⟩) hgl1).trans u2, (HB9.out.cell (p := ⟨g1, k * 4 + 3, none⟩) hgl1).trans u3, HB9.out⟩
        clear hK K
        (try simp only [Act.put, List.setIfInBounds_toArray, List.set_cons_zero, List.set_cons_succ])
        refine wpAnyH_take (i := 9) (oi := ⟨some 29, _, _, _, _, _⟩) (v := ?_) rfl (by kernel_rfl) (by kernel_rfl) (by kernel_rfl) (fun _ _ _ h => h) (Or.inl ⟨by rfl, fun w' hSw => ?_⟩) (by assumption) ?_
        rotate_left
        · (try dsimp only at hSw); go_simp; (try with_reducible rfl)
        (try simp only [Act.put, List.setIfInBounds_toArray, List.set_cons_zero, List.set_cons_succ])
        refine wpAnyH_take (i := 10) (oi := ⟨some 39, _, _, _, _, _⟩) (v := ?_) rfl (by kernel_rfl) (by kernel_rfl) (by kernel_rfl) (fun _ _ _ h => h) (Or.inl ⟨by rfl, fun w' hSw => ?_⟩) (by assumption) ?_
        rotate_left
        · (try dsimp only at hSw); go_simp; (try with_reducible rfl)
        (try simp only [Act.put, List.setIfInBounds_toArray, List.set_cons_zero, List.set_cons_succ])
        refine wpAnyH_take (i := 11) (oi := ⟨some 40, _, _, _, _, _⟩) (v := ?_) rfl (by kernel_rfl) (by kernel_rfl) (by kernel_rfl) (fun _ _ _ h => h) (Or.inl ⟨by rfl, fun w' hSw => ?_⟩) (by assumption) ?_
        rotate_left
        · (try dsimp only at hSw); go_simp; (try with_reducible rfl)
        (try simp only [Act.put, List.setIfInBounds_toArray, List.set_cons_zero, List.set_cons_succ])
        refine wpAnyH_take (i := 12) (oi := ⟨some 7, _, _, _, _, _⟩) (v := ?_) rfl (by kernel_rfl) (by kernel_rfl) (by kernel_rfl) (fun _ _ _ h => h) (Or.inl ⟨by rfl, fun w' hSw => ?_⟩) (by assumption) ?_
        rotate_left
        · (try dsimp only at hSw); go_simp; (try with_reducible rfl)
        (try simp only [Act.put, List.setIfInBounds_toArray, List.set_cons_zero, List.set_cons_succ])
        refine wpAnyH_take (i := 13) (oi := ⟨some 8, _, _, _, _, _⟩) (v := ?_) rfl (by kernel_rfl) (by kernel_rfl) (by kernel_rfl) (fun _ _ _ h => h) (Or.inl ⟨by rfl, fun w' hSw => ?_⟩) (by assumption) ?_
        rotate_left
        · (try dsimp only at hSw); go_simp; (try with_reducible rfl)
        (try simp only [Act.put, List.setIfInBounds_toArray, List.set_cons_zero, List.set_cons_succ])
        refine wpAnyH_done (by kernel_rfl) ?_ _
        have HC9 := Lib.hid (HCW.out.low HB9.out hxl)
        have HR9 := Lib.hid (HRW.out.low HB9.out hrl)
        have HS9 := Lib.hid (HSW.out.bel HB9.out)
        have HB9w := Lib.hid (HBW.out.trans (HB9.out.mono hsw))
        have f1 := HC9.out.frozen 1
        have d1 := HC9.out.cell 1
        simp only [List.getElem?_cons_zero, List.getElem?_cons_succ] at d1
        clear hHeld c0 c1 c2 u0 u2 u3 t0
        go_upto_region 7 with (at_builtin; fail)
        have HC6 : Hid (RowB (w9.setCell ⟨bx, 1, none⟩ (.slice A9 ce'.length c9)) bx 57 [.slice (some ⟨g1, 0, none⟩) s'.sl.length cs, .slice A9 ce'.length c9, .slice Al s'.rd.length cl]) := Lib.hid (HC9.out.set_ 1 (.slice A9 ce'.length c9))
        have HR6 := Lib.hid (HR9.out.ne_ (show bx + 1 ≠ bx by omega) 1 (.slice A9 ce'.length c9))
        have HKU := Lib.hid (KpU.s1 HC9.out 1 (.slice A9 ce'.length c9))
        have HS6 : Hid (SpS (w9.setCell ⟨bx, 1, none⟩ (.slice A9 ce'.length c9)) base (.slice (some ⟨g1, 0, none⟩) s'.sl.length cs) (.slice A9 ce'.length c9) (.slice Al s'.rd.length cl) ⟨s'.sl, ce', s'.rd⟩) := Lib.hid ⟨HS9.out.sl.kpu HKU.out, (HM9.out.base (Nat.le_trans hb hsw)).kpu HKU.out, HS9.out.rd.kpu HKU.out⟩
        have HB6 := Lib.hid (belSet1 HB9w.out hwx 1 (.slice A9 ce'.length c9))
        clear d1 f1 HKU
        generalize w9.setCell ⟨bx, 1, none⟩ (.slice A9 ce'.length c9) = w6 at *
        by_cases hcode : code = 0
        · subst hcode
          have HF2 : Hid (finP ts (ts.length - (k + 1)) (k + 1) ⟨s'.sl.set k slD, ce', s'.rd⟩ = finP ts ts.length 0 s) := Lib.hid (by rw [← HF.out, HNK.out, finP_go HCN.out HFP.out])
          have OK6 : Hid (MsOk ts ⟨s'.sl.set k slD, ce', s'.rd⟩) := Lib.hid ⟨OKC.out, by rw [List.length_set]; exact OKW.out.ln⟩
          have c0 := HC6.out.cell 0
          have c1 := HC6.out.cell 1
          have c2 := HC6.out.cell 2
          simp only [List.getElem?_cons_zero, List.getElem?_cons_succ] at c0 c1 c2
          go_wp2_with (at_builtin; fail)
          refine (l7Clear_any _ _ _ ⟨s'.sl, ce', s'.rd⟩ base k w6 HS6.out (Nat.le_trans hb HB6.out.size) hks (by show s'.sl.length ≤ 1000; have := HLN.out; omega)).mono ?_
          rintro e w7 ⟨vs7, vc7, vl7, rfl, hs7, hb7⟩
          have HB7 := Lib.hid (HB6.out.trans (hb7.mono HB6.out.size))
          have HC7 := Lib.hid (HC6.out.low hb7 HC6.out.lt)
          have HR7 := Lib.hid (HR6.out.low hb7 HR6.out.lt)
          obtain ⟨A7a, c7a, rfl, -⟩ := hs7.sl.slice
          obtain ⟨A7b, c7b, rfl, -⟩ := hs7.ce.slice
          obtain ⟨A7c, c7c, rfl, -⟩ := hs7.rd.slice
          simp only [List.length_set] at hs7 ⊢
          have HS7 : Hid (SpS w7 base (.slice A7a s'.sl.length c7a) (.slice A7b ce'.length c7b) (.slice A7c s'.rd.length c7c) ⟨s'.sl.set k slD, ce', s'.rd⟩) := Lib.hid hs7
          clear hs7 hb7 c0 c1 c2
          have c0 := HC7.out.cell 0
          have c1 := HC7.out.cell 1
          have c2 := HC7.out.cell 2
          simp only [List.getElem?_cons_zero, List.getElem?_cons_succ] at c0 c1 c2
          have f0 := HC7.out.frozen 0
          have f1 := HC7.out.frozen 1
          have f2 := HC7.out.frozen 2
          go_upto_region 3 with (at_builtin; fail)
          rw [set3z]
          have HC8 : Hid (RowB (w7.setCells bx 0 [.slice A7a s'.sl.length c7a, .slice A7b ce'.length c7b, .slice A7c s'.rd.length c7c]) bx 57 [.slice A7a s'.sl.length c7a, .slice A7b ce'.length c7b, .slice A7c s'.rd.length c7c]) := Lib.hid (HC7.out.putAll [.slice A7a s'.sl.length c7a, .slice A7b ce'.length c7b, .slice A7c s'.rd.length c7c] rfl)
          have HR8 := Lib.hid (HR7.out.nes (show bx + 1 ≠ bx by omega) 0 [.slice A7a s'.sl.length c7a, .slice A7b ce'.length c7b, .slice A7c s'.rd.length c7c])
          have HS8 := Lib.hid (HS7.out.kpu (KpU.ss HC7.out [.slice A7a s'.sl.length c7a, .slice A7b ce'.length c7b, .slice A7c s'.rd.length c7c]))
          have HB8 := Lib.hid (belSets HB7.out hwx 0 [.slice A7a s'.sl.length c7a, .slice A7b ce'.length c7b, .slice A7c s'.rd.length c7c])
          clear c0 c1 c2 f0 f1 f2
          generalize w7.setCells bx 0 [.slice A7a s'.sl.length c7a, .slice A7b ce'.length c7b, .slice A7c s'.rd.length c7c] = w8 at *
          go_wp2_with (at_builtin; fail)
          go_roundg (ts.length - k)
          case measure => omega
          case rel => exact ⟨k + 1, _, _, _, _, by omega, by go_num, HC8.out, HR8.out, HS8.out, OK6.out, HF2.out, HB8.out, by omega⟩
        · have HRES : Hid (finP ts ts.length 0 s = (⟨s'.sl, ce', s'.rd⟩, endP code)) := Lib.hid (by rw [← HF.out, HNK.out, finP_stop HCN.out HFP.out hcode])
          have HEC : Hid (endP code = codeV (endO code)) := Lib.hid (by unfold endO; rw [if_neg hcode]; rfl)
          have qc : (code != 0) = true := by simpa using hcode
          clear hcode
          go_upto_region 8 with (at_builtin; fail)
          have HXf := HC6
          have HRf := HR6
          have HSf := HS6
          have HBf := HB6
          have hbrf := hbr
          have hnef : bx ≠ bx + 1 := by omega
          have y0 := HXf.out.cell 0
          have y1 := HXf.out.cell 1
          have y2 := HXf.out.cell 2
          simp only [List.getElem?_cons_zero, List.getElem?_cons_succ] at y0 y1 y2
          have rf0 := HRf.out.frozen 0
          have rf1 := HRf.out.frozen 1
          have rf2 := HRf.out.frozen 2
          have r0 := HRf.out.cell 0
          have r1 := HRf.out.cell 1
          have r2 := HRf.out.cell 2
          simp only [List.getElem?_cons_zero, List.getElem?_cons_succ] at r0 r1 r2
          refine wp_region_held_drew (S := (fun w' => w'.cell? ⟨bx, 0, none⟩ = some (.slice (some ⟨g1, 0, none⟩) s'.sl.length cs) ∧ w'.cell? ⟨bx, 1, none⟩ = some (.slice A9 ce'.length c9) ∧ w'.cell? ⟨bx, 2, none⟩ = some (.slice Al s'.rd.length cl))) (by kernel_rfl) ?_ (fun hHeld => ?_)
          · exact ⟨y0, y1, y2⟩
          refine wpAnyH_take (i := 0) (oi := ⟨some 45, _, _, _, _, _⟩) (v := ?_) rfl (by kernel_rfl) (by kernel_rfl) (by kernel_rfl) (fun _ _ _ h => h) (Or.inl ⟨by rfl, fun w' hSw => ?_⟩) (by assumption) ?_
          rotate_left
          · (try dsimp only at hSw); go_simp; (try with_reducible rfl)
          (try simp only [Act.put, List.setIfInBounds_toArray, List.set_cons_zero, List.set_cons_succ])
          refine wpAnyH_take (i := 1) (oi := ⟨some 46, _, _, _, _, _⟩) (v := ?_) rfl (by kernel_rfl) (by kernel_rfl) (by kernel_rfl) (fun _ _ _ h => h) (Or.inl ⟨by rfl, fun w' hSw => ?_⟩) (by assumption) ?_
          rotate_left
          · (try dsimp only at hSw); go_simp; (try with_reducible rfl)
          (try simp only [Act.put, List.setIfInBounds_toArray, List.set_cons_zero, List.set_cons_succ])
          refine wpAnyH_ready (rs := [2]) (by kernel_rfl) (by simp) ?_
          refine (AllReadyH.cons (o := ⟨some 47, _, _, _, _, _⟩) rfl (fun K hK => ?_) AllReadyH.nil)
          go_simp
          (refine (l7Code_any code _).mono ?_)
          (rintro e wz ⟨rfl, rfl⟩)
          go_simp
          refine hK.out _ _ ?_ (fun hHeld => ?_)
          · exact ⟨y0, y1, y2⟩
          clear hK K
          (try simp only [Act.put, List.setIfInBounds_toArray, List.set_cons_zero, List.set_cons_succ])
          refine wpAnyH_ready (rs := [3]) (by kernel_rfl) (by simp) ?_
          refine (AllReadyH.cons (o := ⟨none, _, _, _, _, _⟩) rfl (fun K hK => ?_) AllReadyH.nil)
          go_simp
          (have HEN := Lib.hid (sp_end (HRf.out.low (BelD w6) HRf.out.lt) rfl (HSf.out.bel (BelD w6)) (HBf.out.trans ((BelD w6).mono HBf.out.size)) hbrf))
          (have HXE : Hid (RowB (w6.drew.setCells (bx + 1) 0 [.slice (some ⟨g1, 0, none⟩) s'.sl.length cs, .slice A9 ce'.length c9, .slice Al s'.rd.length cl]) bx 57 [.slice (some ⟨g1, 0, none⟩) s'.sl.length cs, .slice A9 ce'.length c9, .slice Al s'.rd.length cl]) := Lib.hid ((HXf.out.low (BelD w6) HXf.out.lt).nes hnef 0 _))
          refine hK.out _ _ ?_ (fun hHeld => ?_)
          · exact ⟨HXE.out.cell 0, HXE.out.cell 1, HXE.out.cell 2⟩
          clear hK K
          (try simp only [Act.put, List.setIfInBounds_toArray, List.set_cons_zero, List.set_cons_succ])
          refine wpAnyH_take (i := 4) (oi := ⟨some 5, _, _, _, _, _⟩) (v := ?_) rfl (by kernel_rfl) (by kernel_rfl) (by kernel_rfl) (fun _ _ _ h => h) (Or.inl ⟨by rfl, fun w' hSw => ?_⟩) (by assumption) ?_
          rotate_left
          · (try dsimp only at hSw); go_simp; (try with_reducible rfl)
          (try simp only [Act.put, List.setIfInBounds_toArray, List.set_cons_zero, List.set_cons_succ])
          refine wpAnyH_done (by kernel_rfl) ?_ _
          go_wp2_with (at_builtin; fail)
          refine bodyPost_ret (res_s1 (p := 4) (u := 5) (ty := 57) rfl _ _ (bx + 1) 57 _ (0, 0) _ rfl HEN.out.1 Tryz.underlying57 rfl rfl) rfl ?_
          exact ⟨_, _, _, by rw [HRES.out, HEC.out]; rfl, by rw [HRES.out]; exact HEN.out.2.1, HEN.out.2.2⟩
      · have HF2 : Hid (finP ts (ts.length - (k + 1)) (k + 1) s' = finP ts ts.length 0 s) := Lib.hid (by rw [← HF.out, HNK.out, finP_no (by rw [HST.out, ← HTY.out]; exact hcond)])
        by_cases h2 : ty = 2
        · have hst : st = false := by cases st <;> simp_all
          subst h2 hst
          clear hcond
          go_wp2_with (at_builtin; fail)
          go_roundg (ts.length - k)
          case measure => omega
          case rel => exact ⟨k + 1, _, _, _, _, by omega, by go_num, HCW.out, HRW.out, HSW.out, OKW.out, HF2.out, HBW.out, by omega⟩
        · have q2 : (ty != 2) = true := by simpa using h2
          clear hcond h2
          go_wp2_with (at_builtin; fail)
          go_roundg (ts.length - k)
          case measure => omega
          case rel => exact ⟨k + 1, _, _, _, _, by omega, by go_num, HCW.out, HRW.out, HSW.out, OKW.out, HF2.out, HBW.out, by omega⟩
    · obtain rfl : k = ts.length := by omega
      have HRES : Hid (finP ts ts.length 0 s = (s', 0)) := Lib.hid (by rw [← HF.out, Nat.sub_self]; rfl)
      have r0 := HRW.out.cell 0
      have r1 := HRW.out.cell 1
      have r2 := HRW.out.cell 2
      simp only [List.getElem?_cons_zero, List.getElem?_cons_succ] at r0 r1 r2
      have rf0 := HRW.out.frozen 0
      have rf1 := HRW.out.frozen 1
      have rf2 := HRW.out.frozen 2
      go_wp2_with (at_builtin; fail)
      have HEN := Lib.hid (sp_end HRW.out rfl HSW.out HBW.out hbr)
      refine bodyPost_ret (res_s1 (p := 4) (u := 5) (ty := 57) rfl _ _ (bx + 1) 57 _ (0, 0) _ rfl HEN.out.1 Tryz.underlying57 rfl rfl) rfl ?_
      exact ⟨_, _, _, by rw [HRES.out]; rfl, by rw [HRES.out]; exact HEN.out.2.1, HEN.out.2.2⟩

end Go.Proofs.YtfioaohadanjmaaGreat

/- Plain: every point is reached from point 0. No program in sight. -/
namespace Go.Proofs.YtfioaohadanjmaaGreat

/-- point k is reached from point 0 -/
inductive Rch (pts : List Pt) : Nat → Prop
  | start : Rch pts 0
  | step {i k : Nat} {p : Pt} (h : Rch pts i) (hp : pts[i]? = some p) (hk : k ∈ p.next) : Rch pts k
def Emb (pts : List Pt) (at_ : Nat) (L : List Pt) : Prop := ∀ j p, L[j]? = some p → pts[at_ + j]? = some p
theorem Emb.head {pts : List Pt} {at_ : Nat} {p : Pt} {L : List Pt} (h : Emb pts at_ (p :: L)) : pts[at_]? = some p := h 0 p rfl
theorem Emb.left {pts : List Pt} {at_ : Nat} {A B : List Pt} (h : Emb pts at_ (A ++ B)) : Emb pts at_ A := fun j q hj => h j q (by
  have hlt : j < A.length := (List.getElem?_eq_some_iff.1 hj).1
  rw [List.getElem?_append_left hlt]; exact hj)
theorem Emb.right {pts : List Pt} {at_ : Nat} {A B : List Pt} (h : Emb pts at_ (A ++ B)) : Emb pts (at_ + A.length) B := fun j q hj => by
  have := h (A.length + j) q (by rw [List.getElem?_append_right (by omega)]; simpa using hj)
  rwa [show at_ + A.length + j = at_ + (A.length + j) by omega]
end Go.Proofs.YtfioaohadanjmaaGreat

/- Rows of bools that a call owns; spec.l3After. -/
namespace Go.Proofs.YtfioaohadanjmaaGreat
open Go.RowKit

def OBools (w : World) (base : Nat) (v : Value) (l : List Bool) : Prop := w.ownsRow base 4 1 v l.length (bv l)
theorem OBools.empty (w : World) (base : Nat) (hb : base ≤ w.heap.size) : OBools (w.alloc (.cells #[] 4)) base (.slice (some ⟨w.heap.size, 0, none⟩) 0 0) [] :=
  World.ownsRow_lit (base := base) (e := 4) (size := 1) w #[] 0 hb (by simp [maxLen]) rfl
theorem OBools.slice {w : World} {base : Nat} {v : Value} {l : List Bool} (h : OBools w base v l) : ∃ A c, v = .slice A l.length c ∧ l.length ≤ c := by
  rcases h.2 with ⟨rfl, h0⟩ | ⟨g, cap, cur, rfl, _, _, hc, _⟩
  · exact ⟨none, 0, by rw [h0], by omega⟩
  · exact ⟨_, cap, rfl, hc⟩
theorem OBools.bel {w w' : World} {base : Nat} {v : Value} {l : List Bool} (h : OBools w base v l) (hb : Below w.heap.size w w') : OBools w' base v l :=
  h.kept (grown_bel hb (Nat.le_refl _) none) (by cases v.ownBlock <;> simp)
theorem OBools.base {w : World} {base base' : Nat} {v : Value} {l : List Bool} (h : OBools w base v l) (hb : base' ≤ base) : OBools w base' v l := by
  refine ⟨h.1, ?_⟩
  rcases h.2 with h' | ⟨g, cap, cur, rfl, hbg, rest⟩
  · exact .inl h'
  · exact .inr ⟨g, cap, cur, rfl, by omega, rest⟩
theorem OBools.at_ {w : World} {base : Nat} {A : Option Addr} {n c : Nat} {l : List Bool} (h : OBools w base (.slice A n c) l) {k : Nat} (hk : k < l.length) :
    ∃ g, A = some ⟨g, 0, none⟩ ∧ base ≤ g ∧ g < w.heap.size ∧ n = l.length ∧ w.cell? ⟨g, k, none⟩ = some (.bool (l.getD k false)) ∧ w.frozen? ⟨g, k, none⟩ = false := by
  obtain ⟨A', c', e, _⟩ := h.slice
  injection e with _ e2 _
  subst e2
  obtain ⟨g, cap, e, hb, hlt⟩ := h.form (by omega)
  injection e with e1 _ e3
  subst e1 e3
  exact ⟨g, rfl, hb, hlt, rfl, by rw [h.cellAt k (by omega), bv_get hk], h.frozenAt k⟩
theorem OBools.toS {w : World} {base : Nat} {v : Value} {l : List Bool} (h : OBools w base v l) (hl : l.length ≤ 4194304) : BoolS w w.heap.size v l := by
  obtain ⟨A, c, rfl, hc⟩ := h.slice
  refine ⟨A, c, rfl, hc, hl, by simp, fun hn => ?_⟩
  obtain ⟨g, cap, e, hb, hlt⟩ := h.form hn
  injection e with e1 _ e2
  subst e1 e2
  refine ⟨g, 0, rfl, hlt, fun j u hu => ?_⟩
  rw [Nat.zero_add, h.cellAt j (by have := (List.getElem?_eq_some_iff.1 hu).1; simp at this; omega)]
  exact hu
theorem OBools.set {w : World} {base g n c : Nat} {l : List Bool} (h : OBools w base (.slice (some ⟨g, 0, none⟩) n c) l) (k : Nat) (b : Bool) : OBools (w.setCell ⟨g, k, none⟩ (.bool b)) base (.slice (some ⟨g, 0, none⟩) n c) (l.set k b) := by
  have hn : n = l.length := by
    obtain ⟨A, c', e, _⟩ := h.slice
    injection e
  subst hn
  have := (World.ownsRow.stored h k (.bool b)).1
  unfold OBools
  rw [List.length_set, ← bv_set]
  exact this
/-- what v's place reads behind a point, b being what it read before -/
def vlB (ts : List Int) (p : Pt) (b : Bool) (v : Nat) : Bool := (b && !(useP ts p.op p.x p.y (v : Nat) == 2)) || decide (setsP p.op p.x = (v : Nat))
set_option maxHeartbeats 4000000
set_option maxRecDepth 100000

end Go.Proofs.YtfioaohadanjmaaGreat

/- spec.l3Join, spec.l3Equal. -/
namespace Go.Proofs.YtfioaohadanjmaaGreat
open Go.RowKit

def jnB (al o a : Bool) : Bool := if al then o && a else o || a
def joinP (al : Bool) (old aft : List Bool) : List Bool := (List.range aft.length).map fun v => if v < old.length then jnB al (old.getD v false) (aft.getD v false) else aft.getD v false
theorem join_len (al : Bool) (old aft : List Bool) : (joinP al old aft).length = aft.length := by simp [joinP]
theorem join_get (al : Bool) (old aft : List Bool) {v : Nat} (hv : v < aft.length) : (joinP al old aft).getD v false = if v < old.length then jnB al (old.getD v false) (aft.getD v false) else aft.getD v false := by
  rw [getD_lt (by rw [join_len]; exact hv)]; simp [joinP]
set_option maxHeartbeats 4000000
set_option maxRecDepth 100000

end Go.Proofs.YtfioaohadanjmaaGreat

/- Plain: the search forward that walks a queue of points. No program in sight. -/
namespace Go.Proofs.YtfioaohadanjmaaGreat

def acR (ev : Bool) (rows : List (List Bool)) (i v : Nat) : Bool := rget rows i v != ev
theorem jn_acc (ev o a : Bool) : (jnB ev o a != ev) = ((o != ev) || (a != ev)) := by cases ev <;> cases o <;> cases a <;> rfl
theorem vl_acc (ev : Bool) {ts : List Int} {p : Pt} {b : Bool} {v : Nat} (hv : v < ts.length) : (vlB ts p b v != ev) = trB ev ts p (b != ev) v := by
  unfold vlB trB
  have h1 : (takenP ts p.op p.x p.y).testBit v = (useP ts p.op p.x p.y (v : Nat) == 2) := by unfold takenP; rw [bm_bit, decide_eq_true hv, Bool.true_and]
  rw [h1, setBit_bit]
  cases ev <;> cases b <;> cases (useP ts p.op p.x p.y (v : Nat) == 2) <;> cases decide (setsP p.op p.x = (v : Nat)) <;> rfl

def seenAt (seen : List Bool) (i : Nat) : Prop := seen.getD i false = true
instance (seen : List Bool) (i : Nat) : Decidable (seenAt seen i) := by unfold seenAt; infer_instance
structure WkI (ev : Bool) (ts : List Int) (pts : List Pt) (rows : List (List Bool)) (seen : List Bool) (q : List Nat) : Prop where
  len : rows.length = pts.length
  slen : seen.length = pts.length
  row : ∀ i, i < pts.length → seenAt seen i → (rows.getD i []).length = ts.length
  nrow : ∀ i, i < pts.length → ¬ seenAt seen i → rows.getD i [] = []
  sound : ∀ i v, i < pts.length → v < ts.length → seenAt seen i → acR ev rows i v = true → Ac ev ts pts 0 i v
  ini : seenAt seen 0
  inv : ev = true → ∀ v, v < ts.length → acR ev rows 0 v = true
  qs : ∀ i ∈ q, i < pts.length ∧ seenAt seen i
/-- point i's row is closed along its edges -/
def WkC (ev : Bool) (ts : List Int) (pts : List Pt) (rows : List (List Bool)) (seen : List Bool) (r0 : List Bool) (i k : Nat) : Prop :=
  ∀ p, pts[i]? = some p → ∀ n ∈ p.next.take k, seenAt seen n ∧ ∀ v, v < ts.length → (vlB ts p (r0.getD v false) v != ev) = true → acR ev rows n v = true
/-- between two points of the queue -/
structure WkO (ev : Bool) (ts : List Int) (pts : List Pt) (rows : List (List Bool)) (seen : List Bool) (q : List Nat) : Prop where
  i : WkI ev ts pts rows seen q
  c : ∀ i, i < pts.length → seenAt seen i → i ∈ q ∨ ∀ k, WkC ev ts pts rows seen (rows.getD i []) i k
/-- at point a, behind its first k edges; r0 is the row that was there when a was taken -/
structure WkN (ev : Bool) (ts : List Int) (pts : List Pt) (a : Nat) (r0 : List Bool) (k : Nat) (rows : List (List Bool)) (seen : List Bool) (q : List Nat) : Prop where
  i : WkI ev ts pts rows seen q
  c : ∀ i, i < pts.length → seenAt seen i → i ∈ q ∨ i = a ∨ ∀ k, WkC ev ts pts rows seen (rows.getD i []) i k
  e : WkC ev ts pts rows seen r0 a k
  s : a ∈ q ∨ rows.getD a [] = r0
  r : ∀ v, v < ts.length → (r0.getD v false != ev) = true → Ac ev ts pts 0 a v
theorem WkN.out {ev : Bool} {ts : List Int} {pts : List Pt} {rows : List (List Bool)} {seen : List Bool} {a k : Nat} {r0 : List Bool} {q : List Nat} (h : WkN ev ts pts a r0 k rows seen q) (hk : ∀ p, pts[a]? = some p → p.next.length ≤ k) : WkO ev ts pts rows seen q := by
  refine ⟨h.i, fun i hi hs => ?_⟩
  rcases h.c i hi hs with h1 | h1 | h1
  · exact .inl h1
  · subst h1
    rcases h.s with h2 | h2
    · exact .inl h2
    · refine .inr fun j p hp n hn => ?_
      rw [h2]
      exact h.e p hp n (by rw [List.take_of_length_le (hk p hp)]; exact List.mem_of_mem_take hn)
  · exact .inr h1
theorem seen_set {seen : List Bool} {n i : Nat} (hn : n < seen.length) : seenAt (seen.set n true) i ↔ (i = n ∨ seenAt seen i) := by
  unfold seenAt
  rw [getD_setB hn]
  split
  · rename_i h; simp [h]
  · rename_i h; simp [h]
theorem row_set {rows : List (List Bool)} {n i : Nat} {r : List Bool} (hn : n < rows.length) : (rows.set n r).getD i [] = if i = n then r else rows.getD i [] := by
  by_cases h : i = n
  · subst h; simp [List.getD, hn]
  · rw [if_neg h]; simp [List.getD, Ne.symm h]
/-- row n joined -/
theorem WkN.step {ev : Bool} {ts : List Int} {pts : List Pt} {rows : List (List Bool)} {seen : List Bool} {a k n : Nat} {r0 aft : List Bool} {q q' : List Nat} {p : Pt} (h : WkN ev ts pts a r0 k rows seen q)
    (hp : pts[a]? = some p) (hk : k < p.next.length) (hn : n = p.next[k]) (hnl : n < pts.length) (hal : aft.length = ts.length) (haf : ∀ v, v < ts.length → aft.getD v false = vlB ts p (r0.getD v false) v)
    (hq : q' = q ++ [n] ∨ (q' = q ∧ seenAt seen n ∧ rows.getD n [] = joinP ev (rows.getD n []) aft)) :
    WkN ev ts pts a r0 (k + 1) (rows.set n (joinP ev (rows.getD n []) aft)) (seen.set n true) q' := by
  have hnr : n < rows.length := by rw [h.i.len]; exact hnl
  have hns : n < seen.length := by rw [h.i.slen]; exact hnl
  have hold : (rows.getD n []).length ≤ aft.length := by
    by_cases hs : seenAt seen n
    · rw [h.i.row n hnl hs, hal]; exact Nat.le_refl _
    · rw [h.i.nrow n hnl hs]; simp
  have hnew : ∀ v, v < ts.length → acR ev (rows.set n (joinP ev (rows.getD n []) aft)) n v = ((decide (seenAt seen n) && acR ev rows n v) || (vlB ts p (r0.getD v false) v != ev)) := by
    intro v hv
    unfold acR rget
    rw [row_set hnr, if_pos rfl, join_get _ _ _ (by omega)]
    by_cases hs : seenAt seen n
    · rw [if_pos (by rw [h.i.row n hnl hs]; exact hv), jn_acc, haf v hv, decide_eq_true hs, Bool.true_and]
    · rw [if_neg (by rw [h.i.nrow n hnl hs]; simp), haf v hv, decide_eq_false hs, Bool.false_and, Bool.false_or]
  have hoth : ∀ i v, i ≠ n → acR ev (rows.set n (joinP ev (rows.getD n []) aft)) i v = acR ev rows i v := by
    intro i v hi
    unfold acR rget
    rw [row_set hnr, if_neg hi]
  have hmono : ∀ i v, v < ts.length → seenAt seen i → acR ev rows i v = true → acR ev (rows.set n (joinP ev (rows.getD n []) aft)) i v = true := by
    intro i v hv hs ha
    by_cases hi : i = n
    · subst hi; rw [hnew v hv, decide_eq_true hs, ha]; rfl
    · rw [hoth i v hi]; exact ha
  have hqq : ∀ i, i ∈ q → i ∈ q' := by
    intro i hi
    rcases hq with rfl | ⟨rfl, -, -⟩
    · simp [hi]
    · exact hi
  have hsm : ∀ i, seenAt seen i → seenAt (seen.set n true) i := fun i hs => (seen_set hns).2 (.inr hs)
  have hnm : n ∈ p.next := by rw [hn]; exact List.getElem_mem hk
  have hset : n ∈ q' ∨ rows.set n (joinP ev (rows.getD n []) aft) = rows := by
    rcases hq with rfl | ⟨rfl, -, he⟩
    · exact .inl (by simp)
    · refine .inr ?_
      rw [← he]
      rw [getD_lt hnr]
      exact List.set_getElem_self hnr
  have hC : ∀ r i j, WkC ev ts pts rows seen r i j → WkC ev ts pts (rows.set n (joinP ev (rows.getD n []) aft)) (seen.set n true) r i j := fun r i j hc p' hp' m hm =>
    ⟨hsm m (hc p' hp' m hm).1, fun v hv hx => hmono m v hv (hc p' hp' m hm).1 ((hc p' hp' m hm).2 v hv hx)⟩
  have hrc : ∀ i, i ∈ q' ∨ (rows.set n (joinP ev (rows.getD n []) aft)).getD i [] = rows.getD i [] := by
    intro i
    rcases hset with h1 | h1
    · by_cases hi : i = n
      · subst hi; exact .inl h1
      · right; rw [row_set hnr, if_neg hi]
    · right; rw [h1]
  refine ⟨⟨?_, ?_, fun i hi hs => ?_, fun i hi hs => ?_, fun i v hi hv hs ha => ?_, hsm 0 h.i.ini, fun he v hv => hmono 0 v hv h.i.ini (h.i.inv he v hv), fun i hi => ?_⟩, fun i hi hs => ?_, fun p' hp' m hm => ?_, ?_, h.r⟩
  · rw [List.length_set, h.i.len]
  · rw [List.length_set, h.i.slen]
  · rw [row_set hnr]
    split
    · rw [join_len, hal]
    · rename_i hne
      exact h.i.row i hi (((seen_set hns).1 hs).resolve_left hne)
  · rw [row_set hnr, if_neg (fun e => hs ((seen_set hns).2 (.inl e)))]
    exact h.i.nrow i hi fun e => hs (hsm i e)
  · by_cases hin : i = n
    · subst hin
      rw [hnew v hv] at ha
      rcases Bool.or_eq_true_iff.1 ha with h1 | h1
      · have h2 := Bool.and_eq_true_iff.1 h1
        exact h.i.sound i v hi hv (of_decide_eq_true h2.1) h2.2
      · rw [vl_acc ev hv] at h1
        cases hb : (r0.getD v false != ev)
        · rw [hb] at h1; exact .gen hp hnm hv h1
        · rw [hb] at h1; exact .keep hp hnm (h.r v hv hb) h1
    · rw [hoth i v hin] at ha
      exact h.i.sound i v hi hv (((seen_set hns).1 hs).resolve_left hin) ha
  · rcases hq with rfl | ⟨rfl, -, -⟩
    · rcases List.mem_append.1 hi with h1 | h1
      · exact ⟨(h.i.qs i h1).1, hsm i (h.i.qs i h1).2⟩
      · obtain rfl : i = n := by simpa using h1
        exact ⟨hnl, (seen_set hns).2 (.inl rfl)⟩
    · exact ⟨(h.i.qs i hi).1, hsm i (h.i.qs i hi).2⟩
  · rcases (seen_set hns).1 hs with h1 | h1
    · subst h1
      rcases hq with rfl | ⟨rfl, h2, -⟩
      · exact .inl (by simp)
      · rcases h.c i hi h2 with h3 | h3 | h3
        · exact .inl h3
        · exact .inr (.inl h3)
        · rcases hrc i with h4 | h4
          · exact .inl h4
          · exact .inr (.inr fun j => by rw [h4]; exact hC _ _ _ (h3 j))
    · rcases h.c i hi h1 with h3 | h3 | h3
      · exact .inl (hqq i h3)
      · exact .inr (.inl h3)
      · rcases hrc i with h4 | h4
        · exact .inl h4
        · exact .inr (.inr fun j => by rw [h4]; exact hC _ _ _ (h3 j))
  · have hpe : p' = p := by rw [hp] at hp'; exact (Option.some.inj hp').symm
    subst hpe
    rw [List.take_succ_eq_append_getElem hk] at hm
    rcases List.mem_append.1 hm with h1 | h1
    · exact hC _ _ _ h.e p' hp m h1
    · obtain rfl : m = n := by rw [hn]; simpa using h1
      exact ⟨(seen_set hns).2 (.inl rfl), fun v hv hx => by rw [hnew v hv, hx]; simp⟩
  · rcases h.s with h1 | h1
    · exact .inl (hqq a h1)
    · rcases hrc a with h2 | h2
      · exact .inl h2
      · exact .inr (by rw [h2]; exact h1)

/-- at the end the rows are what is gathered -/
theorem WkO.done {ev : Bool} {ts : List Int} {pts : List Pt} {rows : List (List Bool)} {seen : List Bool} (h : WkO ev ts pts rows seen []) (h0 : 0 < pts.length) (hnx : ∀ p ∈ pts, ∀ k ∈ p.next, k < pts.length) (hr : ∀ k, k < pts.length → Rch pts k) {i : Nat} (hi : i < pts.length) :
    (rows.getD i []).length = ts.length ∧ ∀ v, v < ts.length → rget rows i v = (dec (Ac ev ts pts 0 i v) != ev) := by
  have hc : ∀ i, i < pts.length → seenAt seen i → ∀ k, WkC ev ts pts rows seen (rows.getD i []) i k := fun i hi hs => (h.c i hi hs).resolve_left (by simp)
  have hlt : ∀ {i : Nat} {p : Pt}, pts[i]? = some p → i < pts.length := fun {i p} hp => (List.getElem?_eq_some_iff.1 hp).1
  have hall : ∀ k, Rch pts k → seenAt seen k := by
    intro k hk
    induction hk with
    | start => exact h.i.ini
    | @step i k p hk hp hkn ih => exact ((hc i (hlt hp) ih p.next.length) p hp k (by rw [List.take_length]; exact hkn)).1
  have hac : ∀ i v, Ac ev ts pts 0 i v → i < pts.length ∧ acR ev rows i v = true := by
    intro i v ha
    induction ha with
    | @init v hv h1 => exact ⟨h0, h.i.inv (by cases ev <;> simp [accB] at h1 ⊢) v hv⟩
    | @gen i k v p hp hk hv h1 =>
      refine ⟨hnx p (List.mem_of_getElem? hp) k hk, ((hc i (hlt hp) (hall i (hr i (hlt hp))) p.next.length) p hp k (by rw [List.take_length]; exact hk)).2 v hv ?_⟩
      rw [vl_acc ev hv, trB_mono, h1]; rfl
    | @keep i k v p hp hk ha h1 ih =>
      refine ⟨hnx p (List.mem_of_getElem? hp) k hk, ((hc i (hlt hp) (hall i (hr i (hlt hp))) p.next.length) p hp k (by rw [List.take_length]; exact hk)).2 v ha.lt ?_⟩
      have e := ih.2
      unfold acR rget at e
      rw [vl_acc ev ha.lt, trB_mono, e, h1]; simp
  have hs := hall i (hr i hi)
  refine ⟨h.i.row i hi hs, fun v hv => ?_⟩
  have e : dec (Ac ev ts pts 0 i v) = acR ev rows i v := by
    rw [Bool.eq_iff_iff, dec_iff]
    exact ⟨fun ha => (hac i v ha).2, fun ha => h.i.sound i v hi hv hs ha⟩
  rw [e]
  unfold acR
  cases rget rows i v <;> cases ev <;> rfl

end Go.Proofs.YtfioaohadanjmaaGreat

/- Plain: rows of bools that say what always has a value. No program in sight. -/
namespace Go.Proofs.YtfioaohadanjmaaGreat

structure FdI (ts : List Int) (pts : List Pt) (gv : Nat) (rows : List (List Bool)) : Prop where
  len : rows.length = pts.length
  row : ∀ i, i < rows.length → (rows.getD i []).length = ts.length
  sound : ∀ i v, i < rows.length → v < ts.length → rget rows i v = false → Ac true ts pts gv i v
  init : ∀ v, v < ts.length → gv.testBit v = false → rget rows 0 v = false
theorem vl_tr {ts : List Int} {p : Pt} {b : Bool} {v : Nat} (hv : v < ts.length) : vlB ts p b v = !trB true ts p (!b) v := by
  unfold vlB trB
  have h1 : (takenP ts p.op p.x p.y).testBit v = (useP ts p.op p.x p.y (v : Nat) == 2) := by unfold takenP; rw [bm_bit, decide_eq_true hv, Bool.true_and]
  rw [h1, setBit_bit]
  cases b <;> cases (useP ts p.op p.x p.y (v : Nat) == 2) <;> cases decide (setsP p.op p.x = (v : Nat)) <;> rfl
/-- what is not there behind a point is lacked at each Next -/
theorem FdI.aft {ts : List Int} {pts : List Pt} {gv : Nat} {rows : List (List Bool)} (h : FdI ts pts gv rows) {i v : Nat} {p : Pt} (hp : pts[i]? = some p) (hi : i < rows.length) (hv : v < ts.length) (ha : vlB ts p (rget rows i v) v = false) : ∀ k ∈ p.next, Ac true ts pts gv k v := by
  intro k hk
  rw [vl_tr hv, Bool.not_eq_false'] at ha
  cases hb : rget rows i v
  · rw [hb] at ha; exact .keep hp hk (h.sound i v hi hv hb) ha
  · rw [hb] at ha; exact .gen hp hk hv ha
/-- the rows r0 are closed along the edge from i to n for the first u variables -/
def FdV (ts : List Int) (r0 : List (List Bool)) (p : Pt) (i n u : Nat) : Prop := ∀ v, v < u → rget r0 n v = true → vlB ts p (rget r0 i v) v = true
def FdC (ts : List Int) (pts : List Pt) (r0 : List (List Bool)) (k : Nat) : Prop := ∀ i p, i < k → pts[i]? = some p → ∀ n ∈ p.next, FdV ts r0 p i n ts.length
theorem FdI.done {ts : List Int} {pts : List Pt} {gv : Nat} {rows : List (List Bool)} (h : FdI ts pts gv rows) (hpos : 0 < pts.length) (hnx : ∀ p ∈ pts, ∀ k ∈ p.next, k < pts.length) (hc : FdC ts pts rows pts.length) {i v : Nat} (hi : i < pts.length) (hv : v < ts.length) :
    rget rows i v = !dec (Ac true ts pts gv i v) := by
  have hac : ∀ i v, Ac true ts pts gv i v → i < pts.length ∧ rget rows i v = false := by
    intro i v ha
    induction ha with
    | init hv h1 => exact ⟨hpos, h.init _ hv (by simpa [accB] using h1)⟩
    | @gen i k v p hp hk hv h1 =>
      have hi : i < pts.length := by
        rcases Nat.lt_or_ge i pts.length with h | h
        · exact h
        · rw [List.getElem?_eq_none h] at hp; cases hp
      refine ⟨hnx p (List.mem_of_getElem? hp) k hk, ?_⟩
      cases hr : rget rows k v
      · rfl
      · have := hc i p hi hp k hk v hv hr
        rw [vl_tr hv, trB_mono, h1] at this
        simp at this
    | @keep i k v p hp hk ha h1 ih =>
      have hi := ih.1
      refine ⟨hnx p (List.mem_of_getElem? hp) k hk, ?_⟩
      cases hr : rget rows k v
      · rfl
      · have := hc i p hi hp k hk v ha.lt hr
        rw [vl_tr ha.lt, ih.2, Bool.not_false, h1] at this
        simp at this
  cases hr : rget rows i v
  · rw [dec_true (h.sound i v (by rw [h.len]; exact hi) hv hr)]; rfl
  · rw [dec_false fun ha => by rw [(hac i v ha).2] at hr; cases hr]; rfl
/-- the first rows -/
def row0 (ts : List Int) (gv : Nat) (i : Nat) : List Bool := (List.range ts.length).map fun v => decide (0 < i) || gv.testBit v
theorem row0_get {ts : List Int} {gv i v : Nat} (hv : v < ts.length) : (row0 ts gv i).getD v false = (decide (0 < i) || gv.testBit v) := by
  unfold row0; rw [getD_lt (by simpa using hv)]; simp
theorem row0_len (ts : List Int) (gv i : Nat) : (row0 ts gv i).length = ts.length := by simp [row0]
theorem FdI.first (ts : List Int) (pts : List Pt) (gv : Nat) (hpos : 0 < pts.length) : FdI ts pts gv ((List.range pts.length).map (row0 ts gv)) := by
  have hg : ∀ i, i < pts.length → ((List.range pts.length).map (row0 ts gv)).getD i [] = row0 ts gv i := fun i hi => by rw [getD_lt (by simpa using hi)]; simp
  refine ⟨by simp, fun i hi => by rw [hg i (by simpa using hi), row0_len], fun i v hi hv hr => ?_, fun v hv hgv => ?_⟩
  · unfold rget at hr
    rw [hg i (by simpa using hi), row0_get hv, Bool.or_eq_false_iff] at hr
    have h0 : i = 0 := by have := hr.1; simp at this; exact this
    subst h0
    exact .init hv (by simp [accB, hr.2])
  · unfold rget
    rw [hg 0 hpos, row0_get hv, hgv]; rfl

end Go.Proofs.YtfioaohadanjmaaGreat

/- More words for rows of bools: a row that was filled before it is appended. -/
namespace Go.Proofs.YtfioaohadanjmaaGreat
open Go.RowKit

theorem OBools.other {w : World} {base g : Nat} {v : Value} {l : List Bool} (h : OBools w base v l) (hg : g < base) (i : Nat) (u : Value) : OBools (w.setCell ⟨g, i, none⟩ u) base v l :=
  h.kept (grown_set w g i u) (.inr (by
    cases e : v.ownBlock with
    | none => simp
    | some k => intro e'; injection e' with e'; have := (World.ownsRow.lt h k e).1; omega))
end Go.Proofs.YtfioaohadanjmaaGreat

/- Words for a queue of ints, and for the rows that stand beside it. -/
namespace Go.Proofs.YtfioaohadanjmaaGreat
open Go.RowKit

/-- a slice of a block of its own, that loses its head and grows at its end -/
def Qu (w : World) (base : Nat) (v : Value) (q : List Nat) : Prop :=
  ∃ g off cap, ∃ cur : Array Value, v = .slice (some ⟨g, off, none⟩) q.length cap ∧ base ≤ g ∧ w.heap[g]? = some (.cells cur 3 (0, 0)) ∧ q.length ≤ cap ∧ off + cap ≤ cur.size ∧ ∀ j, j < q.length → cur[off + j]? = some (.int .i64 (q.getD j 0 : Nat))
theorem Qu.bel {w w' : World} {base : Nat} {v : Value} {q : List Nat} (h : Qu w base v q) (hb : Below w.heap.size w w') : Qu w' base v q := by
  obtain ⟨g, off, cap, cur, e, h1, h2, h3⟩ := h
  have hg : g < w.heap.size := by
    rcases Nat.lt_or_ge g w.heap.size with h | h
    · exact h
    · rw [Array.getElem?_eq_none h] at h2; cases h2
  exact ⟨g, off, cap, cur, e, h1, (hb.block g hg).trans h2, h3⟩
theorem Qu.other {w : World} {base : Nat} {v : Value} {q : List Nat} (h : Qu w base v q) {b : Nat} (hb : b < base) (i : Nat) (u : Value) : Qu (w.setCell ⟨b, i, none⟩ u) base v q := by
  obtain ⟨g, off, cap, cur, e, h1, h2, h3⟩ := h
  exact ⟨g, off, cap, cur, e, h1, (heap_setCell_other w ⟨b, i, none⟩ g u (by show g ≠ b; omega)).trans h2, h3⟩
theorem Qu.head {w : World} {base : Nat} {v : Value} {a : Nat} {q : List Nat} (h : Qu w base v (a :: q)) :
    ∃ g off c, v = .slice (some ⟨g, off, none⟩) (q.length + 1) (c + 1) ∧ q.length ≤ c ∧ g < w.heap.size ∧ w.cell? ⟨g, off, none⟩ = some (.int .i64 (a : Nat)) ∧ (∀ off', (off' = off ∧ c = 0 ∨ off' = off + 1) → Qu w base (.slice (some ⟨g, off', none⟩) q.length c) q) := by
  obtain ⟨g, off, cap, cur, e, h1, h2, h3, h4, h5⟩ := h
  obtain ⟨c, rfl⟩ : ∃ c, cap = c + 1 := ⟨cap - 1, by simp at h3; omega⟩
  simp only [List.length_cons] at h3 h5
  have hg : g < w.heap.size := by
    rcases Nat.lt_or_ge g w.heap.size with h | h
    · exact h
    · rw [Array.getElem?_eq_none h] at h2; cases h2
  refine ⟨g, off, c, e, by omega, hg, ?_, fun off' ho => ⟨g, off', c, cur, rfl, h1, h2, by omega, by omega, fun j hj => ?_⟩⟩
  · rw [cell_of_row _ _ _ _ _ _ h2]
    have := h5 0 (by omega)
    simpa using this
  · rcases ho with ⟨-, hc⟩ | rfl
    · omega
    · have := h5 (j + 1) (by omega)
      rw [show off + 1 + j = off + (j + 1) by omega, this]
      simp [List.getD]

theorem getD_rep {α : Type} (m i : Nat) (x d : α) (h : i < m) : (List.replicate m x).getD i d = x := by simp [List.getD, h]
theorem WkO.first (ev : Bool) (ts : List Int) (pts : List Pt) (m : Nat) (hm : pts.length = m + 1) : WkO ev ts pts (List.replicate ts.length false :: List.replicate m []) (true :: List.replicate m false) [0] := by
  have hs : ∀ i, i < pts.length → seenAt (true :: List.replicate m false) i → i = 0 := by
    intro i hi hs
    cases i with
    | zero => rfl
    | succ i =>
      have e : (true :: List.replicate m false).getD (i + 1) false = false := getD_rep m i _ _ (by omega)
      unfold seenAt at hs
      rw [e] at hs; cases hs
  have ha : ∀ v, v < ts.length → acR ev (List.replicate ts.length false :: List.replicate m []) 0 v = (false != ev) := by
    intro v hv
    unfold acR rget
    rw [show (List.replicate ts.length false :: List.replicate m ([] : List Bool)).getD 0 [] = List.replicate ts.length false from rfl, getD_rep _ _ _ _ hv]
  refine ⟨⟨by simp [hm], by simp [hm], fun i hi h => ?_, fun i hi h => ?_, fun i v hi hv h ha' => ?_, rfl, fun he v hv => by rw [ha v hv, he]; rfl, fun i hi => ?_⟩, fun i hi h => .inl (by rw [hs i hi h]; simp)⟩
  · rw [hs i hi h]; simp
  · cases i with
    | zero => exact absurd rfl h
    | succ i => exact getD_rep m i _ _ (by omega)
  · rw [hs i hi h] at ha' ⊢
    rw [ha v hv] at ha'
    exact .init hv (by simpa [accB] using ha')
  · obtain rfl : i = 0 := by simpa using hi
    exact ⟨by omega, rfl⟩

theorem WkN.go {ev : Bool} {ts : List Int} {pts : List Pt} {rows : List (List Bool)} {seen : List Bool} {a k n : Nat} {r0 aft : List Bool} {q : List Nat} {p : Pt} (h : WkN ev ts pts a r0 k rows seen q)
    (hp : pts[a]? = some p) (hn : p.next[k]? = some n) (hnl : n < pts.length) (hal : aft.length = ts.length) (haf : ∀ v, v < ts.length → aft.getD v false = vlB ts p (r0.getD v false) v) :
    WkN ev ts pts a r0 (k + 1) (rows.set n (joinP ev (rows.getD n []) aft)) (seen.set n true) (q ++ [n]) := by
  obtain ⟨hk, e⟩ := List.getElem?_eq_some_iff.1 hn
  exact h.step hp hk e.symm hnl hal haf (.inl rfl)
theorem WkN.stay {ev : Bool} {ts : List Int} {pts : List Pt} {rows : List (List Bool)} {seen : List Bool} {a k n : Nat} {r0 aft : List Bool} {q : List Nat} {p : Pt} (h : WkN ev ts pts a r0 k rows seen q)
    (hp : pts[a]? = some p) (hn : p.next[k]? = some n) (hnl : n < pts.length) (hal : aft.length = ts.length) (haf : ∀ v, v < ts.length → aft.getD v false = vlB ts p (r0.getD v false) v)
    (hs : seen.getD n false = true) (he : rows.getD n [] = joinP ev (rows.getD n []) aft) : WkN ev ts pts a r0 (k + 1) rows seen q := by
  obtain ⟨hk, e⟩ := List.getElem?_eq_some_iff.1 hn
  have := h.step hp hk e.symm hnl hal haf (.inr ⟨rfl, hs, he⟩)
  have hnr : n < rows.length := by rw [h.i.len]; exact hnl
  have hns : n < seen.length := by rw [h.i.slen]; exact hnl
  rw [getD_lt hns] at hs
  rw [← he, getD_lt hnr, List.set_getElem_self hnr] at this
  rw [show seen.set n true = seen by rw [← hs]; exact List.set_getElem_self hns] at this
  exact this

end Go.Proofs.YtfioaohadanjmaaGreat

/- Words for a queue of ints: a whole slice is appended to it. -/
namespace Go.Proofs.YtfioaohadanjmaaGreat
open Go.RowKit

theorem RowB.setCells {g : Nat} {t : TypeId} : ∀ (vs : List Value) (o : Nat) (w : World) (L : List Value), RowB w g t L → o + vs.length ≤ L.length → ∃ L', RowB (w.setCells g o vs) g t L' ∧ L'.length = L.length ∧ ∀ j, L'[j]? = if o ≤ j ∧ j < o + vs.length then vs[j - o]? else L[j]?
  | [], o, w, L, h, _ => ⟨L, h, rfl, fun j => by rw [if_neg (by simp only [List.length_nil]; omega)]⟩
  | v :: vs, o, w, L, h, hl => by
    simp only [List.length_cons] at hl
    obtain ⟨L', h1, h2, h3⟩ := RowB.setCells vs (o + 1) (w.setCell ⟨g, o, none⟩ v) (L.set o v) (h.set_ o v) (by simp; omega)
    refine ⟨L', h1, by rw [h2]; simp, fun j => ?_⟩
    rw [h3]
    simp only [List.length_cons]
    by_cases e : j = o
    · subst e
      rw [if_neg (by omega), if_pos ⟨by omega, by omega⟩, List.getElem?_set_self (by omega), Nat.sub_self]; rfl
    · by_cases e2 : o + 1 ≤ j ∧ j < o + 1 + vs.length
      · rw [if_pos e2, if_pos ⟨by omega, by omega⟩, show j - o = (j - (o + 1)) + 1 by omega]; rfl
      · rw [if_neg e2, if_neg (by omega), List.getElem?_set_ne (Ne.symm e)]
theorem Qu.one {w : World} {base : Nat} (hb : base ≤ w.heap.size) (a : Nat) : Qu (w.alloc (.cells #[.int .i64 (a : Nat)] 3)) base (.slice (some ⟨w.heap.size, 0, none⟩) 1 1) [a] :=
  ⟨w.heap.size, 0, 1, #[.int .i64 (a : Nat)], rfl, hb, heap_alloc_new w _, Nat.le_refl _, by simp, fun j hj => by
    obtain rfl : j = 0 := by simpa using hj
    rfl⟩
theorem Qu.slice {w : World} {base : Nat} {v : Value} {q : List Nat} (h : Qu w base v q) : ∃ g off cap, v = .slice (some ⟨g, off, none⟩) q.length cap ∧ q.length ≤ cap := by
  obtain ⟨g, off, cap, cur, e, h1, h2, h3, h4⟩ := h
  exact ⟨g, off, cap, e, h3⟩
end Go.Proofs.YtfioaohadanjmaaGreat

/- impl.indices, impl.PathsFrom. -/
namespace Go.Proofs.YtfioaohadanjmaaGreat
open Go.RowKit

end Go.Proofs.YtfioaohadanjmaaGreat

/- Plain: loops of a program's points: they come back, and their choice dominates them. No program in sight. -/
namespace Go.Proofs.YtfioaohadanjmaaGreat

/-- a leads to b, or is it -/
def LdE (pts : List Pt) (a b : Nat) : Prop := a = b ∨ Lds pts a b
theorem Lds.to {pts : List Pt} {a k b : Nat} {p : Pt} (hp : pts[a]? = some p) (hk : k ∈ p.next) (h : LdE pts k b) : Lds pts a b := by
  rcases h with rfl | h
  · exact .one hp hk
  · exact .more hp hk h

/-- a leads to it in no step or more, without passing wo -/
inductive Ard (pts : List Pt) (wo a : Nat) : Nat → Prop
  | refl (h : a ≠ wo) : Ard pts wo a a
  | step {k j : Nat} {p : Pt} (h : Ard pts wo a k) (hp : pts[k]? = some p) (hj : j ∈ p.next) (hne : j ≠ wo) : Ard pts wo a j
theorem Ard.ne {pts : List Pt} {wo a k : Nat} (h : Ard pts wo a k) : k ≠ wo := by cases h <;> assumption
/-- the state of the search for what a leads to without passing wo -/
structure ArI (pts : List Pt) (wo a : Nat) (fl : List Bool) (q : List Nat) : Prop where
  len : fl.length = pts.length
  snd : ∀ k, fl.getD k false = true → Ard pts wo a k
  qok : ∀ k ∈ q, (k ≠ wo → Ard pts wo a k) ∧ k < pts.length
  st : a ≠ wo → fl.getD a false = true ∨ a ∈ q
  cl : ∀ k p, fl.getD k false = true → pts[k]? = some p → ∀ j ∈ p.next, j = wo ∨ fl.getD j false = true ∨ j ∈ q
theorem ArI.init {pts : List Pt} {wo a : Nat} (ha : a < pts.length) : ArI pts wo a (List.replicate pts.length false) [a] := by
  have h0 : ∀ k, (List.replicate pts.length false).getD k false = false := fun k => by
    by_cases hk : k < pts.length
    · rw [getD_lt (by simpa using hk)]; simp
    · rw [getD_ge (by simpa using hk)]
  refine ⟨by simp, fun k hk => ?_, fun k hk => ?_, fun _ => .inr (by simp), fun k p hk => ?_⟩
  · rw [h0] at hk; cases hk
  · rw [List.mem_singleton] at hk; subst hk; exact ⟨.refl, ha⟩
  · rw [h0] at hk; cases hk
theorem ArI.skip {pts : List Pt} {wo a k : Nat} {fl : List Bool} {r : List Nat} (h : ArI pts wo a fl (k :: r)) (hk : k = wo ∨ fl.getD k false = true) : ArI pts wo a fl r := by
  refine ⟨h.len, h.snd, fun j hj => h.qok j (List.mem_cons_of_mem _ hj), fun hne => ?_, fun i p hi hp j hj => ?_⟩
  · rcases h.st hne with h1 | h1
    · exact .inl h1
    · rcases List.mem_cons.1 h1 with rfl | h2
      · rcases hk with hk | hk
        · exact absurd hk hne
        · exact .inl hk
      · exact .inr h2
  · rcases h.cl i p hi hp j hj with h1 | h1 | h1
    · exact .inl h1
    · exact .inr (.inl h1)
    · rcases List.mem_cons.1 h1 with rfl | h2
      · rcases hk with hk | hk
        · exact .inl hk
        · exact .inr (.inl hk)
      · exact .inr (.inr h2)
theorem ArI.done {pts : List Pt} {wo a : Nat} {fl : List Bool} (h : ArI pts wo a fl []) (k : Nat) : fl.getD k false = true ↔ Ard pts wo a k := by
  refine ⟨h.snd k, fun hl => ?_⟩
  induction hl with
  | refl hne => exact (h.st hne).resolve_right (by simp)
  | step _ hp hj hne ih => exact ((h.cl _ _ ih hp _ hj).resolve_left hne).resolve_right (by simp)

end Go.Proofs.YtfioaohadanjmaaGreat

/- Dominators: impl.graph.around, impl.graph.dominates, impl.Dominates. -/
namespace Go.Proofs.YtfioaohadanjmaaGreat
open Go.RowKit

end Go.Proofs.YtfioaohadanjmaaGreat
