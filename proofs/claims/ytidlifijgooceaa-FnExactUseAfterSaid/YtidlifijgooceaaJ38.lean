import Derived.Test.YtidlifijgooceaaJ37
set_option linter.unusedVariables false

/- Shortest ways: spec.l13Way, spec.ShortWay. -/
namespace Go.Proofs.Ytidlifijgooceaa
open Go.RowKit

set_option maxHeartbeats 8000000 in
set_option maxRecDepth 100000 in
theorem l13Way_any (vp : Value) (pts : List Pt) (B a t : Nat) (w : World) (hp : PtS w B vp pts) (hB : B ≤ w.heap.size) (hpl : pts.length ≤ 61) (hn : ∀ p ∈ pts, ∀ k ∈ p.next, k < pts.length) (hn2 : ∀ p ∈ pts, p.next.length ≤ 2) (ha : a < pts.length) (ht : t < pts.length) :
    Calls Try.prog 89 #[vp, .int .i64 (a : Nat), .int .i64 (t : Nat)] w (WayRet w pts a t) := by
  have GN := Lib.hid hn
  have GN2 := Lib.hid hn2
  have HPS := Lib.hid hp
  obtain ⟨Ap, cp, rfl, hcp, -⟩ := hp.slice
  have hmk := make_ints pts.length (by omega)
  rw [iv_zi] at hmk
  have HR0 : Hid (RowB (w.alloc (.cells (zi (List.replicate pts.length 0)).toArray 3)) w.heap.size 3 (zi (List.replicate 0 (-1) ++ List.replicate (pts.length - 0) 0))) := Lib.hid (by simpa using RowB.new w (zi (List.replicate pts.length 0)) 3)
  have HB0 := Lib.hid (bel_a w (.cells (zi (List.replicate pts.length 0)).toArray 3))
  generalize List.replicate pts.length 0 = z0 at hmk HB0 HR0
  clear hp hn hn2
  go_enter Try.func89, Try.ntmps89
  go_wp2_with (at_builtin; fail)
  clear hmk
  go_loopw [9] (fun i wr => ∃ k : Nat, k ≤ pts.length ∧ i = .int .i64 k ∧ RowB wr w.heap.size 3 (zi (List.replicate k (-1) ++ List.replicate (pts.length - k) 0)) ∧ Below w.heap.size w wr) (fun i _ => pts.length - (intOf i).toNat)
  case atStart => exact ⟨0, Nat.zero_le _, rfl, HR0.out, HB0.out⟩
  case round =>
    obtain ⟨k, hk, rfl, hrw, hbw⟩ := hrel
    have HRW := Lib.hid hrw
    have HBW := Lib.hid hbw
    have hrl := hrw.lt
    have hsw := hbw.size
    by_cases hlt : k < pts.length
    · have d0 := hrw.cell k
      rw [zi_get 0 (by simp; omega)] at d0
      have f0 := hrw.frozen k
      have HNX : Hid (RowB (wr.setCell ⟨w.heap.size, k, none⟩ (.int .i64 (-1))) w.heap.size 3 (zi (List.replicate (k + 1) (-1) ++ List.replicate (pts.length - (k + 1)) 0))) := Lib.hid (by
        have h := hrw.set_ k (.int .i64 (-1))
        rw [zi_set, neg_step hlt] at h
        exact h)
      generalize (List.replicate k (-1) ++ List.replicate (pts.length - k) 0).getD k 0 = x0 at *
      clear hrw hbw
      go_wp2_with (at_builtin; fail)
      exact ⟨⟨k + 1, by omega, by go_num, HNX.out, HBW.out.setCell (p := ⟨w.heap.size, k, none⟩) (Nat.le_refl _) _⟩, by simp [intOf] <;> omega⟩
    · have hkl : k = pts.length := by omega
      have HRN : Hid (RowB wr w.heap.size 3 (zi (List.replicate pts.length (-1)))) := Lib.hid (by have h := hrw; rw [hkl, Nat.sub_self] at h; simpa using h)
      have HI := Lib.hid (WyS.init pts a)
      have HMU := Lib.hid (muW2_init pts a hpl)
      have HTN : Hid ((List.replicate pts.length (-1 : Int)).getD t (-1) < 0) := Lib.hid (by rw [getD_rep _ _ _ _ ht]; omega)
      have hkf : decide ((k : Int) < (pts.length : Int)) = false := decide_eq_false (by omega)
      have HQ0 := Lib.hid (Qu.one (w := wr) (base := w.heap.size + 1) (by omega) a)
      have HRN1 := Lib.hid (HRN.out.alloc (.cells #[.int .i64 (a : Nat)] 3))
      have HBN := Lib.hid (HBW.out.alloc hsw (.cells #[.int .i64 (a : Nat)] 3))
      clear hkl hrw hbw HRW HRN HBW
      generalize List.replicate pts.length (-1 : Int) = bk0 at *
      go_wp2_with (at_builtin; fail)
      clear hkf
      generalize wr.alloc (.cells #[.int .i64 (a : Nat)] 3) = w3 at *
      go_loopg [10] (muW2 ⟨bk0, [a], [], a⟩ + 1) (fun gk v wr => ∃ (bk : List Int) (q : List Nat) (d : Nat), Qu wr (w.heap.size + 1) v q ∧ RowB wr w.heap.size 3 (zi bk) ∧ WyS pts a ⟨bk, q, [], d⟩ ∧ bk.getD t (-1) < 0 ∧ (muW2 ⟨bk, q, [], d⟩ < gk ∧ muW2 ⟨bk, q, [], d⟩ ≤ 400) ∧ Below w.heap.size w wr)
      case atStart => exact ⟨bk0, [a], a, HQ0.out, HRN1.out, HI.out, HTN.out, ⟨by omega, HMU.out⟩, HBN.out⟩
      case round =>
        obtain ⟨bk, q, d, hq, hrw, hws, htn, hmu, hbw⟩ := hrel
        have HRW := Lib.hid hrw
        have HWS := Lib.hid hws
        have HTX := Lib.hid htn
        have HMK := Lib.hid hmu.1
        have HM4 := Lib.hid hmu.2
        have HBW := Lib.hid hbw
        have hsw := hbw.size
        have hrl := hrw.lt
        obtain ⟨hbl, hqb, -, -, hvb⟩ := hws.bnd ha GN.out
        simp only at hbl hqb hvb
        have HNO := Lib.hid (fun h1 => wayC_none HWS.out (t := t) h1 rfl htn)
        simp only at HNO
        clear hmu HI HMU HQ0 HRN1 HBN hvb hws hbl htn HTN
        cases q with
        | nil =>
          obtain ⟨gq, oq, cq, rfl, hcq⟩ := hq.slice
          have HN := Lib.hid (HNO.out (by trivial))
          have HRES := Lib.hid (wayN_none HN.out)
          clear hq hrw hbw hqb HNO
          simp only [List.length_nil] at hcq ⊢
          go_wp2_with (at_builtin; fail)
          go_ret2
          exact ⟨_, by rw [HN.out]; rfl, by rw [HRES.out]; exact IntS.nil' _ _ _ 0, HBW.out.trans ((bel_a wr _).mono hsw)⟩
        | cons k r =>
          obtain ⟨gq, oq, cq, rfl, hqc, hql, hhd, hpop⟩ := hq.head
          have HPOP := Lib.hid hpop
          have hk : k < pts.length := hqb k (by simp)
          have HMP := Lib.hid (WyS.popMu ha GN.out GN2.out HWS.out hk)
          have HWP := Lib.hid (HWS.out.pop hk)
          have hrl4 : r.length ≤ 400 := by have := HM4.out; simp only [muW2, List.length_cons] at this; omega
          obtain ⟨b3, off3, c3, nv, e, hb3, hc3, hl3, hnx, z0, z1, z2, z3, z4⟩ := HPS.out.get hk
          injection e with e1 e9 e2
          subst e1 e2
          have HNX := Lib.hid hnx
          obtain ⟨An, cn, rfl, hcn, hln, -⟩ := hnx
          simp only [List.length_map] at z4 hcn hln HNX
          have HNXB := Lib.hid (GN.out _ (List.getElem_mem hk))
          have hn2 : pts[k].next.length ≤ 2 := GN2.out _ (List.getElem_mem hk)
          generalize pts[k].next = nx at *
          have Z4 := Lib.hid z4
          have hb3w : b3 < w.heap.size := by omega
          have hq0 : decide ((0 : Int) < ((r.length + 1 : Nat) : Int)) = true := decide_eq_true (by omega)
          clear e9 hpop hq z0 z1 z2 z3 z4 hqb hrw hbw HNO
          (try simp only [List.length_cons])
          rcases Nat.eq_zero_or_pos cq with hc0q | hc0q
          · subst hc0q
            have HT : Hid (Qu wr (w.heap.size + 1) (.slice (some ⟨gq, oq, none⟩) 0 0) r) := Lib.hid (by
              have := HPOP.out oq (by simp)
              rwa [show r.length = 0 by omega] at this)
            go_wp2_with (at_builtin; fail)
            clear hq0
            go_loopw [10, 12] (fun v i wr => ∃ (j : Nat) (bk' : List Int) (q' : List Nat), j ≤ nx.length ∧ i = .int .i64 j ∧ Qu wr (w.heap.size + 1) v q' ∧ RowB wr w.heap.size 3 (zi bk') ∧ WyS pts a ⟨bk', q', nx.drop j, k⟩ ∧ bk'.getD t (-1) < 0 ∧ muW2 ⟨bk', q', nx.drop j, k⟩ < muW2 ⟨bk, k :: r, [], d⟩ ∧ Below w.heap.size w wr) (fun _ i _ => nx.length - (intOf i).toNat)
            case atStart => exact ⟨0, bk, r, Nat.zero_le _, rfl, HT.out, HRW.out, HWP.out, HTX.out, HMP.out, HBW.out⟩
            case round =>
              obtain ⟨j, bk', q', hj, rfl, hq', hrw', hws', htn', hmu', hbw'⟩ := hrel
              have HQ' := Lib.hid hq'
              have HRW' := Lib.hid hrw'
              have HWS' := Lib.hid hws'
              have HTN' := Lib.hid htn'
              have HMU' := Lib.hid hmu'
              have HBW' := Lib.hid hbw'
              have hsw' := hbw'.size
              have hrl' := hrw'.lt
              obtain ⟨hbl', -, -, -, -⟩ := hws'.bnd ha GN.out
              simp only at hbl'
              have HBL' := Lib.hid hbl'
              obtain ⟨gq', oq', cq', rfl, hcq'⟩ := hq'.slice
              have hq4 : q'.length ≤ 400 := by have := HMU'.out; have := HM4.out; simp only [muW2] at *; omega
              have p4 := (hbw'.cell (p := ⟨b3, off3 + k * 5 + 4, none⟩) (by show b3 < _; omega)).trans Z4.out
              clear hq' hws' htn' hmu'
              by_cases hjl : j < nx.length
              · have hjd : decide ((j : Int) < (nx.length : Int)) = true := decide_eq_true (by omega)
                have HDR : Hid (nx.drop j = nx[j] :: nx.drop (j + 1)) := Lib.hid (List.drop_eq_getElem_cons hjl)
                obtain ⟨bn, on, rfl, hbn, hcell⟩ := Rd.int_at (l := msk nx) (by
                  obtain ⟨A2, c2, e2, _, _, hr2⟩ := HNX.out
                  injection e2 with e2 _ _
                  subst e2
                  exact hr2) (k := j) (by rw [msk_len]; exact hjl)
                have hcj := hcell j (by rw [msk_len]; exact hjl)
                rw [show (msk nx).getD j 0 = ((nx[j] : Nat) : Int) by rw [getD_lt (by rw [msk_len]; exact hjl)]; simp [msk]] at hcj
                have hm := HNXB.out nx[j] (List.getElem_mem hjl)
                generalize nx[j] = m at *
                have hcw := (hbw'.cell (p := ⟨bn, on + j, none⟩) (by show bn < _; omega)).trans hcj
                have hml : m < bk'.length := by omega
                have dm := hrw'.cell m
                rw [zi_get (-1) hml] at dm
                have fm := hrw'.frozen m
                have HW2 : Hid (WyS pts a ⟨bk', q', m :: nx.drop (j + 1), k⟩) := Lib.hid (by rw [← HDR.out]; exact HWS'.out)
                have HM2 : Hid (muW2 ⟨bk', q', m :: nx.drop (j + 1), k⟩ < muW2 ⟨bk, k :: r, [], d⟩) := Lib.hid (by rw [← HDR.out]; exact HMU'.out)
                clear hcell hcj hrw' hbw' hbl'
                by_cases hneg : bk'.getD m (-1) < 0
                · have HWT := Lib.hid (HW2.out.take hneg)
                  have HMT := Lib.hid (Nat.lt_trans (WyS.takeMu ha GN.out GN2.out HW2.out hneg) HM2.out)
                  have hnd : decide (bk'.getD m (-1) ≥ 0) = false := decide_eq_false (by omega)
                  have HRS : Hid (RowB (wr.setCell ⟨w.heap.size, m, none⟩ (.int .i64 (k : Nat))) w.heap.size 3 (zi (bk'.set m (k : Nat)))) := Lib.hid (by rw [← zi_set]; exact HRW'.out.set_ m _)
                  have HQS := Lib.hid (HQ'.out.other (b := w.heap.size) (by omega) m (.int .i64 (k : Nat)))
                  have HBS := Lib.hid (HBW'.out.setCell (p := ⟨w.heap.size, m, none⟩) (Nat.le_refl _) (.int .i64 (k : Nat)))
                  have hsS : (wr.setCell ⟨w.heap.size, m, none⟩ (.int .i64 (k : Nat))).heap.size = wr.heap.size := by simp [World.setCell]
                  have HSZ := Lib.hid hsS
                  have HGM : Hid (∀ u, (bk'.set m ((k : Nat) : Int)).getD u (-1) = if u = m then ((k : Nat) : Int) else bk'.getD u (-1)) := Lib.hid fun u => getD_setT hml
                  have hneg2 : ¬ (0 ≤ bk'.getD m (-1)) := by omega
                  by_cases hmt : m = t
                  · have hmte : ((m : Int) == (t : Int)) = true := by simp; omega
                    have hf : 0 ≤ (bk'.set m ((k : Nat) : Int)).getD t (-1) := by rw [HGM.out, if_pos hmt.symm]; omega
                    obtain ⟨L, hchn, hwc, hLl⟩ := WyS.chn ha GN.out HWT.out (t := t) hf
                    obtain ⟨hbl2, -, -, -, hvb2⟩ := HWT.out.bnd ha GN.out
                    simp only at hbl2 hvb2 hchn
                    have HBK := Lib.hid (l13Back_any w.heap.size pts.length a t pts.length (bk'.set m ((k : Nat) : Int)) L _ HRS.out hbl2.symm (by omega) ht hchn hLl (fun u => (hvb2 u).2))
                    have HWC := Lib.hid hwc
                    have HRES := Lib.hid (wayN_some hwc)
                    have HMT2 := Lib.hid hmt
                    generalize bk'.getD m (-1) = bm at *
                    clear hf hchn hwc hbl2 hvb2 hmt hneg hsS
                    go_wp2_with (at_builtin; fail)
                    refine HBK.out.mono ?_
                    rintro e w8 ⟨v8, rfl, hi8, hb8⟩
                    have HI8 := Lib.hid hi8
                    have HB8 := Lib.hid (HBS.out.trans (hb8.mono (by have := HSZ.out; omega)))
                    clear hi8 hb8
                    go_wp2_with (at_builtin; fail)
                    go_ret2
                    exact ⟨_, by rw [HWC.out]; rfl, by rw [HRES.out]; exact HI8.out, HB8.out⟩
                  · have hmte : ((m : Int) == (t : Int)) = false := by simp; omega
                    have HTT : Hid ((bk'.set m ((k : Nat) : Int)).getD t (-1) < 0) := Lib.hid (by rw [HGM.out, if_neg (fun h => hmt h.symm)]; exact HTN'.out)
                    have HA := fun o => (HQS.out.bel (bel_a (wr.setCell ⟨w.heap.size, m, none⟩ (.int .i64 (k : Nat))) o))
                    have HAQ := Lib.hid HA
                    have HI1 := Lib.hid (Qu.ints (w := wr.setCell ⟨w.heap.size, m, none⟩ (.int .i64 (k : Nat))) (base := 0) (Nat.zero_le _) m)
                    have HRA := Lib.hid (fun o => HRS.out.alloc o)
                    have HBA := Lib.hid (fun o => HBS.out.alloc (by rw [hsS]; omega) o)
                    rw [hsS] at HI1
                    generalize bk'.getD m (-1) = bm at *
                    clear hneg HA hsS hmt
                    go_wp2_with (at_builtin; go_must (refine wpList_app_q rfl (.tmp 70) (.tmp 72) rfl (HAQ.out _) (by have := HSZ.out; simp; omega) (by omega) HI1.out (by simp) rfl rfl ?_); intro v' w' hQ' hE')
                    exact ⟨⟨j + 1, _, _, by omega, by go_num, hQ', (HRA.out _).low hE' (by omega), HWT.out, HTT.out, HMT.out, (HBA.out _).trans (hE'.mono (by omega))⟩, by simp [intOf] <;> omega⟩
                · have HWT := Lib.hid (HW2.out.skip (by omega))
                  have HMT := Lib.hid (Nat.lt_trans (WyS.skipMu ha GN.out GN2.out HW2.out (by omega)) HM2.out)
                  have hnd : decide (bk'.getD m (-1) ≥ 0) = true := decide_eq_true (by omega)
                  have hneg2 : 0 ≤ bk'.getD m (-1) := by omega
                  generalize bk'.getD m (-1) = bm at *
                  go_wp2_with (at_builtin; fail)
                  exact ⟨⟨j + 1, bk', q', by omega, by go_num, HQ'.out, HRW'.out, HWT.out, HTN'.out, HMT.out, HBW'.out⟩, by simp [intOf] <;> omega⟩
              · have hjd : decide ((j : Int) < (nx.length : Int)) = false := decide_eq_false (by omega)
                have hje : j = nx.length := by omega
                have HW2 : Hid (WyS pts a ⟨bk', q', [], k⟩) := Lib.hid (by have h := HWS'.out; rw [hje, List.drop_length] at h; exact h)
                have HM2 : Hid (muW2 ⟨bk', q', [], k⟩ < muW2 ⟨bk, k :: r, [], d⟩) := Lib.hid (by have h := HMU'.out; rw [hje, List.drop_length] at h; exact h)
                clear hje hrw' hbw' hbl'
                go_wp2_with (at_builtin; fail)
                go_roundg (muW2 ⟨bk, k :: r, [], d⟩)
                case measure => exact HMK.out
                case rel => exact ⟨bk', q', k, HQ'.out, HRW'.out, HW2.out, HTN'.out, ⟨HM2.out, Nat.le_of_lt (Nat.lt_of_lt_of_le HM2.out HM4.out)⟩, HBW'.out⟩
          · have HT : Hid (Qu wr (w.heap.size + 1) (.slice (some ⟨gq, oq + 1, none⟩) r.length cq) r) := Lib.hid (HPOP.out (oq + 1) (by simp))
            go_wp2_with (at_builtin; fail)
            clear hq0
            go_loopw [10, 12] (fun v i wr => ∃ (j : Nat) (bk' : List Int) (q' : List Nat), j ≤ nx.length ∧ i = .int .i64 j ∧ Qu wr (w.heap.size + 1) v q' ∧ RowB wr w.heap.size 3 (zi bk') ∧ WyS pts a ⟨bk', q', nx.drop j, k⟩ ∧ bk'.getD t (-1) < 0 ∧ muW2 ⟨bk', q', nx.drop j, k⟩ < muW2 ⟨bk, k :: r, [], d⟩ ∧ Below w.heap.size w wr) (fun _ i _ => nx.length - (intOf i).toNat)
            case atStart => exact ⟨0, bk, r, Nat.zero_le _, rfl, HT.out, HRW.out, HWP.out, HTX.out, HMP.out, HBW.out⟩
            case round =>
              obtain ⟨j, bk', q', hj, rfl, hq', hrw', hws', htn', hmu', hbw'⟩ := hrel
              have HQ' := Lib.hid hq'
              have HRW' := Lib.hid hrw'
              have HWS' := Lib.hid hws'
              have HTN' := Lib.hid htn'
              have HMU' := Lib.hid hmu'
              have HBW' := Lib.hid hbw'
              have hsw' := hbw'.size
              have hrl' := hrw'.lt
              obtain ⟨hbl', -, -, -, -⟩ := hws'.bnd ha GN.out
              simp only at hbl'
              have HBL' := Lib.hid hbl'
              obtain ⟨gq', oq', cq', rfl, hcq'⟩ := hq'.slice
              have hq4 : q'.length ≤ 400 := by have := HMU'.out; have := HM4.out; simp only [muW2] at *; omega
              have p4 := (hbw'.cell (p := ⟨b3, off3 + k * 5 + 4, none⟩) (by show b3 < _; omega)).trans Z4.out
              clear hq' hws' htn' hmu'
              by_cases hjl : j < nx.length
              · have hjd : decide ((j : Int) < (nx.length : Int)) = true := decide_eq_true (by omega)
                have HDR : Hid (nx.drop j = nx[j] :: nx.drop (j + 1)) := Lib.hid (List.drop_eq_getElem_cons hjl)
                obtain ⟨bn, on, rfl, hbn, hcell⟩ := Rd.int_at (l := msk nx) (by
                  obtain ⟨A2, c2, e2, _, _, hr2⟩ := HNX.out
                  injection e2 with e2 _ _
                  subst e2
                  exact hr2) (k := j) (by rw [msk_len]; exact hjl)
                have hcj := hcell j (by rw [msk_len]; exact hjl)
                rw [show (msk nx).getD j 0 = ((nx[j] : Nat) : Int) by rw [getD_lt (by rw [msk_len]; exact hjl)]; simp [msk]] at hcj
                have hm := HNXB.out nx[j] (List.getElem_mem hjl)
                generalize nx[j] = m at *
                have hcw := (hbw'.cell (p := ⟨bn, on + j, none⟩) (by show bn < _; omega)).trans hcj
                have hml : m < bk'.length := by omega
                have dm := hrw'.cell m
                rw [zi_get (-1) hml] at dm
                have fm := hrw'.frozen m
                have HW2 : Hid (WyS pts a ⟨bk', q', m :: nx.drop (j + 1), k⟩) := Lib.hid (by rw [← HDR.out]; exact HWS'.out)
                have HM2 : Hid (muW2 ⟨bk', q', m :: nx.drop (j + 1), k⟩ < muW2 ⟨bk, k :: r, [], d⟩) := Lib.hid (by rw [← HDR.out]; exact HMU'.out)
                clear hcell hcj hrw' hbw' hbl'
                by_cases hneg : bk'.getD m (-1) < 0
                · have HWT := Lib.hid (HW2.out.take hneg)
                  have HMT := Lib.hid (Nat.lt_trans (WyS.takeMu ha GN.out GN2.out HW2.out hneg) HM2.out)
                  have hnd : decide (bk'.getD m (-1) ≥ 0) = false := decide_eq_false (by omega)
                  have HRS : Hid (RowB (wr.setCell ⟨w.heap.size, m, none⟩ (.int .i64 (k : Nat))) w.heap.size 3 (zi (bk'.set m (k : Nat)))) := Lib.hid (by rw [← zi_set]; exact HRW'.out.set_ m _)
                  have HQS := Lib.hid (HQ'.out.other (b := w.heap.size) (by omega) m (.int .i64 (k : Nat)))
                  have HBS := Lib.hid (HBW'.out.setCell (p := ⟨w.heap.size, m, none⟩) (Nat.le_refl _) (.int .i64 (k : Nat)))
                  have hsS : (wr.setCell ⟨w.heap.size, m, none⟩ (.int .i64 (k : Nat))).heap.size = wr.heap.size := by simp [World.setCell]
                  have HSZ := Lib.hid hsS
                  have HGM : Hid (∀ u, (bk'.set m ((k : Nat) : Int)).getD u (-1) = if u = m then ((k : Nat) : Int) else bk'.getD u (-1)) := Lib.hid fun u => getD_setT hml
                  have hneg2 : ¬ (0 ≤ bk'.getD m (-1)) := by omega
                  by_cases hmt : m = t
                  · have hmte : ((m : Int) == (t : Int)) = true := by simp; omega
                    have hf : 0 ≤ (bk'.set m ((k : Nat) : Int)).getD t (-1) := by rw [HGM.out, if_pos hmt.symm]; omega
                    obtain ⟨L, hchn, hwc, hLl⟩ := WyS.chn ha GN.out HWT.out (t := t) hf
                    obtain ⟨hbl2, -, -, -, hvb2⟩ := HWT.out.bnd ha GN.out
                    simp only at hbl2 hvb2 hchn
                    have HBK := Lib.hid (l13Back_any w.heap.size pts.length a t pts.length (bk'.set m ((k : Nat) : Int)) L _ HRS.out hbl2.symm (by omega) ht hchn hLl (fun u => (hvb2 u).2))
                    have HWC := Lib.hid hwc
                    have HRES := Lib.hid (wayN_some hwc)
                    have HMT2 := Lib.hid hmt
                    generalize bk'.getD m (-1) = bm at *
                    clear hf hchn hwc hbl2 hvb2 hmt hneg hsS
                    go_wp2_with (at_builtin; fail)
                    refine HBK.out.mono ?_
                    rintro e w8 ⟨v8, rfl, hi8, hb8⟩
                    have HI8 := Lib.hid hi8
                    have HB8 := Lib.hid (HBS.out.trans (hb8.mono (by have := HSZ.out; omega)))
                    clear hi8 hb8
                    go_wp2_with (at_builtin; fail)
                    go_ret2
                    exact ⟨_, by rw [HWC.out]; rfl, by rw [HRES.out]; exact HI8.out, HB8.out⟩
                  · have hmte : ((m : Int) == (t : Int)) = false := by simp; omega
                    have HTT : Hid ((bk'.set m ((k : Nat) : Int)).getD t (-1) < 0) := Lib.hid (by rw [HGM.out, if_neg (fun h => hmt h.symm)]; exact HTN'.out)
                    have HA := fun o => (HQS.out.bel (bel_a (wr.setCell ⟨w.heap.size, m, none⟩ (.int .i64 (k : Nat))) o))
                    have HAQ := Lib.hid HA
                    have HI1 := Lib.hid (Qu.ints (w := wr.setCell ⟨w.heap.size, m, none⟩ (.int .i64 (k : Nat))) (base := 0) (Nat.zero_le _) m)
                    have HRA := Lib.hid (fun o => HRS.out.alloc o)
                    have HBA := Lib.hid (fun o => HBS.out.alloc (by rw [hsS]; omega) o)
                    rw [hsS] at HI1
                    generalize bk'.getD m (-1) = bm at *
                    clear hneg HA hsS hmt
                    go_wp2_with (at_builtin; go_must (refine wpList_app_q rfl (.tmp 70) (.tmp 72) rfl (HAQ.out _) (by have := HSZ.out; simp; omega) (by omega) HI1.out (by simp) rfl rfl ?_); intro v' w' hQ' hE')
                    exact ⟨⟨j + 1, _, _, by omega, by go_num, hQ', (HRA.out _).low hE' (by omega), HWT.out, HTT.out, HMT.out, (HBA.out _).trans (hE'.mono (by omega))⟩, by simp [intOf] <;> omega⟩
                · have HWT := Lib.hid (HW2.out.skip (by omega))
                  have HMT := Lib.hid (Nat.lt_trans (WyS.skipMu ha GN.out GN2.out HW2.out (by omega)) HM2.out)
                  have hnd : decide (bk'.getD m (-1) ≥ 0) = true := decide_eq_true (by omega)
                  have hneg2 : 0 ≤ bk'.getD m (-1) := by omega
                  generalize bk'.getD m (-1) = bm at *
                  go_wp2_with (at_builtin; fail)
                  exact ⟨⟨j + 1, bk', q', by omega, by go_num, HQ'.out, HRW'.out, HWT.out, HTN'.out, HMT.out, HBW'.out⟩, by simp [intOf] <;> omega⟩
              · have hjd : decide ((j : Int) < (nx.length : Int)) = false := decide_eq_false (by omega)
                have hje : j = nx.length := by omega
                have HW2 : Hid (WyS pts a ⟨bk', q', [], k⟩) := Lib.hid (by have h := HWS'.out; rw [hje, List.drop_length] at h; exact h)
                have HM2 : Hid (muW2 ⟨bk', q', [], k⟩ < muW2 ⟨bk, k :: r, [], d⟩) := Lib.hid (by have h := HMU'.out; rw [hje, List.drop_length] at h; exact h)
                clear hje hrw' hbw' hbl'
                go_wp2_with (at_builtin; fail)
                go_roundg (muW2 ⟨bk, k :: r, [], d⟩)
                case measure => exact HMK.out
                case rel => exact ⟨bk', q', k, HQ'.out, HRW'.out, HW2.out, HTN'.out, ⟨HM2.out, Nat.le_of_lt (Nat.lt_of_lt_of_le HM2.out HM4.out)⟩, HBW'.out⟩

theorem graphOk2_no {ts : List Int} {l : List St} {a b : Int} (h : a < 0 ∨ (pointsP ts l).length ≤ a ∨ b < 0 ∨ (pointsP ts l).length ≤ b) : graphOk ts l [a, b] = false := by
  cases e : graphOk ts l [a, b]
  · rfl
  · obtain ⟨hv, k, j, rfl, rfl, hk, hj⟩ := graphOk_two e
    unfold pointsP at h
    rw [if_pos hv] at h
    omega
theorem graphOk2_yes {ts : List Int} {l : List St} {a b : Int} (h0 : 0 ≤ a) (h : a < (pointsP ts l).length) (h1 : 0 ≤ b) (h2 : b < (pointsP ts l).length) : validP ts l = true ∧ pointsP ts l = ptsP l ∧ graphOk ts l [a, b] = true := by
  obtain ⟨hv, hp, _⟩ := graphOk_yes h0 h
  rw [hp] at h h2
  refine ⟨hv, hp, ?_⟩
  simp only [graphOk, hv, Bool.true_and, List.all_cons, List.all_nil, Bool.and_true, withinP, Bool.and_eq_true, decide_eq_true_eq]
  omega

end Go.Proofs.Ytidlifijgooceaa
