import Derived.Test.YtmaaaiccmllnlaaG44
import Derived.Test.YtmaaaiccmllnlaaG38
import Derived.Test.YtmaaaiccmllnlaaG42
import Derived.Test.YtmaaaiccmllnlaaG10
import Derived.Test.YtmaaaiccmllnlaaG12
import Derived.Test.YtmaaaiccmllnlaaG28
import Derived.Test.YtmaaaiccmllnlaaG20
set_option linter.unusedVariables false

/- Shortest ways: spec.l13Way, spec.ShortWay. -/
namespace Go.Proofs.Ytmaaaiccmllnlaa
open Go.RowKit

set_option maxHeartbeats 8000000 in
set_option maxRecDepth 100000 in
theorem l13Way_any (vp : Value) (pts : List Pt) (B a t : Nat) (w : World) (hp : PtS w B vp pts) (hB : B ≤ w.heap.size) (hpl : pts.length ≤ 61) (hn : ∀ p ∈ pts, ∀ k ∈ p.next, k < pts.length) (hn2 : ∀ p ∈ pts, p.next.length ≤ 2) (ha : a < pts.length) (ht : t < pts.length) :
    Calls Try.prog 82 #[vp, .int .i64 (a : Nat), .int .i64 (t : Nat)] w (WayRet w pts a t) := by
  have GN := Lib.hid hn
  have GN2 := Lib.hid hn2
  have HPS := Lib.hid hp
  obtain ⟨Ap, cp, rfl, hcp, -⟩ := hp.slice
  have hmk := make_ints pts.length (by omega)
  rw [iv_zi] at hmk
  have HR0 : Hid (RowB (w.alloc (.cells (zi (List.replicate pts.length 0)).toArray 3)) w.heap.size 3 (zi (List.replicate 0 (-1) ++ List.replicate (pts.length - 0) 0))) := Lib.hid (by simpa using RowB.new w (zi (List.replicate pts.length 0)) 3)
  have HB0 := Lib.hid (bel_a w (.cells (zi (List.replicate pts.length 0)).toArray 3))
  generalize List.replicate pts.length 0 = z0 at hmk HB0 HR0
  clear hp hn hn2
  go_enter Try.func82, Try.ntmps82
  go_wp2_with (at_builtin; fail)
  clear hmk
  go_loopw [9] (fun i wr => ∃ k : Nat, k ≤ pts.length ∧ i = .int .i64 k ∧ RowB wr w.heap.size 3 (zi (List.replicate k (-1) ++ List.replicate (pts.length - k) 0)) ∧ Below w.heap.size w wr) (fun i _ => pts.length - (intOf i).toNat)
  case atStart => exact ⟨0, Nat.zero_le _, rfl, HR0.out, HB0.out⟩
  case round =>
    obtain ⟨k, hk, rfl, hrw, hbw⟩ := hrel
    have HRW := Lib.hid hrw
    have HBW := Lib.hid hbw
    have hrl := hrw.lt
    have hsw := hbw.size
    by_cases hlt : k < pts.length
    · have d0 := hrw.cell k
      rw [zi_get 0 (by simp; omega)] at d0
      have f0 := hrw.frozen k
      have HNX : Hid (RowB (wr.setCell ⟨w.heap.size, k, none⟩ (.int .i64 (-1))) w.heap.size 3 (zi (List.replicate (k + 1) (-1) ++ List.replicate (pts.length - (k + 1)) 0))) := Lib.hid (by
        have h := hrw.set_ k (.int .i64 (-1))
        rw [zi_set, neg_step hlt] at h
        exact h)
      generalize (List.replicate k (-1) ++ List.replicate (pts.length - k) 0).getD k 0 = x0 at *
      clear hrw hbw
      go_wp2_with (at_builtin; fail)
      exact ⟨⟨k + 1, by omega, by go_num, HNX.out, HBW.out.setCell (p := ⟨w.heap.size, k, none⟩) (Nat.le_refl _) _⟩, by simp [intOf] <;> omega⟩
    · have hkl : k = pts.length := by omega
      have HRN : Hid (RowB wr w.heap.size 3 (zi (List.replicate pts.length (-1)))) := Lib.hid (by have h := hrw; rw [hkl, Nat.sub_self] at h; simpa using h)
      have HI := Lib.hid (WyS.init pts a)
      have HMU := Lib.hid (muW2_init pts a hpl)
      have HTN : Hid ((List.replicate pts.length (-1 : Int)).getD t (-1) < 0) := Lib.hid (by rw [getD_rep _ _ _ _ ht]; omega)
      have hkf : decide ((k : Int) < (pts.length : Int)) = false := decide_eq_false (by omega)
      have HQ0 := Lib.hid (Qu.one (w := wr) (base := w.heap.size + 1) (by omega) a)
      have HRN1 := Lib.hid (HRN.out.alloc (.cells #[.int .i64 (a : Nat)] 3))
      have HBN := Lib.hid (HBW.out.alloc hsw (.cells #[.int .i64 (a : Nat)] 3))
      clear hkl hrw hbw HRW HRN HBW
      generalize List.replicate pts.length (-1 : Int) = bk0 at *
      go_wp2_with (at_builtin; fail)
      clear hkf
      generalize wr.alloc (.cells #[.int .i64 (a : Nat)] 3) = w3 at *
      go_loopg [10] (muW2 ⟨bk0, [a], [], a⟩ + 1) (fun gk v wr => ∃ (bk : List Int) (q : List Nat) (d : Nat), Qu wr (w.heap.size + 1) v q ∧ RowB wr w.heap.size 3 (zi bk) ∧ WyS pts a ⟨bk, q, [], d⟩ ∧ bk.getD t (-1) < 0 ∧ (muW2 ⟨bk, q, [], d⟩ < gk ∧ muW2 ⟨bk, q, [], d⟩ ≤ 400) ∧ Below w.heap.size w wr)
      case atStart => exact ⟨bk0, [a], a, HQ0.out, HRN1.out, HI.out, HTN.out, ⟨by omega, HMU.out⟩, HBN.out⟩
      case round =>
        obtain ⟨bk, q, d, hq, hrw, hws, htn, hmu, hbw⟩ := hrel
        have HRW := Lib.hid hrw
        have HWS := Lib.hid hws
        have HTX := Lib.hid htn
        have HMK := Lib.hid hmu.1
        have HM4 := Lib.hid hmu.2
        have HBW := Lib.hid hbw
        have hsw := hbw.size
        have hrl := hrw.lt
        obtain ⟨hbl, hqb, -, -, hvb⟩ := hws.bnd ha GN.out
        simp only at hbl hqb hvb
        have HNO := Lib.hid (fun h1 => wayC_none HWS.out (t := t) h1 rfl htn)
        simp only at HNO
        clear hmu HI HMU HQ0 HRN1 HBN hvb hws hbl htn HTN
        cases q with
        | nil =>
          obtain ⟨gq, oq, cq, rfl, hcq⟩ := hq.slice
          have HN := Lib.hid (HNO.out (by trivial))
          have HRES := Lib.hid (wayN_none HN.out)
          clear hq hrw hbw hqb HNO
          simp only [List.length_nil] at hcq ⊢
          go_wp2_with (at_builtin; fail)
          go_ret2
          exact ⟨_, by rw [HN.out]; rfl, by rw [HRES.out]; exact IntS.nil' _ _ _ 0, HBW.out.trans ((bel_a wr _).mono hsw)⟩
        | cons k r =>
          obtain ⟨gq, oq, cq, rfl, hqc, hql, hhd, hpop⟩ := hq.head
          have HPOP := Lib.hid hpop
          have hk : k < pts.length := hqb k (by simp)
          have HMP := Lib.hid (WyS.popMu ha GN.out GN2.out HWS.out hk)
          have HWP := Lib.hid (HWS.out.pop hk)
          have hrl4 : r.length ≤ 400 := by have := HM4.out; simp only [muW2, List.length_cons] at this; omega
          obtain ⟨b3, off3, c3, nv, e, hb3, hc3, hl3, hnx, z0, z1, z2, z3, z4⟩ := HPS.out.get hk
          injection e with e1 e9 e2
          subst e1 e2
          have HNX := Lib.hid hnx
          obtain ⟨An, cn, rfl, hcn, hln, -⟩ := hnx
          simp only [List.length_map] at z4 hcn hln HNX
          have HNXB := Lib.hid (GN.out _ (List.getElem_mem hk))
          have hn2 : pts[k].next.length ≤ 2 := GN2.out _ (List.getElem_mem hk)
          generalize pts[k].next = nx at *
          have Z4 := Lib.hid z4
          have hb3w : b3 < w.heap.size := by omega
          have hq0 : decide ((0 : Int) < ((r.length + 1 : Nat) : Int)) = true := decide_eq_true (by omega)
          clear e9 hpop hq z0 z1 z2 z3 z4 hqb hrw hbw HNO
          (try simp only [List.length_cons])
          rcases Nat.eq_zero_or_pos cq with hc0q | hc0q
          · subst hc0q
            have HT : Hid (Qu wr (w.heap.size + 1) (.slice (some ⟨gq, oq, none⟩) 0 0) r) := Lib.hid (by
              have := HPOP.out oq (by simp)
              rwa [show r.length = 0 by omega] at this)
            go_wp2_with (at_builtin; fail)
            clear hq0
            go_loopw [10, 12] (fun v i wr => ∃ (j : Nat) (bk' : List Int) (q' : List Nat), j ≤ nx.length ∧ i = .int .i64 j ∧ Qu wr (w.heap.size + 1) v q' ∧ RowB wr w.heap.size 3 (zi bk') ∧ WyS pts a ⟨bk', q', nx.drop j, k⟩ ∧ bk'.getD t (-1) < 0 ∧ muW2 ⟨bk', q', nx.drop j, k⟩ < muW2 ⟨bk, k :: r, [], d⟩ ∧ Below w.heap.size w wr) (fun _ i _ => nx.length - (intOf i).toNat)
            case atStart => exact ⟨0, bk, r, Nat.zero_le _, rfl, HT.out, HRW.out, HWP.out, HTX.out, HMP.out, HBW.out⟩
            case round =>
              obtain ⟨j, bk', q', hj, rfl, hq', hrw', hws', htn', hmu', hbw'⟩ := hrel
              have HQ' := Lib.hid hq'
              have HRW' := Lib.hid hrw'
              have HWS' := Lib.hid hws'
              have HTN' := Lib.hid htn'
              have HMU' := Lib.hid hmu'
              have HBW' := Lib.hid hbw'
              have hsw' := hbw'.size
              have hrl' := hrw'.lt
              obtain ⟨hbl', -, -, -, -⟩ := hws'.bnd ha GN.out
              simp only at hbl'
              have HBL' := Lib.hid hbl'
              obtain ⟨gq', oq', cq', rfl, hcq'⟩ := hq'.slice
              have hq4 : q'.length ≤ 400 := by have := HMU'.out; have := HM4.out; simp only [muW2] at *; omega
              have p4 := (hbw'.cell (p := ⟨b3, off3 + k * 5 + 4, none⟩) (by show b3 < _; omega)).trans Z4.out
              clear hq' hws' htn' hmu'
              by_cases hjl : j < nx.length
              · have hjd : decide ((j : Int) < (nx.length : Int)) = true := decide_eq_true (by omega)
                have HDR : Hid (nx.drop j = nx[j] :: nx.drop (j + 1)) := Lib.hid (List.drop_eq_getElem_cons hjl)
                obtain ⟨bn, on, rfl, hbn, hcell⟩ := Rd.int_at (l := msk nx) (by
                  obtain ⟨A2, c2, e2, _, _, hr2⟩ := HNX.out
                  injection e2 with e2 _ _
                  subst e2
                  exact hr2) (k := j) (by rw [msk_len]; exact hjl)
                have hcj := hcell j (by rw [msk_len]; exact hjl)
                rw [show (msk nx).getD j 0 = ((nx[j] : Nat) : Int) by rw [getD_lt (by rw [msk_len]; exact hjl)]; simp [msk]] at hcj
                have hm := HNXB.out nx[j] (List.getElem_mem hjl)
                generalize nx[j] = m at *
                have hcw := (hbw'.cell (p := ⟨bn, on + j, none⟩) (by show bn < _; omega)).trans hcj
                have hml : m < bk'.length := by omega
                have dm := hrw'.cell m
                rw [zi_get (-1) hml] at dm
                have fm := hrw'.frozen m
                have HW2 : Hid (WyS pts a ⟨bk', q', m :: nx.drop (j + 1), k⟩) := Lib.hid (by rw [← HDR.out]; exact HWS'.out)
                have HM2 : Hid (muW2 ⟨bk', q', m :: nx.drop (j + 1), k⟩ < muW2 ⟨bk, k :: r, [], d⟩) := Lib.hid (by rw [← HDR.out]; exact HMU'.out)
                clear hcell hcj hrw' hbw' hbl'
                by_cases hneg : bk'.getD m (-1) < 0
                · have HWT := Lib.hid (HW2.out.take hneg)
                  have HMT := Lib.hid (Nat.lt_trans (WyS.takeMu ha GN.out GN2.out HW2.out hneg) HM2.out)
                  have hnd : decide (bk'.getD m (-1) ≥ 0) = false := decide_eq_false (by omega)
                  have HRS : Hid (RowB (wr.setCell ⟨w.heap.size, m, none⟩ (.int .i64 (k : Nat))) w.heap.size 3 (zi (bk'.set m (k : Nat)))) := Lib.hid (by rw [← zi_set]; exact HRW'.out.set_ m _)
                  have HQS := Lib.hid (HQ'.out.other (b := w.heap.size) (by omega) m (.int .i64 (k : Nat)))
                  have HBS := Lib.hid (HBW'.out.setCell (p := ⟨w.heap.size, m, none⟩) (Nat.le_refl _) (.int .i64 (k : Nat)))
                  have hsS : (wr.setCell ⟨w.heap.size, m, none⟩ (.int .i64 (k : Nat))).heap.size = wr.heap.size := by simp [World.setCell]
                  have HSZ := Lib.hid hsS
                  have HGM : Hid (∀ u, (bk'.set m ((k : Nat) : Int)).getD u (-1) = if u = m then ((k : Nat) : Int) else bk'.getD u (-1)) := Lib.hid fun u => getD_setT hml
                  have hneg2 : ¬ (0 ≤ bk'.getD m (-1)) := by omega
                  by_cases hmt : m = t
                  · have hmte : ((m : Int) == (t : Int)) = true := by simp; omega
                    have hf : 0 ≤ (bk'.set m ((k : Nat) : Int)).getD t (-1) := by rw [HGM.out, if_pos hmt.symm]; omega
                    obtain ⟨L, hchn, hwc, hLl⟩ := WyS.chn ha GN.out HWT.out (t := t) hf
                    obtain ⟨hbl2, -, -, -, hvb2⟩ := HWT.out.bnd ha GN.out
                    simp only at hbl2 hvb2 hchn
                    have HBK := Lib.hid (l13Back_any w.heap.size pts.length a t pts.length (bk'.set m ((k : Nat) : Int)) L _ HRS.out hbl2.symm (by omega) ht hchn hLl (fun u => (hvb2 u).2))
                    have HWC := Lib.hid hwc
                    have HRES := Lib.hid (wayN_some hwc)
                    have HMT2 := Lib.hid hmt
                    generalize bk'.getD m (-1) = bm at *
                    clear hf hchn hwc hbl2 hvb2 hmt hneg hsS
                    go_wp2_with (at_builtin; fail)
                    refine HBK.out.mono ?_
                    rintro e w8 ⟨v8, rfl, hi8, hb8⟩
                    have HI8 := Lib.hid hi8
                    have HB8 := Lib.hid (HBS.out.trans (hb8.mono (by have := HSZ.out; omega)))
                    clear hi8 hb8
                    go_wp2_with (at_builtin; fail)
                    go_ret2
                    exact ⟨_, by rw [HWC.out]; rfl, by rw [HRES.out]; exact HI8.out, HB8.out⟩
                  · have hmte : ((m : Int) == (t : Int)) = false := by simp; omega
                    have HTT : Hid ((bk'.set m ((k : Nat) : Int)).getD t (-1) < 0) := Lib.hid (by rw [HGM.out, if_neg (fun h => hmt h.symm)]; exact HTN'.out)
                    have HA := fun o => (HQS.out.bel (bel_a (wr.setCell ⟨w.heap.size, m, none⟩ (.int .i64 (k : Nat))) o))
                    have HAQ := Lib.hid HA
                    have HI1 := Lib.hid (Qu.ints (w := wr.setCell ⟨w.heap.size, m, none⟩ (.int .i64 (k : Nat))) (base := 0) (Nat.zero_le _) m)
                    have HRA := Lib.hid (fun o => HRS.out.alloc o)
                    have HBA := Lib.hid (fun o => HBS.out.alloc (by rw [hsS]; omega) o)
                    rw [hsS] at HI1
                    generalize bk'.getD m (-1) = bm at *
                    clear hneg HA hsS hmt
                    go_wp2_with (at_builtin; go_must (refine wpList_app_q rfl (.tmp 70) (.tmp 72) rfl (HAQ.out _) (by have := HSZ.out; simp; omega) (by omega) HI1.out (by simp) rfl rfl ?_); intro v' w' hQ' hE')
                    exact ⟨⟨j + 1, _, _, by omega, by go_num, hQ', (HRA.out _).low hE' (by omega), HWT.out, HTT.out, HMT.out, (HBA.out _).trans (hE'.mono (by omega))⟩, by simp [intOf] <;> omega⟩
                · have HWT := Lib.hid (HW2.out.skip (by omega))
                  have HMT := Lib.hid (Nat.lt_trans (WyS.skipMu ha GN.out GN2.out HW2.out (by omega)) HM2.out)
                  have hnd : decide (bk'.getD m (-1) ≥ 0) = true := decide_eq_true (by omega)
                  have hneg2 : 0 ≤ bk'.getD m (-1) := by omega
                  generalize bk'.getD m (-1) = bm at *
                  go_wp2_with (at_builtin; fail)
                  exact ⟨⟨j + 1, bk', q', by omega, by go_num, HQ'.out, HRW'.out, HWT.out, HTN'.out, HMT.out, HBW'.out⟩, by simp [intOf] <;> omega⟩
              · have hjd : decide ((j : Int) < (nx.length : Int)) = false := decide_eq_false (by omega)
                have hje : j = nx.length := by omega
                have HW2 : Hid (WyS pts a ⟨bk', q', [], k⟩) := Lib.hid (by have h := HWS'.out; rw [hje, List.drop_length] at h; exact h)
                have HM2 : Hid (muW2 ⟨bk', q', [], k⟩ < muW2 ⟨bk, k :: r, [], d⟩) := Lib.hid (by have h := HMU'.out; rw [hje, List.drop_length] at h; exact h)
                clear hje hrw' hbw' hbl'
                go_wp2_with (at_builtin; fail)
                go_roundg (muW2 ⟨bk, k :: r, [], d⟩)
                case measure => exact HMK.out
                case rel => exact ⟨bk', q', k, HQ'.out, HRW'.out, HW2.out, HTN'.out, ⟨HM2.out, Nat.le_of_lt (Nat.lt_of_lt_of_le HM2.out HM4.out)⟩, HBW'.out⟩
          · have HT : Hid (Qu wr (w.heap.size + 1) (.slice (some ⟨gq, oq + 1, none⟩) r.length cq) r) := Lib.hid (HPOP.out (oq + 1) (by simp))
            go_wp2_with (at_builtin; fail)
            clear hq0
            go_loopw [10, 12] (fun v i wr => ∃ (j : Nat) (bk' : List Int) (q' : List Nat), j ≤ nx.length ∧ i = .int .i64 j ∧ Qu wr (w.heap.size + 1) v q' ∧ RowB wr w.heap.size 3 (zi bk') ∧ WyS pts a ⟨bk', q', nx.drop j, k⟩ ∧ bk'.getD t (-1) < 0 ∧ muW2 ⟨bk', q', nx.drop j, k⟩ < muW2 ⟨bk, k :: r, [], d⟩ ∧ Below w.heap.size w wr) (fun _ i _ => nx.length - (intOf i).toNat)
            case atStart => exact ⟨0, bk, r, Nat.zero_le _, rfl, HT.out, HRW.out, HWP.out, HTX.out, HMP.out, HBW.out⟩
            case round =>
              obtain ⟨j, bk', q', hj, rfl, hq', hrw', hws', htn', hmu', hbw'⟩ := hrel
              have HQ' := Lib.hid hq'
              have HRW' := Lib.hid hrw'
              have HWS' := Lib.hid hws'
              have HTN' := Lib.hid htn'
              have HMU' := Lib.hid hmu'
              have HBW' := Lib.hid hbw'
              have hsw' := hbw'.size
              have hrl' := hrw'.lt
              obtain ⟨hbl', -, -, -, -⟩ := hws'.bnd ha GN.out
              simp only at hbl'
              have HBL' := Lib.hid hbl'
              obtain ⟨gq', oq', cq', rfl, hcq'⟩ := hq'.slice
              have hq4 : q'.length ≤ 400 := by have := HMU'.out; have := HM4.out; simp only [muW2] at *; omega
              have p4 := (hbw'.cell (p := ⟨b3, off3 + k * 5 + 4, none⟩) (by show b3 < _; omega)).trans Z4.out
              clear hq' hws' htn' hmu'
              by_cases hjl : j < nx.length
              · have hjd : decide ((j : Int) < (nx.length : Int)) = true := decide_eq_true (by omega)
                have HDR : Hid (nx.drop j = nx[j] :: nx.drop (j + 1)) := Lib.hid (List.drop_eq_getElem_cons hjl)
                obtain ⟨bn, on, rfl, hbn, hcell⟩ := Rd.int_at (l := msk nx) (by
                  obtain ⟨A2, c2, e2, _, _, hr2⟩ := HNX.out
                  injection e2 with e2 _ _
                  subst e2
                  exact hr2) (k := j) (by rw [msk_len]; exact hjl)
                have hcj := hcell j (by rw [msk_len]; exact hjl)
                rw [show (msk nx).getD j 0 = ((nx[j] : Nat) : Int) by rw [getD_lt (by rw [msk_len]; exact hjl)]; simp [msk]] at hcj
                have hm := HNXB.out nx[j] (List.getElem_mem hjl)
                generalize nx[j] = m at *
                have hcw := (hbw'.cell (p := ⟨bn, on + j, none⟩) (by show bn < _; omega)).trans hcj
                have hml : m < bk'.length := by omega
                have dm := hrw'.cell m
                rw [zi_get (-1) hml] at dm
                have fm := hrw'.frozen m
                have HW2 : Hid (WyS pts a ⟨bk', q', m :: nx.drop (j + 1), k⟩) := Lib.hid (by rw [← HDR.out]; exact HWS'.out)
                have HM2 : Hid (muW2 ⟨bk', q', m :: nx.drop (j + 1), k⟩ < muW2 ⟨bk, k :: r, [], d⟩) := Lib.hid (by rw [← HDR.out]; exact HMU'.out)
                clear hcell hcj hrw' hbw' hbl'
                by_cases hneg : bk'.getD m (-1) < 0
                · have HWT := Lib.hid (HW2.out.take hneg)
                  have HMT := Lib.hid (Nat.lt_trans (WyS.takeMu ha GN.out GN2.out HW2.out hneg) HM2.out)
                  have hnd : decide (bk'.getD m (-1) ≥ 0) = false := decide_eq_false (by omega)
                  have HRS : Hid (RowB (wr.setCell ⟨w.heap.size, m, none⟩ (.int .i64 (k : Nat))) w.heap.size 3 (zi (bk'.set m (k : Nat)))) := Lib.hid (by rw [← zi_set]; exact HRW'.out.set_ m _)
                  have HQS := Lib.hid (HQ'.out.other (b := w.heap.size) (by omega) m (.int .i64 (k : Nat)))
                  have HBS := Lib.hid (HBW'.out.setCell (p := ⟨w.heap.size, m, none⟩) (Nat.le_refl _) (.int .i64 (k : Nat)))
                  have hsS : (wr.setCell ⟨w.heap.size, m, none⟩ (.int .i64 (k : Nat))).heap.size = wr.heap.size := by simp [World.setCell]
                  have HSZ := Lib.hid hsS
                  have HGM : Hid (∀ u, (bk'.set m ((k : Nat) : Int)).getD u (-1) = if u = m then ((k : Nat) : Int) else bk'.getD u (-1)) := Lib.hid fun u => getD_setT hml
                  have hneg2 : ¬ (0 ≤ bk'.getD m (-1)) := by omega
                  by_cases hmt : m = t
                  · have hmte : ((m : Int) == (t : Int)) = true := by simp; omega
                    have hf : 0 ≤ (bk'.set m ((k : Nat) : Int)).getD t (-1) := by rw [HGM.out, if_pos hmt.symm]; omega
                    obtain ⟨L, hchn, hwc, hLl⟩ := WyS.chn ha GN.out HWT.out (t := t) hf
                    obtain ⟨hbl2, -, -, -, hvb2⟩ := HWT.out.bnd ha GN.out
                    simp only at hbl2 hvb2 hchn
                    have HBK := Lib.hid (l13Back_any w.heap.size pts.length a t pts.length (bk'.set m ((k : Nat) : Int)) L _ HRS.out hbl2.symm (by omega) ht hchn hLl (fun u => (hvb2 u).2))
                    have HWC := Lib.hid hwc
                    have HRES := Lib.hid (wayN_some hwc)
                    have HMT2 := Lib.hid hmt
                    generalize bk'.getD m (-1) = bm at *
                    clear hf hchn hwc hbl2 hvb2 hmt hneg hsS
                    go_wp2_with (at_builtin; fail)
                    refine HBK.out.mono ?_
                    rintro e w8 ⟨v8, rfl, hi8, hb8⟩
                    have HI8 := Lib.hid hi8
                    have HB8 := Lib.hid (HBS.out.trans (hb8.mono (by have := HSZ.out; omega)))
                    clear hi8 hb8
                    go_wp2_with (at_builtin; fail)
                    go_ret2
                    exact ⟨_, by rw [HWC.out]; rfl, by rw [HRES.out]; exact HI8.out, HB8.out⟩
                  · have hmte : ((m : Int) == (t : Int)) = false := by simp; omega
                    have HTT : Hid ((bk'.set m ((k : Nat) : Int)).getD t (-1) < 0) := Lib.hid (by rw [HGM.out, if_neg (fun h => hmt h.symm)]; exact HTN'.out)
                    have HA := fun o => (HQS.out.bel (bel_a (wr.setCell ⟨w.heap.size, m, none⟩ (.int .i64 (k : Nat))) o))
                    have HAQ := Lib.hid HA
                    have HI1 := Lib.hid (Qu.ints (w := wr.setCell ⟨w.heap.size, m, none⟩ (.int .i64 (k : Nat))) (base := 0) (Nat.zero_le _) m)
                    have HRA := Lib.hid (fun o => HRS.out.alloc o)
                    have HBA := Lib.hid (fun o => HBS.out.alloc (by rw [hsS]; omega) o)
                    rw [hsS] at HI1
                    generalize bk'.getD m (-1) = bm at *
                    clear hneg HA hsS hmt
                    go_wp2_with (at_builtin; go_must (refine wpList_app_q rfl (.tmp 70) (.tmp 72) rfl (HAQ.out _) (by have := HSZ.out; simp; omega) (by omega) HI1.out (by simp) rfl rfl ?_); intro v' w' hQ' hE')
                    exact ⟨⟨j + 1, _, _, by omega, by go_num, hQ', (HRA.out _).low hE' (by omega), HWT.out, HTT.out, HMT.out, (HBA.out _).trans (hE'.mono (by omega))⟩, by simp [intOf] <;> omega⟩
                · have HWT := Lib.hid (HW2.out.skip (by omega))
                  have HMT := Lib.hid (Nat.lt_trans (WyS.skipMu ha GN.out GN2.out HW2.out (by omega)) HM2.out)
                  have hnd : decide (bk'.getD m (-1) ≥ 0) = true := decide_eq_true (by omega)
                  have hneg2 : 0 ≤ bk'.getD m (-1) := by omega
                  generalize bk'.getD m (-1) = bm at *
                  go_wp2_with (at_builtin; fail)
                  exact ⟨⟨j + 1, bk', q', by omega, by go_num, HQ'.out, HRW'.out, HWT.out, HTN'.out, HMT.out, HBW'.out⟩, by simp [intOf] <;> omega⟩
              · have hjd : decide ((j : Int) < (nx.length : Int)) = false := decide_eq_false (by omega)
                have hje : j = nx.length := by omega
                have HW2 : Hid (WyS pts a ⟨bk', q', [], k⟩) := Lib.hid (by have h := HWS'.out; rw [hje, List.drop_length] at h; exact h)
                have HM2 : Hid (muW2 ⟨bk', q', [], k⟩ < muW2 ⟨bk, k :: r, [], d⟩) := Lib.hid (by have h := HMU'.out; rw [hje, List.drop_length] at h; exact h)
                clear hje hrw' hbw' hbl'
                go_wp2_with (at_builtin; fail)
                go_roundg (muW2 ⟨bk, k :: r, [], d⟩)
                case measure => exact HMK.out
                case rel => exact ⟨bk', q', k, HQ'.out, HRW'.out, HW2.out, HTN'.out, ⟨HM2.out, Nat.le_of_lt (Nat.lt_of_lt_of_le HM2.out HM4.out)⟩, HBW'.out⟩

theorem graphOk2_no {ts : List Int} {l : List St} {a b : Int} (h : a < 0 ∨ (pointsP ts l).length ≤ a ∨ b < 0 ∨ (pointsP ts l).length ≤ b) : graphOk ts l [a, b] = false := by
  cases e : graphOk ts l [a, b]
  · rfl
  · obtain ⟨hv, k, j, rfl, rfl, hk, hj⟩ := graphOk_two e
    unfold pointsP at h
    rw [if_pos hv] at h
    omega
theorem graphOk2_yes {ts : List Int} {l : List St} {a b : Int} (h0 : 0 ≤ a) (h : a < (pointsP ts l).length) (h1 : 0 ≤ b) (h2 : b < (pointsP ts l).length) : validP ts l = true ∧ pointsP ts l = ptsP l ∧ graphOk ts l [a, b] = true := by
  obtain ⟨hv, hp, _⟩ := graphOk_yes h0 h
  rw [hp] at h h2
  refine ⟨hv, hp, ?_⟩
  simp only [graphOk, hv, Bool.true_and, List.all_cons, List.all_nil, Bool.and_true, withinP, Bool.and_eq_true, decide_eq_true_eq]
  omega
set_option maxHeartbeats 4000000 in
set_option maxRecDepth 100000 in
theorem sShortWay_any (vt vb : Value) (ts : List Int) (l : List St) (a b : Int) (B : Nat) (w : World) (ht : IntS w B vt ts) (hl : StS w B vb l) (hB : B ≤ w.heap.size) (hsz : szL l ≤ 4194300) :
    Calls Try.prog 34 #[.agg #[vt, vb], .int .i64 a, .int .i64 b] w (SwRet w (swOk ts l a b) (swRes ts l a b)) := by
  have HBX := Lib.hid (Boxed.new ht hl hB 26)
  have ht0 := ht
  obtain ⟨At, ct, rfl, hct, -, -⟩ := ht0
  obtain ⟨Ab, cb, rfl, hcb⟩ := hl.slice
  clear ht hl
  go_enter Try.func34, Try.ntmps34
  go_wp2_with (at_builtin; fail)
  refine (sPointsOf_any _ _ ts l B _ HBX.out.ht HBX.out.hl (by have := HBX.out.lt; omega) hsz).mono ?_
  rintro e w1 ⟨vp, rfl, hps, hb1⟩
  have HB1 := Lib.hid (HBX.out.bels hb1 hB).bel
  have HPS := Lib.hid hps
  obtain ⟨Ap, cp, rfl, hcp, hpl⟩ := hps.slice
  have hs1 := HB1.out.size
  have HN2 := Lib.hid (graphOk2_no (ts := ts) (l := l) (a := a) (b := b))
  have HNO : Hid (graphOk ts l [a, b] = false → swOk ts l a b = false ∧ swRes ts l a b = []) := Lib.hid fun h => ⟨by unfold swOk; rw [h]; rfl, by unfold swRes; rw [h, if_neg (by simp)]⟩
  clear hps hb1
  by_cases ha : a < 0
  · have ha1 : decide (a < 0) = true := decide_eq_true ha
    have HRES := Lib.hid (HNO.out (HN2.out (.inl ha)))
    generalize (pointsP ts l).length = np at *
    clear HN2 HNO
    go_wp2_with (at_builtin; fail)
    go_ret2
    exact ⟨_, by rw [HRES.out.1]; rfl, by rw [HRES.out.2]; exact IntS.nil' _ _ _ 0, HB1.out.trans ((bel_a w1 _).mono hs1)⟩
  · have ha1 : decide (a < 0) = false := decide_eq_false ha
    by_cases hal : a < (pointsP ts l).length
    · have hal1 : decide (a ≥ ((pointsP ts l).length : Int)) = false := decide_eq_false (by omega)
      by_cases hb : b < 0
      · have hb1 : decide (b < 0) = true := decide_eq_true hb
        have HRES := Lib.hid (HNO.out (HN2.out (.inr (.inr (.inl hb)))))
        generalize (pointsP ts l).length = np at *
        clear HN2 HNO
        go_wp2_with (at_builtin; fail)
        go_ret2
        exact ⟨_, by rw [HRES.out.1]; rfl, by rw [HRES.out.2]; exact IntS.nil' _ _ _ 0, HB1.out.trans ((bel_a w1 _).mono hs1)⟩
      · have hb1 : decide (b < 0) = false := decide_eq_false hb
        by_cases hbl : b < (pointsP ts l).length
        · have hbl1 : decide (b ≥ ((pointsP ts l).length : Int)) = false := decide_eq_false (by omega)
          obtain ⟨hv, hpe, hok⟩ := graphOk2_yes (by omega) hal (by omega) hbl
          have hpe2 : (pointsP ts l).length = (ptsP l).length := by rw [hpe]
          rw [hpe] at HPS hcp hpl hal hbl hal1 hbl1 ⊢
          obtain ⟨k, rfl⟩ : ∃ k : Nat, a = k := ⟨a.toNat, by omega⟩
          obtain ⟨j, rfl⟩ : ∃ j : Nat, b = j := ⟨b.toNat, by omega⟩
          have HRES : Hid (swOk ts l (k : Nat) (j : Nat) = (wayC (ptsP l) k j).isSome ∧ swRes ts l (k : Nat) (j : Nat) = msk (wayN (ptsP l) k j)) := Lib.hid ⟨by unfold swOk; rw [hok]; rfl, by unfold swRes; rw [hok, if_pos rfl]; rfl⟩
          have GD := Good.of_valid hv
          have HC := Lib.hid (l13Way_any _ (ptsP l) _ k j w1 HPS.out (Nat.le_refl _) GD.len GD.next GD.next2 (by omega) (by omega))
          have hal2 : ¬ ((k : Int) ≥ ((ptsP l).length : Int)) := by omega
          have hbl2 : ¬ ((j : Int) ≥ ((ptsP l).length : Int)) := by omega
          clear hv hpe hok GD HN2 HNO hpe2
          go_wp2_with (at_builtin; fail)
          refine HC.out.mono ?_
          rintro e w2 ⟨v2, rfl, hi, hb4⟩
          have HI := Lib.hid hi
          have HB4 := Lib.hid (HB1.out.trans (hb4.mono hs1))
          clear hi hb4
          go_wp2_with (at_builtin; fail)
          go_ret2
          exact ⟨_, by rw [HRES.out.1]; rfl, by rw [HRES.out.2]; exact HI.out, HB4.out⟩
        · have hbl1 : decide (b ≥ ((pointsP ts l).length : Int)) = true := decide_eq_true (by omega)
          have HRES := Lib.hid (HNO.out (HN2.out (.inr (.inr (.inr (by omega))))))
          generalize (pointsP ts l).length = np at *
          clear HN2 HNO
          go_wp2_with (at_builtin; fail)
          go_ret2
          exact ⟨_, by rw [HRES.out.1]; rfl, by rw [HRES.out.2]; exact IntS.nil' _ _ _ 0, HB1.out.trans ((bel_a w1 _).mono hs1)⟩
    · have hal1 : decide (a ≥ ((pointsP ts l).length : Int)) = true := decide_eq_true (by omega)
      have HRES := Lib.hid (HNO.out (HN2.out (.inr (.inl (by omega)))))
      generalize (pointsP ts l).length = np at *
      clear HN2 HNO
      go_wp2_with (at_builtin; fail)
      go_ret2
      exact ⟨_, by rw [HRES.out.1]; rfl, by rw [HRES.out.2]; exact IntS.nil' _ _ _ 0, HB1.out.trans ((bel_a w1 _).mono hs1)⟩

end Go.Proofs.Ytmaaaiccmllnlaa

/- spec.l12Case, spec.DrawShortWay. -/
namespace Go.Proofs.Ytmaaaiccmllnlaa
open Go.RowKit

set_option maxHeartbeats 4000000 in
set_option maxRecDepth 100000 in
theorem l12Case_any (A : Option Addr) (n c : Nat) (w : World) (hb : Byt w w.heap.size A n) (hn : n ≤ 1048576) (hc : n ≤ c) :
    Calls Try.prog 80 #[.slice A n c] w (D2Ret w) := by
  have HB := Lib.hid hb
  clear hb
  go_enter Try.func80, Try.ntmps80
  go_wp2_with fail
  have hA := bel_a w (.cells #[.slice none 0 0, .slice none 0 0] 26)
  have hsA : (w.alloc (.cells #[.slice none 0 0, .slice none 0 0] 26)).heap.size = w.heap.size + 1 := by simp
  refine (l3Place_any A n c _ (by rw [hsA]; exact (HB.out.keep fun b o hb => hA.cell (p := ⟨b, o, none⟩) hb).more (by omega)) hn hc).mono ?_
  rintro e w1 ⟨vt, vb, ts, l, a, rfl, hit, hst, hts, hsz, hb1⟩
  rw [hsA] at hit hst
  have HR1 := Lib.hid (row_below (heap_alloc_new w (.cells #[.slice none 0 0, .slice none 0 0] 26)) hb1)
  have HB1 := Lib.hid (hA.trans (hb1.mono (by omega)))
  have hs1 : w.heap.size + 1 ≤ w1.heap.size := by rw [← hsA]; exact hb1.size
  have hb1' := HB1.out
  have hA2 := bel_a w1 (.cells #[vt, vb] 26)
  have hsW : (w1.alloc (.cells #[vt, vb] 26)).heap.size = w1.heap.size + 1 := by simp
  have HR2 := Lib.hid (row_below HR1.out hA2)
  have HRP := Lib.hid (heap_alloc_new w1 (.cells #[vt, vb] 26))
  have HB2 := Lib.hid (hb1'.trans (hA2.mono (by omega)))
  have HIT := Lib.hid (hit.bel hA2)
  have HST := Lib.hid (hst.bel hA2)
  obtain ⟨At, ct, rfl, -⟩ := hit.slice
  obtain ⟨Ab, cb, rfl, -⟩ := hst.slice
  clear hb1 hb1' hA hsA hit hst hA2
  go_wp2_with fail
  generalize w1.alloc (.cells #[.slice At ts.length ct, .slice Ab l.length cb] 26) = W2 at *
  have hs1' : w.heap.size < w1.heap.size := by omega
  have c0 : W2.cell? ⟨w1.heap.size, 0, none⟩ = some (.slice At ts.length ct) := by rw [cell_of_row _ _ _ _ _ _ HRP.out]; rfl
  have c1 : W2.cell? ⟨w1.heap.size, 1, none⟩ = some (.slice Ab l.length cb) := by rw [cell_of_row _ _ _ _ _ _ HRP.out]; rfl
  refine (sPointsOf_any _ _ ts l _ _ HIT.out.toS HST.out.toS (Nat.le_refl _) (by omega)).mono ?_
  rintro e wp ⟨vp, rfl, hps, hbp⟩
  obtain ⟨Ap, cp, rfl, hcp, hpl⟩ := hps.slice
  have hsp := hbp.size
  have HRp := Lib.hid (row_below HR2.out hbp)
  have HRPp := Lib.hid (row_below HRP.out hbp)
  have HBp := Lib.hid (HB2.out.trans (hbp.mono (by omega)))
  have HBLp := Lib.hid hbp
  obtain ⟨np, hnp⟩ : ∃ np, np = (pointsP ts l).length := ⟨_, rfl⟩
  rw [← hnp] at hcp hpl ⊢
  have hnp61 : np ≤ 61 := by
    rw [hnp]; unfold pointsP
    split
    · rename_i hv; exact ptsP_le hv
    · simp
  clear hps hbp hnp c0 c1
  have HBA := Lib.hid (HB.out.keep (w' := wp) fun b o hb => HBp.out.cell (p := ⟨b, o, none⟩) hb)
  go_wp2_with fail
  refine (l17Open_any A n c _ (HBA.out.more (by omega)) hn hc).mono ?_
  rintro e w3 ⟨rfl, hd3, hb3⟩
  have HR3 := Lib.hid (row_below HRp.out hb3)
  have HRP3 := Lib.hid (row_below HRPp.out hb3)
  have HB3 := Lib.hid (HBp.out.trans (hb3.mono (by omega)))
  have HBL3 := Lib.hid (HBLp.out.trans (hb3.mono hsp))
  have hs3 := hb3.size
  have hlt3 := hd3.lt
  obtain ⟨G, hG⟩ : ∃ G, G = wp.heap.size := ⟨_, rfl⟩
  rw [← hG] at hd3 hlt3 ⊢
  have hGs : w1.heap.size + 1 ≤ G := by omega
  have HD3 := Lib.hid hd3
  clear hd3 hb3 hG
  have q0 : w3.cell? ⟨w1.heap.size, 0, none⟩ = some (.slice At ts.length ct) := by rw [cell_of_row _ _ _ _ _ _ HRP3.out]; rfl
  have q1 : w3.cell? ⟨w1.heap.size, 1, none⟩ = some (.slice Ab l.length cb) := by rw [cell_of_row _ _ _ _ _ _ HRP3.out]; rfl
  by_cases hz : np = 0
  · have hz1 : ((np : Int) == 0) = true := by simp [hz]
    clear hz
    go_wp2_with fail
    have CN : Calls Try.prog 70 #[.pointer (some ⟨G, 0, none⟩), .slice (some ⟨w3.heap.size, 0, none⟩) 3 3] (w3.alloc (.cells #[.int .i64 0, .int .i64 (-1), .int .i64 60] 3)).drew (fun e w' => ∃ x : Int, e = .returned (.int .i64 x) ∧ x ∈ [0, -1, 60] ∧ Dr w' (G) (0 + 1) ∧ (w3.alloc (.cells #[.int .i64 0, .int .i64 (-1), .int .i64 60] 3)).drew.grownBy w' (some (G))) :=
      num_any (G) _ _ [0, -1, 60] 3 _ (HD3.out.low ((bel_a w3 (.cells #[.int .i64 0, .int .i64 (-1), .int .i64 60] 3)).drew) (by omega)) (by omega) (RowB.new w3 _ _) (by omega) (by simp) (by simp)
    have HCN := Lib.hid CN
    have HWA := Lib.hid (bel_a w3 (.cells #[.int .i64 0, .int .i64 (-1), .int .i64 60] 3)).drew
    have HSW := Lib.hid (show (w3.alloc (.cells #[.int .i64 0, .int .i64 (-1), .int .i64 60] 3)).drew.heap.size = w3.heap.size + 1 by simp)
    clear CN
    go_region_held3 (fun w' => w'.cell? ⟨w1.heap.size, 0, none⟩ = some (.slice At ts.length ct) ∧ w'.cell? ⟨w1.heap.size, 1, none⟩ = some (.slice Ab l.length cb))
      (first | exact ⟨q0, q1⟩ | exact ⟨q07, q17⟩ | exact Q9.out | assumption | go_keep)
      (first
        | (go_at_call 70; (with_reducible refine HCN.out.mono ?_); (rintro e w7 ⟨x, rfl, hx, hd7, hg7⟩); (have hs7 := hg7.size); (rw [HSW.out] at hs7); (have hr7 := row_grown (row_below HR3.out HWA.out) hg7 (by omega)); (have hrp7 := row_grown (row_below HRP3.out HWA.out) hg7 (by omega)); (have q07 : w7.cell? ⟨w1.heap.size, 0, none⟩ = some (.slice At ts.length ct) := by (rw [cell_of_row _ _ _ _ _ _ hrp7]; rfl)); (have q17 : w7.cell? ⟨w1.heap.size, 1, none⟩ = some (.slice Ab l.length cb) := by (rw [cell_of_row _ _ _ _ _ _ hrp7]; rfl)); (have z07 : w7.cell? ⟨w.heap.size, 0, none⟩ = some (.slice none 0 0) := by (rw [cell_of_row _ _ _ _ _ _ hr7]; rfl)); (have z17 : w7.cell? ⟨w.heap.size, 1, none⟩ = some (.slice none 0 0) := by (rw [cell_of_row _ _ _ _ _ _ hr7]; rfl)); (have zf07 := frozen_of_row w7 w.heap.size 0 _ _ hr7); (have zf17 := frozen_of_row w7 w.heap.size 1 _ _ hr7); (have HR9 := Lib.hid hr7); (have HG9 := Lib.hid hg7); (have Q9 := Lib.hid (pl_set (Ne.symm (Nat.ne_of_lt hs1')) q07 q17 (.slice At ts.length ct) (.slice Ab l.length cb))); clear hx hd7 hg7 hr7 hrp7)
        | fail)
    have HB9 := Lib.hid (grown_new (HB3.out.trans (HWA.out.mono HB3.out.size)) (by omega) HG9.out)
    have HBL9 := Lib.hid (grown_new (HBL3.out.trans (HWA.out.mono HBL3.out.size)) (by omega) HG9.out)
    have HIT9 := Lib.hid (HIT.out.bel HBL9.out)
    have HST9 := Lib.hid (HST.out.bel HBL9.out)
    go_wp2_with fail
    refine bodyPost_ret (res_box2 (u := 3) (u2 := 4) rfl _ _ w.heap.size 26 _ (0, 0) _ rfl (box2 HR9.out _ _).1 Try.underlying26 rfl rfl) rfl ?_
    have HE := DsE.mk' HB9.out (box2 HR9.out (.slice At ts.length ct) (.slice Ab l.length cb)).2 HIT9.out HST9.out (by omega)
    exact ⟨_, _, ts, l, a, _, rfl, HE.ht, HE.hl, hts, hsz, HE.bel⟩

  · have hz1 : ((np : Int) == 0) = false := by simpa using hz
    have hz2 : 0 < np := by omega
    clear hz
    go_wp2_with fail
    refine (pick_any (G) 0 _ _ HD3.out (by omega) (by omega) (by omega)).mono ?_
    rintro e w4 ⟨k, rfl, -, -, hd4, hg4⟩
    have hs4 := hg4.size
    have HR4 := Lib.hid (row_grown HR3.out hg4 (by omega))
    have HRP4 := Lib.hid (row_grown HRP3.out hg4 (by omega))
    have HD4 := Lib.hid hd4
    have HB4 := Lib.hid (grown_new HB3.out (by omega) hg4)
    have HBL4 := Lib.hid (grown_new HBL3.out (by omega) hg4)
    clear hd4 hg4 q0 q1
    have q0 : w4.cell? ⟨w1.heap.size, 0, none⟩ = some (.slice At ts.length ct) := by rw [cell_of_row _ _ _ _ _ _ HRP4.out]; rfl
    have q1 : w4.cell? ⟨w1.heap.size, 1, none⟩ = some (.slice Ab l.length cb) := by rw [cell_of_row _ _ _ _ _ _ HRP4.out]; rfl
    by_cases hk : k = 0
    · subst hk
      go_wp2_with fail
      have CN : Calls Try.prog 70 #[.pointer (some ⟨G, 0, none⟩), .slice (some ⟨w4.heap.size, 0, none⟩) 3 3] (w4.alloc (.cells #[.int .i64 0, .int .i64 (-1), .int .i64 60] 3)).drew (fun e w' => ∃ x : Int, e = .returned (.int .i64 x) ∧ x ∈ [0, -1, 60] ∧ Dr w' (G) ((0 + 1) + 1) ∧ (w4.alloc (.cells #[.int .i64 0, .int .i64 (-1), .int .i64 60] 3)).drew.grownBy w' (some (G))) :=
        num_any (G) _ _ [0, -1, 60] 3 _ (HD4.out.low ((bel_a w4 (.cells #[.int .i64 0, .int .i64 (-1), .int .i64 60] 3)).drew) (by omega)) (by omega) (RowB.new w4 _ _) (by omega) (by simp) (by simp)
      have HCN := Lib.hid CN
      have HWA := Lib.hid (bel_a w4 (.cells #[.int .i64 0, .int .i64 (-1), .int .i64 60] 3)).drew
      have HSW := Lib.hid (show (w4.alloc (.cells #[.int .i64 0, .int .i64 (-1), .int .i64 60] 3)).drew.heap.size = w4.heap.size + 1 by simp)
      clear CN
      go_region_held3 (fun w' => w'.cell? ⟨w1.heap.size, 0, none⟩ = some (.slice At ts.length ct) ∧ w'.cell? ⟨w1.heap.size, 1, none⟩ = some (.slice Ab l.length cb))
        (first | exact ⟨q0, q1⟩ | exact ⟨q07, q17⟩ | exact Q9.out | assumption | go_keep)
        (first
          | (go_at_call 70; (with_reducible refine HCN.out.mono ?_); (rintro e w7 ⟨x, rfl, hx, hd7, hg7⟩); (have hs7 := hg7.size); (rw [HSW.out] at hs7); (have hr7 := row_grown (row_below HR4.out HWA.out) hg7 (by omega)); (have hrp7 := row_grown (row_below HRP4.out HWA.out) hg7 (by omega)); (have q07 : w7.cell? ⟨w1.heap.size, 0, none⟩ = some (.slice At ts.length ct) := by (rw [cell_of_row _ _ _ _ _ _ hrp7]; rfl)); (have q17 : w7.cell? ⟨w1.heap.size, 1, none⟩ = some (.slice Ab l.length cb) := by (rw [cell_of_row _ _ _ _ _ _ hrp7]; rfl)); (have z07 : w7.cell? ⟨w.heap.size, 0, none⟩ = some (.slice none 0 0) := by (rw [cell_of_row _ _ _ _ _ _ hr7]; rfl)); (have z17 : w7.cell? ⟨w.heap.size, 1, none⟩ = some (.slice none 0 0) := by (rw [cell_of_row _ _ _ _ _ _ hr7]; rfl)); (have zf07 := frozen_of_row w7 w.heap.size 0 _ _ hr7); (have zf17 := frozen_of_row w7 w.heap.size 1 _ _ hr7); (have HR9 := Lib.hid hr7); (have HG9 := Lib.hid hg7); (have Q9 := Lib.hid (pl_set (Ne.symm (Nat.ne_of_lt hs1')) q07 q17 (.slice At ts.length ct) (.slice Ab l.length cb))); clear hx hd7 hg7 hr7 hrp7)
          | fail)
      have HB9 := Lib.hid (grown_new (HB4.out.trans (HWA.out.mono HB4.out.size)) (by omega) HG9.out)
      have HBL9 := Lib.hid (grown_new (HBL4.out.trans (HWA.out.mono HBL4.out.size)) (by omega) HG9.out)
      have HIT9 := Lib.hid (HIT.out.bel HBL9.out)
      have HST9 := Lib.hid (HST.out.bel HBL9.out)
      go_wp2_with fail
      refine bodyPost_ret (res_box2 (u := 3) (u2 := 4) rfl _ _ w.heap.size 26 _ (0, 0) _ rfl (box2 HR9.out _ _).1 Try.underlying26 rfl rfl) rfl ?_
      have HE := DsE.mk' HB9.out (box2 HR9.out (.slice At ts.length ct) (.slice Ab l.length cb)).2 HIT9.out HST9.out (by omega)
      exact ⟨_, _, ts, l, a, _, rfl, HE.ht, HE.hl, hts, hsz, HE.bel⟩

    · have hk1 : (k == 0) = false := by simpa using hk
      clear hk
      go_wp2_with fail
      have HCN := Lib.hid (pick_any (G) (0 + 1) ((np : Nat) : Int) w4.drew (HD4.out.low (Below.refl _ _).drew (by omega)) (by omega) (by omega) (by omega))
      have HWA := Lib.hid ((Below.refl w4.heap.size w4).drew)
      have HSW := Lib.hid (show w4.drew.heap.size = w4.heap.size by simp)
      go_region_held3 (fun w' => w'.cell? ⟨w1.heap.size, 0, none⟩ = some (.slice At ts.length ct) ∧ w'.cell? ⟨w1.heap.size, 1, none⟩ = some (.slice Ab l.length cb))
        (first | exact ⟨q0, q1⟩ | exact ⟨q07, q17⟩ | exact Q9.out | assumption | go_keep)
        (first
          | (go_at_call 56; (with_reducible refine HCN.out.mono ?_); (rintro e w7 ⟨x, rfl, -, -, hd7, hg7⟩); (have hs7 := hg7.size); (rw [HSW.out] at hs7); (have hr7 := row_grown (row_below HR4.out HWA.out) hg7 (by omega)); (have hrp7 := row_grown (row_below HRP4.out HWA.out) hg7 (by omega)); (have q07 : w7.cell? ⟨w1.heap.size, 0, none⟩ = some (.slice At ts.length ct) := by (rw [cell_of_row _ _ _ _ _ _ hrp7]; rfl)); (have q17 : w7.cell? ⟨w1.heap.size, 1, none⟩ = some (.slice Ab l.length cb) := by (rw [cell_of_row _ _ _ _ _ _ hrp7]; rfl)); (have z07 : w7.cell? ⟨w.heap.size, 0, none⟩ = some (.slice none 0 0) := by (rw [cell_of_row _ _ _ _ _ _ hr7]; rfl)); (have z17 : w7.cell? ⟨w.heap.size, 1, none⟩ = some (.slice none 0 0) := by (rw [cell_of_row _ _ _ _ _ _ hr7]; rfl)); (have zf07 := frozen_of_row w7 w.heap.size 0 _ _ hr7); (have zf17 := frozen_of_row w7 w.heap.size 1 _ _ hr7); (have HR9 := Lib.hid hr7); (have HG9 := Lib.hid hg7); (have Q9 := Lib.hid (pl_set (Ne.symm (Nat.ne_of_lt hs1')) q07 q17 (.slice At ts.length ct) (.slice Ab l.length cb))); clear hd7 hg7 hr7 hrp7)
          | fail)
      have HB9 := Lib.hid (grown_new (HB4.out.trans (HWA.out.mono HB4.out.size)) (by omega) HG9.out)
      have HBL9 := Lib.hid (grown_new (HBL4.out.trans (HWA.out.mono HBL4.out.size)) (by omega) HG9.out)
      have HIT9 := Lib.hid (HIT.out.bel HBL9.out)
      have HST9 := Lib.hid (HST.out.bel HBL9.out)
      go_wp2_with fail
      refine bodyPost_ret (res_box2 (u := 3) (u2 := 4) rfl _ _ w.heap.size 26 _ (0, 0) _ rfl (box2 HR9.out _ _).1 Try.underlying26 rfl rfl) rfl ?_
      have HE := DsE.mk' HB9.out (box2 HR9.out (.slice At ts.length ct) (.slice Ab l.length cb)).2 HIT9.out HST9.out (by omega)
      exact ⟨_, _, ts, l, a, _, rfl, HE.ht, HE.hl, hts, hsz, HE.bel⟩

set_option maxHeartbeats 4000000 in
set_option maxRecDepth 100000 in
theorem drawShortWay_any (A : Option Addr) (n c : Nat) (w : World) (hb : Byt w w.heap.size A n) (hn : n ≤ 1048576) (hc : n ≤ c) :
    Calls Try.prog 32 #[.slice A n c] w (D2Ret w) := by
  have HB := Lib.hid hb
  clear hb
  go_enter Try.func32, Try.ntmps32
  go_wp2_with fail
  have hA := bel_a w (.cells #[.slice none 0 0, .slice none 0 0] 26)
  have hsA : (w.alloc (.cells #[.slice none 0 0, .slice none 0 0] 26)).heap.size = w.heap.size + 1 := by simp
  refine (l12Case_any A n c _ (by rw [hsA]; exact (HB.out.keep fun b o hb => hA.cell (p := ⟨b, o, none⟩) hb).more (by omega)) hn hc).mono ?_
  rintro e w1 ⟨vt, vb, ts, l, a, v, rfl, hit, hst, hts, hsz, hb1⟩
  rw [hsA] at hit hst
  have HR1 := Lib.hid (row_below (heap_alloc_new w (.cells #[.slice none 0 0, .slice none 0 0] 26)) hb1)
  have HB1 := Lib.hid (hA.trans (hb1.mono (by omega)))
  have hs1 : w.heap.size + 1 ≤ w1.heap.size := by rw [← hsA]; exact hb1.size
  have HIT := Lib.hid hit
  have HST := Lib.hid hst
  obtain ⟨At, ct, rfl, -⟩ := hit.slice
  obtain ⟨Ab, cb, rfl, -⟩ := hst.slice
  clear hb1 hA hsA hit hst
  have z0 : w1.cell? ⟨w.heap.size, 0, none⟩ = some (.slice none 0 0) := by rw [cell_of_row _ _ _ _ _ _ HR1.out]; rfl
  have z1 : w1.cell? ⟨w.heap.size, 1, none⟩ = some (.slice none 0 0) := by rw [cell_of_row _ _ _ _ _ _ HR1.out]; rfl
  have zf0 := frozen_of_row w1 w.heap.size 0 _ _ HR1.out
  have zf1 := frozen_of_row w1 w.heap.size 1 _ _ HR1.out
  go_wp2_with fail
  refine bodyPost_ret (res_box2 (u := 3) (u2 := 4) rfl _ _ w.heap.size 26 _ (0, 0) _ rfl (box2 HR1.out _ _).1 Try.underlying26 rfl rfl) rfl ?_
  have HE := DsE.mk' HB1.out (box2 HR1.out (.slice At ts.length ct) (.slice Ab l.length cb)).2 HIT.out HST.out (by omega)
  exact ⟨_, _, ts, l, a, v, rfl, HE.ht, HE.hl, hts, hsz, HE.bel⟩

end Go.Proofs.Ytmaaaiccmllnlaa

/- FnShortWay: the plain law, the walk. -/
namespace Go.Proofs.Ytmaaaiccmllnlaa
open Go.RowKit

theorem sw_law1 (ts : List Int) (l : List St) (a b : Int) : hasP (frRes l ts a) b = swOk ts l a b := by
  unfold frRes swOk
  cases h1 : graphOk ts l [a]
  · rw [if_neg (by simp)]
    cases h2 : graphOk ts l [a, b]
    · rfl
    · exfalso
      obtain ⟨hv, k, j, rfl, rfl, hk, hj⟩ := graphOk_two h2
      have : graphOk ts l [((k : Nat) : Int)] = true := by
        simp only [graphOk, hv, Bool.true_and, List.all_cons, List.all_nil, Bool.and_true, withinP, Bool.and_eq_true, decide_eq_true_eq]; omega
      rw [h1] at this; cases this
  · rw [if_pos rfl]
    obtain ⟨hv, k, rfl, hk⟩ := graphOk_one h1
    have GD := Good.of_valid hv
    by_cases hb : 0 ≤ b ∧ b < (ptsP l).length
    · obtain ⟨j, rfl⟩ : ∃ j : Nat, b = j := ⟨b.toNat, by omega⟩
      have h2 : graphOk ts l [((k : Nat) : Int), ((j : Nat) : Int)] = true := by
        simp only [graphOk, hv, Bool.true_and, List.all_cons, List.all_nil, Bool.and_true, withinP, Bool.and_eq_true, decide_eq_true_eq]; omega
      rw [h2, lst_has, decide_eq_true (by omega), Bool.true_and, Bool.true_and]
      simp only [Int.toNat_natCast]
      rw [Bool.eq_iff_iff, dec_iff]
      exact (wayC_lds hk (by omega) GD.next GD.next2).symm
    · have h2 : graphOk ts l [((k : Nat) : Int), b] = false := by
        cases e : graphOk ts l [((k : Nat) : Int), b]
        · rfl
        · obtain ⟨_, _, j, _, rfl, _, hj⟩ := graphOk_two e
          omega
      rw [h2, Bool.false_and]
      rw [Bool.eq_false_iff]
      intro h
      rw [hasP_iff] at h
      obtain ⟨e, he, _, rfl⟩ := lst_mem.1 h
      omega
theorem sw_law2 {ts : List Int} {l : List St} {a b : Int} (h : swOk ts l a b = true) : validP ts l = true ∧ ∃ k t : Nat, a = k ∧ b = t ∧ ∃ W : List Nat, swRes ts l a b = msk W ∧ IsWay (ptsP l) k t W ∧ W.length ≤ (ptsP l).length + 1 := by
  have hg : graphOk ts l [a, b] = true := by unfold swOk at h; rw [Bool.and_eq_true] at h; exact h.1
  obtain ⟨hv, k, j, rfl, rfl, hk, hj⟩ := graphOk_two hg
  unfold swOk at h
  rw [hg, Bool.true_and] at h
  simp only [Int.toNat_natCast] at h
  obtain ⟨L, hL⟩ := Option.isSome_iff_exists.1 h
  have := wayC_ok hk hj (Good.of_valid hv).next hL
  refine ⟨hv, k, j, rfl, rfl, (j :: L).reverse, ?_, this.1, by simpa using this.2⟩
  unfold swRes
  rw [if_pos hg]
  simp only [Int.toNat_natCast]
  rw [wayN_some hL]
theorem mskW_get {W : List Nat} {i : Nat} (h : i < W.length) : (msk W).getD i 0 = ((W.getD i 0 : Nat) : Int) := by
  rw [getD_lt (by rw [msk_len]; exact h), getD_lt h]; simp [msk]

set_option maxHeartbeats 8000000
set_option maxRecDepth 100000
theorem fnShortWay_any (A : Option Addr) (n c : Nat) (w : World) (hb : Byt w w.heap.size A n) (hm : n ≤ maxLen) (hc : n ≤ c) :
    Calls Try.prog 7 #[.slice A n c] w (LawRet w) := by
  have HB := Lib.hid hb
  clear hb
  by_cases hn : n ≤ 1048576
  · go_enter Try.func7, Try.ntmps7
    go_wp2_with fail
    refine (drawShortWay_any A n c _ HB.out hn hc).mono ?_
    rintro e w1 ⟨vt, vb, ts, l, a, b, rfl, hit, hst, hts, hsz, hb1⟩
    have HP1 := Lib.hid (PgB.new hit hst hb1)
    obtain ⟨At, ct, rfl, hct⟩ := hit.slice
    obtain ⟨Ab, cb, rfl, hcb⟩ := hst.slice
    clear hit hst hb1
    go_wp2_with fail
    generalize w1.alloc (.cells #[.slice At ts.length ct, .slice Ab l.length cb] 26) = W1 at *
    obtain ⟨g, hg⟩ : ∃ g, g = w1.heap.size := ⟨_, rfl⟩
    rw [← hg] at HP1 ⊢
    clear hg
    refine (iShortWay_any _ _ ts l a b _ _ HP1.out.ht HP1.out.hl (Nat.le_refl _) (by omega)).mono ?_
    rintro e w2 ⟨v2, rfl, hv2, hb2⟩
    have HV_2 := Lib.hid hv2
    clear hv2
    have HP2 := Lib.hid (HP1.out.bels hb2)
    have c0 := HP2.out.c0
    have c1 := HP2.out.c1
    clear hb2
    go_wp2_with (at_builtin; fail)
    refine (sShortWay_any _ _ ts l a b _ _ HP2.out.ht HP2.out.hl (Nat.le_refl _) (by omega)).mono ?_
    rintro e w3 ⟨v3, rfl, hv3, hb3⟩
    have HS_3 := Lib.hid hv3
    clear hv3
    have HV_3 := Lib.hid (HV_2.out.bel hb3)
    have HP3 := Lib.hid (HP2.out.bels hb3)
    clear c0 c1
    have c0 := HP3.out.c0
    have c1 := HP3.out.c1
    clear hb3
    go_wp2_with (at_builtin; fail)
    have HL1 := Lib.hid (sw_law1 ts l a b)
    have HL2 := Lib.hid (fun h => sw_law2 (ts := ts) (l := l) (a := a) (b := b) h)
    obtain ⟨q, hq⟩ : ∃ q, q = swOk ts l a b := ⟨_, rfl⟩
    rw [← hq] at HL1 HL2 ⊢
    clear hq
    have hqq : (q != q) = false := by cases q <;> rfl
    have hqe : (q == q) = true := by cases q <;> rfl
    go_wp2_with (at_builtin; fail)
    refine (bcInts_any _ _ _ _ _ _ HV_3.out HS_3.out).mono ?_
    rintro e w4 ⟨rfl, n4, rfl⟩
    rw [show eqP (swRes ts l a b) (swRes ts l a b) = true by simp [eqP]]
    have hb4 := below_of_drewN (w := w3) ⟨n4, rfl⟩ w3.heap.size
    have HV_4 := Lib.hid (HV_3.out.bel hb4)
    have HS_4 := Lib.hid (HS_3.out.bel hb4)
    have HP4 := Lib.hid (HP3.out.bels hb4)
    clear c0 c1
    have c0 := HP4.out.c0
    have c1 := HP4.out.c1
    clear hb4
    generalize w3.drewN n4 = w4 at *
    go_wp2_with (at_builtin; fail)
    refine (iPathsFrom_any _ _ ts l a _ _ HP4.out.ht HP4.out.hl (Nat.le_refl _) (by omega)).mono ?_
    rintro e w5 ⟨v5, rfl, hv5, hb5⟩
    have HF_5 := Lib.hid hv5
    clear hv5
    have HV_5 := Lib.hid (HV_4.out.bel hb5)
    have HS_5 := Lib.hid (HS_4.out.bel hb5)
    have HP5 := Lib.hid (HP4.out.bels hb5)
    clear c0 c1
    have c0 := HP5.out.c0
    have c1 := HP5.out.c1
    clear hb5
    go_wp2_with (at_builtin; fail)
    refine (bcIn_any _ _ b _ _ HF_5.out).mono ?_
    rintro e w95 ⟨rfl, rfl⟩
    rw [HL1.out]
    cases q
    · go_wp2_with (at_builtin; fail)
      refine (bcInts_any _ _ _ _ _ _ HV_5.out HS_5.out).mono ?_
      rintro e w6 ⟨rfl, n6, rfl⟩
      rw [show eqP (swRes ts l a b) (swRes ts l a b) = true by simp [eqP]]
      have hb6 := below_of_drewN (w := w5) ⟨n6, rfl⟩ w5.heap.size
      have HV_6 := Lib.hid (HV_5.out.bel hb6)
      have HS_6 := Lib.hid (HS_5.out.bel hb6)
      have HP6 := Lib.hid (HP5.out.bels hb6)
      clear c0 c1
      have c0 := HP6.out.c0
      have c1 := HP6.out.c1
      clear hb6
      generalize w5.drewN n6 = w6 at *
      go_wp2_with (at_builtin; fail)
      refine (iPathsFrom_any _ _ ts l a _ _ HP6.out.ht HP6.out.hl (Nat.le_refl _) (by omega)).mono ?_
      rintro e w7 ⟨v7, rfl, hv7, hb7⟩
      have HF_7 := Lib.hid hv7
      clear hv7
      have HV_7 := Lib.hid (HV_6.out.bel hb7)
      have HS_7 := Lib.hid (HS_6.out.bel hb7)
      have HP7 := Lib.hid (HP6.out.bels hb7)
      clear c0 c1
      have c0 := HP7.out.c0
      have c1 := HP7.out.c1
      clear hb7
      go_wp2_with (at_builtin; fail)
      refine (bcIn_any _ _ b _ _ HF_7.out).mono ?_
      rintro e w97 ⟨rfl, rfl⟩
      rw [HL1.out]
      go_wp2_with (at_builtin; fail)
      go_ret
      exact ⟨rfl, HP7.out.bel⟩
    · obtain ⟨hv, k, t, rfl, rfl, W, hsr, hway, hWl⟩ := HL2.out (by first | trivial | rfl)
      have HWAY := Lib.hid hway
      have GD := Lib.hid (Good.of_valid hv)
      have hpp : pointsP ts l = ptsP l := by unfold pointsP; rw [if_pos hv]
      have HPP := Lib.hid hpp
      have HSR := Lib.hid hsr
      have hpl := GD.out.len
      have hW2 := hway.two
      clear hsr hway hv hpp
      go_wp2_with (at_builtin; fail)
      refine (iPointsOf_any _ _ ts l _ _ HP5.out.ht HP5.out.hl (Nat.le_refl _) (by omega)).mono ?_
      rintro e w6 ⟨v6, rfl, hv6, hb6⟩
      rw [HPP.out] at hv6
      have HPS_6 := Lib.hid hv6
      obtain ⟨Ap, cp, rfl, hcp, -⟩ := hv6.slice
      clear hv6
      have HV_6 := Lib.hid (HV_5.out.bel hb6)
      have HP6 := Lib.hid (HP5.out.bels hb6)
      clear c0 c1
      have c0 := HP6.out.c0
      have c1 := HP6.out.c1
      clear hb6
      have HW_6 : Hid (IntS w6 w6.heap.size v2 (msk W)) := Lib.hid (by rw [← HSR.out]; exact HV_6.out)
      clear HL1 HL2
      obtain ⟨A2, c2, hve, hc2, hm2, hr2⟩ := HW_6.out
      rw [hve]
      rw [msk_len] at hc2 hm2
      have HR2 := Lib.hid hr2
      have HVE := Lib.hid hve
      clear hr2 hve HSR HPP
      generalize ptsP l = pts at *
      rw [msk_len]
      go_wp2_with (at_builtin; fail)
      go_loopw [11] (fun i wr => ∃ j : Nat, j + 1 ≤ W.length ∧ i = .int .i64 ((j + 1 : Nat) : Int) ∧ Below w6.heap.size w6 wr) (fun i _ => W.length + 1 - (intOf i).toNat)
      case atStart => exact ⟨0, by omega, rfl, Below.refl _ _⟩
      case round =>
        obtain ⟨j, hj, rfl, hbw⟩ := hrel
        have HBW := Lib.hid hbw
        have hsw := hbw.size
        have HWW := Lib.hid (HR2.out.keep fun b o hb => hbw.cell (p := ⟨b, o, none⟩) hb)
        by_cases hjl : j + 1 < W.length
        · obtain ⟨b2, o2, rfl, hb2, hcell2⟩ := HWW.out.int_at (k := j) (by rw [msk_len]; omega)
          have d1 := hcell2 j (by rw [msk_len]; omega)
          have d2 := hcell2 (j + 1) (by rw [msk_len]; omega)
          rw [mskW_get (by omega)] at d1
          rw [mskW_get hjl] at d2
          obtain ⟨P, hP, hin⟩ := HWAY.out.edge j hjl
          obtain ⟨x, hx⟩ : ∃ x, x = W.getD j 0 := ⟨_, rfl⟩
          rw [← hx] at d1 hP
          have hxl := (List.getElem?_eq_some_iff.1 hP).1
          obtain ⟨bp, op, cp', nv, e, hbp, hcp', hlp, hnx, z0, z1, z2, z3, z4⟩ := (HPS_6.out.low hbw (Nat.le_refl _)).get hxl
          injection e with e1 e9 e2
          subst e1 e2
          have hPx : pts[x] = P := by rw [List.getElem?_eq_getElem hxl] at hP; injection hP
          rw [hPx] at hnx
          have HNX := Lib.hid hnx
          obtain ⟨An, cn, rfl, hcn, hln, -⟩ := hnx
          simp only [List.length_map] at z4 hcn hln HNX
          have HIN : Hid (hasP (P.next.map fun k => ((k : Nat) : Int)) ((W.getD (j + 1) 0 : Nat) : Int) = true) := Lib.hid ((hasP_iff _ _).2 (List.mem_map.2 ⟨_, hin, rfl⟩))
          obtain ⟨y, hy⟩ : ∃ y, y = W.getD (j + 1) 0 := ⟨_, rfl⟩
          rw [← hy] at d2 HIN
          have hb2w : b2 < wr.heap.size := by omega
          have hbpw : bp < wr.heap.size := by omega
          have hj0 : j < W.length := by omega
          obtain ⟨J, hJ⟩ : ∃ J : Nat, J = j + 1 := ⟨_, rfl⟩
          rw [← hJ] at d2 hjl ⊢
          have hsub : ((J : Int) - 1) = ((j : Nat) : Int) := by omega
          have hwj : IntKind.i64.wrap ((j : Nat) : Int) = ((j : Nat) : Int) := IntWalk.i64_in _ (by omega)
          have HJ := Lib.hid hJ
          have HCI : Hid (∀ wq, Below wr.heap.size wr wq → Calls Try.prog 21 #[.slice An P.next.length cn, .int .i64 (y : Nat)] wq fun e' w'' => e' = .returned (.bool true) ∧ Below wr.heap.size wr w'') := Lib.hid fun wq hS => (bcIn_any _ _ _ _ wq (HNX.out.low (hS.mono hsw) (Nat.le_refl _))).mono fun e' w'' ⟨h1, h2⟩ => ⟨by rw [h1, HIN.out], by rw [← h2]; exact hS⟩
          clear hcell2 z0 z1 z2 z3 hP hin hx hy hPx e9 hbw hJ
          go_upto_region 12 with (at_builtin; fail)
          refine wp_region_seq (Below wr.heap.size wr) (by kernel_rfl) (by kernel_rfl) (Below.refl _ _).drew ?_
          repeat (first
            | (refine SeqS.skip (by rfl) ?_; (try simp only [Act.put, List.setIfInBounds_toArray, List.set_cons_zero, List.set_cons_succ]))
            | (refine SeqS.pure (v := ?_) (by rfl) (fun w' hSw => ?_) ?_; rotate_left; (obtain ⟨hc9, hf9⟩ := bcell hSw; go_simp; with_reducible rfl); (try simp only [Act.put, List.setIfInBounds_toArray, List.set_cons_zero, List.set_cons_succ]))
            | (refine SeqS.call (f := ?_) (args := ?_) (v := ?_) (by rfl) (fun w' => ?_) (fun w' hSw => ?_) ?_; rotate_left 3; (go_simp; constructor; (with_reducible rfl); (with_reducible rfl)); (first | exact HCI.out _ hSw | fail); (try simp only [Act.put, List.setIfInBounds_toArray, List.set_cons_zero, List.set_cons_succ]))
            | fail)
          intro w11 hb11
          go_wp2_with (at_builtin; fail)
          have hJ := HJ.out
          exact ⟨⟨j + 1, by omega, by rw [← hJ]; go_num, HBW.out.trans (hb11.mono hsw)⟩, by simp [intOf] <;> omega⟩
        · obtain ⟨n1, hn1⟩ : ∃ n1, W.length = n1 + 1 := ⟨W.length - 1, by omega⟩
          obtain ⟨b2, o2, rfl, hb2, hcell2⟩ := HWW.out.int_at (k := 0) (by rw [msk_len]; omega)
          have d1 := hcell2 0 (by rw [msk_len]; omega)
          have d2 := hcell2 n1 (by rw [msk_len]; omega)
          rw [mskW_get (by omega), HWAY.out.first] at d1
          have hlast := HWAY.out.last
          rw [show W.length - 1 = n1 by omega] at hlast
          rw [mskW_get (by omega), hlast] at d2
          rw [Nat.add_zero] at d1
          have hHP := Lib.hid (HP6.out.bels hbw)
          have hjd : decide (((j + 1 : Nat) : Int) < (W.length : Int)) = false := decide_eq_false (by omega)
          rw [hn1] at hjd hWl hW2 hc2 hm2 ⊢
          have h2d : decide ((((n1 + 1 : Nat)) : Int) ≥ 2) = true := decide_eq_true (by omega)
          have h3d : decide ((((n1 + 1 : Nat)) : Int) ≤ (pts.length : Int) + 1) = true := decide_eq_true (by omega)
          have hsub : (((n1 + 1 : Nat) : Int) - 1) = ((n1 : Nat) : Int) := by omega
          have hn2 : 2 ≤ n1 + 1 := by omega
          have hwn : IntKind.i64.wrap ((n1 : Nat) : Int) = ((n1 : Nat) : Int) := IntWalk.i64_in _ (by omega)
          have hwn2 : IntKind.i64.wrap (((n1 + 1 : Nat) : Int) - 1) = ((n1 : Nat) : Int) := by rw [hsub]; exact hwn
          have hjn : j = n1 := by omega
          clear hcell2 hlast hn1 hbw
          go_wp2_with (at_builtin; fail)
          go_ret
          exact ⟨rfl, hHP.out.bel⟩
  · have hn1 : (1048576 : Int) < n := by omega
    unfold maxLen at hm
    go_enter Try.func7, Try.ntmps7
    go_wp2_with fail
    go_ret
    exact ⟨rfl, Below.refl _ _⟩

end Go.Proofs.Ytmaaaiccmllnlaa
