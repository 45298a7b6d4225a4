import Derived.Test.YtidlifijgooceaaJ32
import Derived.Deep.DeepCutAuto
set_option linter.unusedVariables false

/- Shortest ways: impl.graph.shortWay, impl.ShortWay. -/
namespace Go.Proofs.Ytidlifijgooceaa
open Go.RowKit

def WayRet (w : World) (pts : List Pt) (a t : Nat) (e : Ending) (w' : World) : Prop :=
  ∃ v, e = .returned (.tuple #[v, .bool (wayC pts a t).isSome]) ∧ IntS w' w'.heap.size v (msk (wayN pts a t)) ∧ Below w.heap.size w w'
theorem iv_zi (n : Nat) : iv (List.replicate n 0) = zi (List.replicate n 0) := by simp [iv, zi]
theorem neg_step {n k : Nat} (h : k < n) : (List.replicate k (-1 : Int) ++ List.replicate (n - k) 0).set k (-1) = List.replicate (k + 1) (-1 : Int) ++ List.replicate (n - (k + 1)) 0 := by
  rw [List.set_append, if_neg (by simp)]
  simp only [List.length_replicate, Nat.sub_self]
  rw [show n - k = (n - (k + 1)) + 1 by omega, List.replicate_succ, List.set_cons_zero, List.replicate_succ', List.append_assoc]; rfl
theorem msk_app (a b : List Nat) : msk (a ++ b) = msk a ++ msk b := by simp [msk]
theorem msk_rev (a : List Nat) : (msk a).reverse = msk a.reverse := by simp [msk]
theorem wayN_some {pts : List Pt} {a t : Nat} {L : List Nat} (h : wayC pts a t = some L) : wayN pts a t = (t :: L).reverse := by unfold wayN; rw [h]
theorem wayN_none {pts : List Pt} {a t : Nat} (h : wayC pts a t = none) : wayN pts a t = [] := by unfold wayN; rw [h]
/-- the queue's slice without its head -/
theorem Qu.ints {w : World} {base : Nat} (hb : base ≤ w.heap.size) (j : Nat) : IntS (w.alloc (.cells #[.int .i64 (j : Nat)] 3)) (w.heap.size + 1) (.slice (some ⟨w.heap.size, 0, none⟩) 1 1) (msk [j]) := ints_one w (j : Nat)
theorem OInts.one_ (w : World) (x : Int) : OInts (w.alloc (.cells #[.int .i64 x] 3)) w.heap.size (.slice (some ⟨w.heap.size, 0, none⟩) 1 1) [x] := World.ownsRow_lit (base := w.heap.size) (e := 3) (size := 1) w #[.int .i64 x] 1 (Nat.le_refl _) (by simp [maxLen]) rfl
set_option maxHeartbeats 8000000 in
set_option maxRecDepth 100000 in
theorem shortWay_any (vg : Value) (ts : List Int) (pts : List Pt) (B a t : Nat) (w : World) (hg : GrS w B vg ts pts) (hB : B ≤ w.heap.size) (gd : Good ts pts) (ha : a < pts.length) (ht : t < pts.length) :
    Calls Try.prog 140 #[vg, .int .i64 (a : Nat), .int .i64 (t : Nat)] w (WayRet w pts a t) := by
  have GN := Lib.hid gd.next
  have GN2 := Lib.hid gd.next2
  have hpl := gd.len
  clear gd
  obtain ⟨g, At, ct, vb, Al, cl, rfl, hgB, g0, g1, g2, ht', hp, htl, hpl'⟩ := hg.open_
  have hgw : g < w.heap.size := by omega
  have HPS := Lib.hid hp
  have hmk := make_ints pts.length (by omega)
  rw [iv_zi] at hmk
  have HR0 : Hid (RowB (w.alloc (.cells (zi (List.replicate pts.length 0)).toArray 3)) w.heap.size 3 (zi (List.replicate 0 (-1) ++ List.replicate (pts.length - 0) 0))) := Lib.hid (by simpa using RowB.new w (zi (List.replicate pts.length 0)) 3)
  have HB0 := Lib.hid (bel_a w (.cells (zi (List.replicate pts.length 0)).toArray 3))
  generalize List.replicate pts.length 0 = z0 at hmk HB0 HR0
  clear hp ht' g0 g1 hg
  go_enter Try.func140, Try.ntmps140
  go_wp2_with (at_builtin; fail)
  clear hmk
  go_loopw [24] (fun i wr => ∃ k : Nat, k ≤ pts.length ∧ i = .int .i64 k ∧ RowB wr w.heap.size 3 (zi (List.replicate k (-1) ++ List.replicate (pts.length - k) 0)) ∧ Below w.heap.size w wr) (fun i _ => pts.length - (intOf i).toNat)
  case atStart => exact ⟨0, Nat.zero_le _, rfl, HR0.out, HB0.out⟩
  case round =>
    obtain ⟨k, hk, rfl, hrw, hbw⟩ := hrel
    have HRW := Lib.hid hrw
    have HBW := Lib.hid hbw
    have hrl := hrw.lt
    have hsw := hbw.size
    by_cases hlt : k < pts.length
    · have d0 := hrw.cell k
      rw [zi_get 0 (by simp; omega)] at d0
      have f0 := hrw.frozen k
      have HNX : Hid (RowB (wr.setCell ⟨w.heap.size, k, none⟩ (.int .i64 (-1))) w.heap.size 3 (zi (List.replicate (k + 1) (-1) ++ List.replicate (pts.length - (k + 1)) 0))) := Lib.hid (by
        have h := hrw.set_ k (.int .i64 (-1))
        rw [zi_set, neg_step hlt] at h
        exact h)
      generalize (List.replicate k (-1) ++ List.replicate (pts.length - k) 0).getD k 0 = x0 at *
      clear hrw hbw
      go_wp2_with (at_builtin; fail)
      exact ⟨⟨k + 1, by omega, by go_num, HNX.out, HBW.out.setCell (p := ⟨w.heap.size, k, none⟩) (Nat.le_refl _) _⟩, by simp [intOf] <;> omega⟩
    · have hkl : k = pts.length := by omega
      have HRN : Hid (RowB wr w.heap.size 3 (zi (List.replicate pts.length (-1)))) := Lib.hid (by have h := hrw; rw [hkl, Nat.sub_self] at h; simpa using h)
      have HI := Lib.hid (WyS.init pts a)
      have HMU := Lib.hid (muW2_init pts a hpl)
      have hkf : decide ((k : Int) < (pts.length : Int)) = false := decide_eq_false (by omega)
      have HQ0 := Lib.hid (Qu.one (w := wr) (base := w.heap.size + 1) (by omega) a)
      have HRN1 := Lib.hid (HRN.out.alloc (.cells #[.int .i64 (a : Nat)] 3))
      have HBN := Lib.hid (HBW.out.alloc hsw (.cells #[.int .i64 (a : Nat)] 3))
      clear hkl hrw hbw HRW HRN HBW
      generalize List.replicate pts.length (-1) = bk0 at *
      go_wp2_with (at_builtin; fail)
      clear hkf
      generalize wr.alloc (.cells #[.int .i64 (a : Nat)] 3) = w3 at *
      go_loopg [10] (muW2 ⟨bk0, [a], [], a⟩ + 1) (fun gk v wr => ∃ (bk : List Int) (q : List Nat) (d : Nat), Qu wr (w.heap.size + 1) v q ∧ RowB wr w.heap.size 3 (zi bk) ∧ WyS pts a ⟨bk, q, [], d⟩ ∧ (muW2 ⟨bk, q, [], d⟩ < gk ∧ muW2 ⟨bk, q, [], d⟩ ≤ 400) ∧ Below w.heap.size w wr)
      case atStart => exact ⟨bk0, [a], a, HQ0.out, HRN1.out, HI.out, ⟨by omega, HMU.out⟩, HBN.out⟩
      case round =>
        obtain ⟨bk, q, d, hq, hrw, hws, hmu, hbw⟩ := hrel
        have HRW := Lib.hid hrw
        have HWS := Lib.hid hws
        have HMK := Lib.hid hmu.1
        have HM4 := Lib.hid hmu.2
        have HBW := Lib.hid hbw
        have hsw := hbw.size
        have hrl := hrw.lt
        obtain ⟨hbl, hqb, -, -, hvb⟩ := hws.bnd ha GN.out
        simp only at hbl hqb hvb
        have HBL := Lib.hid hbl
        have HVB := Lib.hid hvb
        have dt := hrw.cell t
        rw [zi_get (-1) (by omega : t < bk.length)] at dt
        have HCH := Lib.hid (fun h => WyS.chn ha GN.out HWS.out (t := t) h)
        have HNO := Lib.hid (fun h1 h2 => wayC_none HWS.out (t := t) h1 rfl h2)
        simp only at HCH HNO
        obtain ⟨bt, hbt⟩ : ∃ bt, bt = bk.getD t (-1) := ⟨_, rfl⟩
        rw [← hbt] at dt HCH HNO
        have HBT := Lib.hid hbt
        clear hmu HI HMU HQ0 HRN1 HBN hvb hws hbl hbt
        by_cases hbt0 : bt < 0
        · have hc0 : decide (bt < 0) = true := decide_eq_true hbt0
          cases q with
          | nil =>
            obtain ⟨gq, oq, cq, rfl, hcq⟩ := hq.slice
            have HN := Lib.hid (HNO.out rfl hbt0)
            have HRES := Lib.hid (wayN_none HN.out)
            clear hq hrw hbw hqb HNO HCH
            simp only [List.length_nil] at hcq ⊢
            go_wp2_with (at_builtin; fail)
            go_ret2
            exact ⟨_, by rw [HN.out]; rfl, by rw [HRES.out]; exact IntS.nil' _ _ none 0, HBW.out⟩
          | cons k r =>
            obtain ⟨gq, oq, cq, rfl, hqc, hql, hhd, hpop⟩ := hq.head
            have HPOP := Lib.hid hpop
            have hk : k < pts.length := hqb k (by simp)
            have HMP := Lib.hid (WyS.popMu ha GN.out GN2.out HWS.out hk)
            have HWP := Lib.hid (HWS.out.pop hk)
            have hrl4 : r.length ≤ 400 := by have := HM4.out; simp only [muW2, List.length_cons] at this; omega
            obtain ⟨b3, off3, c3, nv, e, hb3, hc3, hl3, hnx, z0, z1, z2, z3, z4⟩ := (HPS.out.low hbw hB).get hk
            injection e with e1 e9 e2
            subst e1 e2
            have HNX := Lib.hid hnx
            obtain ⟨An, cn, rfl, hcn, hln, -⟩ := hnx
            simp only [List.length_map] at z4 hcn hln HNX
            have y2 := (hbw.cell (p := ⟨g, 2, none⟩) (by show g < _; omega)).trans g2
            have HNXB := Lib.hid (GN.out _ (List.getElem_mem hk))
            have hn2 : pts[k].next.length ≤ 2 := GN2.out _ (List.getElem_mem hk)
            generalize pts[k].next = nx at *
            have hq0 : decide ((0 : Int) < ((r.length + 1 : Nat) : Int)) = true := decide_eq_true (by omega)
            clear e9 hpop hq z0 z1 z2 z3 hqb hrw hbw HNO HCH
            (try simp only [List.length_cons])
            rcases Nat.eq_zero_or_pos cq with hc0q | hc0q
            · subst hc0q
              have HT : Hid (Qu wr (w.heap.size + 1) (.slice (some ⟨gq, oq, none⟩) 0 0) r) := Lib.hid (by
                have := HPOP.out oq (by simp)
                rwa [show r.length = 0 by omega] at this)
              go_wp2_with (at_builtin; fail)
              clear dt hc0
              go_loopw [10, 57] (fun v i wr => ∃ (j : Nat) (bk' : List Int) (q' : List Nat), j ≤ nx.length ∧ i = .int .i64 j ∧ Qu wr (w.heap.size + 1) v q' ∧ RowB wr w.heap.size 3 (zi bk') ∧ WyS pts a ⟨bk', q', nx.drop j, k⟩ ∧ muW2 ⟨bk', q', nx.drop j, k⟩ < muW2 ⟨bk, k :: r, [], d⟩ ∧ Below w.heap.size w wr) (fun _ i _ => nx.length - (intOf i).toNat)
              case atStart => exact ⟨0, bk, r, Nat.zero_le _, rfl, HT.out, HRW.out, HWP.out, HMP.out, HBW.out⟩
              case round =>
                obtain ⟨j, bk', q', hj, rfl, hq', hrw', hws', hmu', hbw'⟩ := hrel
                have HQ' := Lib.hid hq'
                have HRW' := Lib.hid hrw'
                have HWS' := Lib.hid hws'
                have HMU' := Lib.hid hmu'
                have HBW' := Lib.hid hbw'
                have hsw' := hbw'.size
                have hrl' := hrw'.lt
                obtain ⟨hbl', -, -, -, -⟩ := hws'.bnd ha GN.out
                simp only at hbl'
                have HBL' := Lib.hid hbl'
                have HNX' := Lib.hid (HNX.out.low ((Below.refl w.heap.size _).trans (Below.refl w.heap.size _)) hB)
                obtain ⟨gq', oq', cq', rfl, hcq'⟩ := hq'.slice
                have hq4 : q'.length ≤ 400 := by have := HMU'.out; have := HM4.out; simp only [muW2] at *; omega
                clear hq' hws' hmu' HNX'
                by_cases hjl : j < nx.length
                · have HDR : Hid (nx.drop j = nx[j] :: nx.drop (j + 1)) := Lib.hid (List.drop_eq_getElem_cons hjl)
                  obtain ⟨bn, on, rfl, hbn, hcell⟩ := Rd.int_at (l := msk nx) (by
                    obtain ⟨A2, c2, e2, _, _, hr2⟩ := HNX.out
                    injection e2 with e2 _ _
                    subst e2
                    exact hr2) (k := j) (by rw [msk_len]; exact hjl)
                  have hcj := hcell j (by rw [msk_len]; exact hjl)
                  rw [show (msk nx).getD j 0 = ((nx[j] : Nat) : Int) by rw [getD_lt (by rw [msk_len]; exact hjl)]; simp [msk]] at hcj
                  have hm := HNXB.out nx[j] (List.getElem_mem hjl)
                  generalize nx[j] = m at *
                  have hcw := (hbw'.cell (p := ⟨bn, on + j, none⟩) (by show bn < _; omega)).trans ((HBW.out.cell (p := ⟨bn, on + j, none⟩) (by show bn < _; omega)).symm.trans hcj)
                  have hml : m < bk'.length := by omega
                  have dm := hrw'.cell m
                  rw [zi_get (-1) hml] at dm
                  have fm := hrw'.frozen m
                  have HW2 : Hid (WyS pts a ⟨bk', q', m :: nx.drop (j + 1), k⟩) := Lib.hid (by rw [← HDR.out]; exact HWS'.out)
                  have HM2 : Hid (muW2 ⟨bk', q', m :: nx.drop (j + 1), k⟩ < muW2 ⟨bk, k :: r, [], d⟩) := Lib.hid (by rw [← HDR.out]; exact HMU'.out)
                  clear hcell hcj hrw' hbw' hbl'
                  by_cases hneg : bk'.getD m (-1) < 0
                  · have HWT := Lib.hid (HW2.out.take hneg)
                    have HMT := Lib.hid (Nat.lt_trans (WyS.takeMu ha GN.out GN2.out HW2.out hneg) HM2.out)
                    have hnd : decide (bk'.getD m (-1) < 0) = true := decide_eq_true hneg
                    have HRS : Hid (RowB (wr.setCell ⟨w.heap.size, m, none⟩ (.int .i64 (k : Nat))) w.heap.size 3 (zi (bk'.set m (k : Nat)))) := Lib.hid (by rw [← zi_set]; exact HRW'.out.set_ m _)
                    have HQS := Lib.hid (HQ'.out.other (b := w.heap.size) (by omega) m (.int .i64 (k : Nat)))
                    have HBS := Lib.hid (HBW'.out.setCell (p := ⟨w.heap.size, m, none⟩) (Nat.le_refl _) (.int .i64 (k : Nat)))
                    have hsS : (wr.setCell ⟨w.heap.size, m, none⟩ (.int .i64 (k : Nat))).heap.size = wr.heap.size := by simp [World.setCell]
                    have HSZ := Lib.hid hsS
                    have HA := fun o => (HQS.out.bel (bel_a (wr.setCell ⟨w.heap.size, m, none⟩ (.int .i64 (k : Nat))) o))
                    have HAQ := Lib.hid HA
                    have HI1 := Lib.hid (Qu.ints (w := wr.setCell ⟨w.heap.size, m, none⟩ (.int .i64 (k : Nat))) (base := 0) (Nat.zero_le _) m)
                    have HRA := Lib.hid (fun o => HRS.out.alloc o)
                    have HBA := Lib.hid (fun o => HBS.out.alloc (by rw [hsS]; omega) o)
                    rw [hsS] at HI1
                    generalize bk'.getD m (-1) = bm at *
                    clear hneg HA hsS
                    go_wp2_with (at_builtin; go_must (refine wpList_app_q rfl (.tmp 70) (.tmp 72) rfl (HAQ.out _) (by have := HSZ.out; simp; omega) (by omega) HI1.out (by simp) rfl rfl ?_); intro v' w' hQ' hE')
                    exact ⟨⟨j + 1, _, _, by omega, by go_num, hQ', (HRA.out _).low hE' (by omega), HWT.out, HMT.out, (HBA.out _).trans (hE'.mono (by omega))⟩, by simp [intOf] <;> omega⟩
                  · have HWT := Lib.hid (HW2.out.skip (by omega))
                    have HMT := Lib.hid (Nat.lt_trans (WyS.skipMu ha GN.out GN2.out HW2.out (by omega)) HM2.out)
                    have hnd : decide (bk'.getD m (-1) < 0) = false := decide_eq_false hneg
                    generalize bk'.getD m (-1) = bm at *
                    go_wp2_with (at_builtin; fail)
                    exact ⟨⟨j + 1, bk', q', by omega, by go_num, HQ'.out, HRW'.out, HWT.out, HMT.out, HBW'.out⟩, by simp [intOf] <;> omega⟩
                · have hje : j = nx.length := by omega
                  have HW2 : Hid (WyS pts a ⟨bk', q', [], k⟩) := Lib.hid (by have h := HWS'.out; rw [hje, List.drop_length] at h; exact h)
                  have HM2 : Hid (muW2 ⟨bk', q', [], k⟩ < muW2 ⟨bk, k :: r, [], d⟩) := Lib.hid (by have h := HMU'.out; rw [hje, List.drop_length] at h; exact h)
                  clear hje hrw' hbw' hbl'
                  go_wp2_with (at_builtin; fail)
                  go_roundg (muW2 ⟨bk, k :: r, [], d⟩)
                  case measure => exact HMK.out
                  case rel => exact ⟨bk', q', k, HQ'.out, HRW'.out, HW2.out, ⟨HM2.out, Nat.le_of_lt (Nat.lt_of_lt_of_le HM2.out HM4.out)⟩, HBW'.out⟩
            · have HT : Hid (Qu wr (w.heap.size + 1) (.slice (some ⟨gq, oq + 1, none⟩) r.length cq) r) := Lib.hid (HPOP.out (oq + 1) (by simp))
              go_wp2_with (at_builtin; fail)
              clear dt hc0
              go_loopw [10, 57] (fun v i wr => ∃ (j : Nat) (bk' : List Int) (q' : List Nat), j ≤ nx.length ∧ i = .int .i64 j ∧ Qu wr (w.heap.size + 1) v q' ∧ RowB wr w.heap.size 3 (zi bk') ∧ WyS pts a ⟨bk', q', nx.drop j, k⟩ ∧ muW2 ⟨bk', q', nx.drop j, k⟩ < muW2 ⟨bk, k :: r, [], d⟩ ∧ Below w.heap.size w wr) (fun _ i _ => nx.length - (intOf i).toNat)
              case atStart => exact ⟨0, bk, r, Nat.zero_le _, rfl, HT.out, HRW.out, HWP.out, HMP.out, HBW.out⟩
              case round =>
                obtain ⟨j, bk', q', hj, rfl, hq', hrw', hws', hmu', hbw'⟩ := hrel
                have HQ' := Lib.hid hq'
                have HRW' := Lib.hid hrw'
                have HWS' := Lib.hid hws'
                have HMU' := Lib.hid hmu'
                have HBW' := Lib.hid hbw'
                have hsw' := hbw'.size
                have hrl' := hrw'.lt
                obtain ⟨hbl', -, -, -, -⟩ := hws'.bnd ha GN.out
                simp only at hbl'
                have HBL' := Lib.hid hbl'
                have HNX' := Lib.hid (HNX.out.low ((Below.refl w.heap.size _).trans (Below.refl w.heap.size _)) hB)
                obtain ⟨gq', oq', cq', rfl, hcq'⟩ := hq'.slice
                have hq4 : q'.length ≤ 400 := by have := HMU'.out; have := HM4.out; simp only [muW2] at *; omega
                clear hq' hws' hmu' HNX'
                by_cases hjl : j < nx.length
                · have HDR : Hid (nx.drop j = nx[j] :: nx.drop (j + 1)) := Lib.hid (List.drop_eq_getElem_cons hjl)
                  obtain ⟨bn, on, rfl, hbn, hcell⟩ := Rd.int_at (l := msk nx) (by
                    obtain ⟨A2, c2, e2, _, _, hr2⟩ := HNX.out
                    injection e2 with e2 _ _
                    subst e2
                    exact hr2) (k := j) (by rw [msk_len]; exact hjl)
                  have hcj := hcell j (by rw [msk_len]; exact hjl)
                  rw [show (msk nx).getD j 0 = ((nx[j] : Nat) : Int) by rw [getD_lt (by rw [msk_len]; exact hjl)]; simp [msk]] at hcj
                  have hm := HNXB.out nx[j] (List.getElem_mem hjl)
                  generalize nx[j] = m at *
                  have hcw := (hbw'.cell (p := ⟨bn, on + j, none⟩) (by show bn < _; omega)).trans ((HBW.out.cell (p := ⟨bn, on + j, none⟩) (by show bn < _; omega)).symm.trans hcj)
                  have hml : m < bk'.length := by omega
                  have dm := hrw'.cell m
                  rw [zi_get (-1) hml] at dm
                  have fm := hrw'.frozen m
                  have HW2 : Hid (WyS pts a ⟨bk', q', m :: nx.drop (j + 1), k⟩) := Lib.hid (by rw [← HDR.out]; exact HWS'.out)
                  have HM2 : Hid (muW2 ⟨bk', q', m :: nx.drop (j + 1), k⟩ < muW2 ⟨bk, k :: r, [], d⟩) := Lib.hid (by rw [← HDR.out]; exact HMU'.out)
                  clear hcell hcj hrw' hbw' hbl'
                  by_cases hneg : bk'.getD m (-1) < 0
                  · have HWT := Lib.hid (HW2.out.take hneg)
                    have HMT := Lib.hid (Nat.lt_trans (WyS.takeMu ha GN.out GN2.out HW2.out hneg) HM2.out)
                    have hnd : decide (bk'.getD m (-1) < 0) = true := decide_eq_true hneg
                    have HRS : Hid (RowB (wr.setCell ⟨w.heap.size, m, none⟩ (.int .i64 (k : Nat))) w.heap.size 3 (zi (bk'.set m (k : Nat)))) := Lib.hid (by rw [← zi_set]; exact HRW'.out.set_ m _)
                    have HQS := Lib.hid (HQ'.out.other (b := w.heap.size) (by omega) m (.int .i64 (k : Nat)))
                    have HBS := Lib.hid (HBW'.out.setCell (p := ⟨w.heap.size, m, none⟩) (Nat.le_refl _) (.int .i64 (k : Nat)))
                    have hsS : (wr.setCell ⟨w.heap.size, m, none⟩ (.int .i64 (k : Nat))).heap.size = wr.heap.size := by simp [World.setCell]
                    have HSZ := Lib.hid hsS
                    have HA := fun o => (HQS.out.bel (bel_a (wr.setCell ⟨w.heap.size, m, none⟩ (.int .i64 (k : Nat))) o))
                    have HAQ := Lib.hid HA
                    have HI1 := Lib.hid (Qu.ints (w := wr.setCell ⟨w.heap.size, m, none⟩ (.int .i64 (k : Nat))) (base := 0) (Nat.zero_le _) m)
                    have HRA := Lib.hid (fun o => HRS.out.alloc o)
                    have HBA := Lib.hid (fun o => HBS.out.alloc (by rw [hsS]; omega) o)
                    rw [hsS] at HI1
                    generalize bk'.getD m (-1) = bm at *
                    clear hneg HA hsS
                    go_wp2_with (at_builtin; go_must (refine wpList_app_q rfl (.tmp 70) (.tmp 72) rfl (HAQ.out _) (by have := HSZ.out; simp; omega) (by omega) HI1.out (by simp) rfl rfl ?_); intro v' w' hQ' hE')
                    exact ⟨⟨j + 1, _, _, by omega, by go_num, hQ', (HRA.out _).low hE' (by omega), HWT.out, HMT.out, (HBA.out _).trans (hE'.mono (by omega))⟩, by simp [intOf] <;> omega⟩
                  · have HWT := Lib.hid (HW2.out.skip (by omega))
                    have HMT := Lib.hid (Nat.lt_trans (WyS.skipMu ha GN.out GN2.out HW2.out (by omega)) HM2.out)
                    have hnd : decide (bk'.getD m (-1) < 0) = false := decide_eq_false hneg
                    generalize bk'.getD m (-1) = bm at *
                    go_wp2_with (at_builtin; fail)
                    exact ⟨⟨j + 1, bk', q', by omega, by go_num, HQ'.out, HRW'.out, HWT.out, HMT.out, HBW'.out⟩, by simp [intOf] <;> omega⟩
                · have hje : j = nx.length := by omega
                  have HW2 : Hid (WyS pts a ⟨bk', q', [], k⟩) := Lib.hid (by have h := HWS'.out; rw [hje, List.drop_length] at h; exact h)
                  have HM2 : Hid (muW2 ⟨bk', q', [], k⟩ < muW2 ⟨bk, k :: r, [], d⟩) := Lib.hid (by have h := HMU'.out; rw [hje, List.drop_length] at h; exact h)
                  clear hje hrw' hbw' hbl'
                  go_wp2_with (at_builtin; fail)
                  go_roundg (muW2 ⟨bk, k :: r, [], d⟩)
                  case measure => exact HMK.out
                  case rel => exact ⟨bk', q', k, HQ'.out, HRW'.out, HW2.out, ⟨HM2.out, Nat.le_of_lt (Nat.lt_of_lt_of_le HM2.out HM4.out)⟩, HBW'.out⟩
        · have hc0 : decide (bt < 0) = false := decide_eq_false hbt0
          obtain ⟨L, hchn, hwc, hLl⟩ := HCH.out (by omega)
          have HCN := Lib.hid hchn
          have HWC := Lib.hid hwc
          have HRES := Lib.hid (wayN_some hwc)
          have hqlen : q.length ≤ 400 := by have := HM4.out; simp only [muW2] at this; omega
          obtain ⟨gq, oq, cq, rfl, hcq⟩ := hq.slice
          clear hq hchn hwc hrw hbw hqb HNO HCH
          obtain ⟨wo, hwo⟩ : ∃ wo : World, wo = wr := ⟨_, rfl⟩
          rw [← hwo] at HRW HBW hsw hrl dt ⊢
          clear hwo
          have HO0 : Hid (OInts (wo.alloc (.cells #[.int .i64 (t : Nat)] 3)) wo.heap.size (.slice (some ⟨wo.heap.size, 0, none⟩) 1 1) (msk [t])) := Lib.hid (OInts.one_ wo t)
          have HRO := Lib.hid (HRW.out.alloc (.cells #[.int .i64 (t : Nat)] 3))
          have HBO := Lib.hid (bel_a wo (.cells #[.int .i64 (t : Nat)] 3))
          have dt2 := (HBO.out.cell (p := ⟨w.heap.size, t, none⟩) hrl).trans dt
          have hqd : decide ((0 : Int) < (q.length : Int)) = decide ((0 : Int) < (q.length : Int)) := rfl
          by_cases hq00 : q.length = 0
          · have hq0 : decide ((0 : Int) < (q.length : Int)) = false := decide_eq_false (by omega)
            clear hqd
            go_wp2_with (at_builtin; fail)
            clear dt dt2 hc0 hq0
            go_loopg [14, 15] (L.length + 1) (fun gk v c wr => ∃ (pre : List Nat) (k : Nat) (M : List Nat), Chn bk a k M ∧ L = pre ++ M ∧ M.length < gk ∧ c = .int .i64 (bk.getD k (-1)) ∧ OInts wr wo.heap.size v (msk (t :: pre)) ∧ Below wo.heap.size wo wr)
            case atStart => exact ⟨[], t, L, HCN.out, rfl, by omega, by rw [← HBT.out], HO0.out, HBO.out⟩
            case round =>
              obtain ⟨pre, k, M, hch, hLM, hMg, rfl, hO, hbx⟩ := hrel
              have HO := Lib.hid hO
              have HBX := Lib.hid hbx
              have hsx := hbx.size
              obtain ⟨b, M', hM, hbk, hor⟩ := hch.cons
              subst hM
              have hbn := (HVB.out k).2
              rw [hbk] at hbn ⊢
              have hbl : b < bk.length := by have := HBL.out; omega
              have hpre : (msk (t :: pre)).length ≤ 62 := by
                rw [msk_len]
                have h1 : L.length = pre.length + (M'.length + 1) := by rw [hLM]; simp
                simp; omega
              have db := (HRW.out.low hbx hrl).cell b
              rw [zi_get (-1) hbl] at db
              have hMG := Lib.hid hMg
              have HLM : Hid (L = (pre ++ [b]) ++ M') := Lib.hid (by rw [hLM]; simp)
              have HOR := Lib.hid hor
              have HMK2 : Hid (msk (t :: pre) ++ [((b : Nat) : Int)] = msk (t :: (pre ++ [b]))) := Lib.hid (by simp [msk])
              obtain ⟨A9, c9, rfl, hc9⟩ := hO.slice
              clear hO hbx hch hLM hMg hor hbk
              obtain ⟨bv', hbv⟩ : ∃ bv', bv' = bk.getD b (-1) := ⟨_, rfl⟩
              rw [← hbv] at db
              have HBV := Lib.hid hbv
              clear hbv
              have hrw0 : w.heap.size < wr.heap.size := by omega
              by_cases hba : b = a
              · have hbe : ((b : Int) == (a : Int)) = true := by simp; omega
                have HBA := Lib.hid hba
                clear hba
                go_wp2_with (at_builtin; go_must (refine wpList_push_int rfl (.tmp 90) (.tmp 92) rfl HO.out (by omega) (by omega) _ rfl rfl ?_); intro v' w' hP' hE')
                have HBE := Lib.hid (HBX.out.trans (((Evo.alloc wo.heap.size 3 _ _).trans hE').below (by omega)))
                have hM0 : M' = [] := by
                  rcases HOR.out with h | h
                  · exact h.2
                  · exact absurd HBA.out h.1
                have HPF : Hid (OInts w' wo.heap.size v' (msk (t :: L))) := Lib.hid (by
                  have h := hP'
                  rw [HMK2.out] at h
                  rw [HLM.out, hM0, List.append_nil]; exact h)
                have HRV := Lib.hid (reverse_any v' (msk (t :: L)) wo.heap.size w' HPF.out HBE.out.size (by rw [msk_len]; simp; omega))
                clear hP' hE'
                go_wp2_with (at_builtin; fail)
                refine HRV.out.mono ?_
                rintro e w8 ⟨rfl, hO8, hb8⟩
                have HO8 := Lib.hid hO8
                have HB8 := Lib.hid (HBW.out.trans ((HBE.out.trans hb8).mono hsw))
                clear hO8 hb8
                go_wp2_with (at_builtin; fail)
                go_ret2
                refine ⟨v', by rw [HWC.out]; rfl, ?_, HB8.out⟩
                rw [HRES.out, ← msk_rev]
                exact HO8.out.toS (by simp [msk]; omega)
              · have hbe : ((b : Int) == (a : Int)) = false := by simp; omega
                have hch2 : Chn bk a b M' := by
                  rcases HOR.out with h | h
                  · exact absurd h.1 hba
                  · exact h.2
                have HCH2 := Lib.hid hch2
                clear hch2 hba
                have dbA := fun o => ((bel_a wr o).cell (p := ⟨w.heap.size, b, none⟩) hrw0).trans db
                go_upto_region 24 with (at_builtin; go_must (refine wpList_push_int rfl (.tmp 90) (.tmp 92) rfl HO.out (by omega) (by omega) _ rfl rfl ?_); intro v' w' hP' hE')
                have HBE := Lib.hid (HBX.out.trans (((Evo.alloc wo.heap.size 3 _ _).trans hE').below (by omega)))
                have HRW' := Lib.hid (HRW.out.low HBE.out hrl)
                have db' := HRW'.out.cell b
                rw [zi_get (-1) hbl, ← HBV.out] at db'
                have HPF := Lib.hid hP'
                clear hP' hE' db dbA
                go_wp2_with (at_builtin; fail)
                go_roundg (M'.length + 1)
                case measure => exact hMG.out
                case rel => exact ⟨pre ++ [b], b, M', HCH2.out, HLM.out, by omega, by rw [← HBV.out], by rw [← HMK2.out]; exact HPF.out, HBE.out⟩
          · have hq0 : decide ((0 : Int) < (q.length : Int)) = true := decide_eq_true (by omega)
            clear hqd
            go_wp2_with (at_builtin; fail)
            clear dt dt2 hc0 hq0
            go_loopg [14, 15] (L.length + 1) (fun gk v c wr => ∃ (pre : List Nat) (k : Nat) (M : List Nat), Chn bk a k M ∧ L = pre ++ M ∧ M.length < gk ∧ c = .int .i64 (bk.getD k (-1)) ∧ OInts wr wo.heap.size v (msk (t :: pre)) ∧ Below wo.heap.size wo wr)
            case atStart => exact ⟨[], t, L, HCN.out, rfl, by omega, by rw [← HBT.out], HO0.out, HBO.out⟩
            case round =>
              obtain ⟨pre, k, M, hch, hLM, hMg, rfl, hO, hbx⟩ := hrel
              have HO := Lib.hid hO
              have HBX := Lib.hid hbx
              have hsx := hbx.size
              obtain ⟨b, M', hM, hbk, hor⟩ := hch.cons
              subst hM
              have hbn := (HVB.out k).2
              rw [hbk] at hbn ⊢
              have hbl : b < bk.length := by have := HBL.out; omega
              have hpre : (msk (t :: pre)).length ≤ 62 := by
                rw [msk_len]
                have h1 : L.length = pre.length + (M'.length + 1) := by rw [hLM]; simp
                simp; omega
              have db := (HRW.out.low hbx hrl).cell b
              rw [zi_get (-1) hbl] at db
              have hMG := Lib.hid hMg
              have HLM : Hid (L = (pre ++ [b]) ++ M') := Lib.hid (by rw [hLM]; simp)
              have HOR := Lib.hid hor
              have HMK2 : Hid (msk (t :: pre) ++ [((b : Nat) : Int)] = msk (t :: (pre ++ [b]))) := Lib.hid (by simp [msk])
              obtain ⟨A9, c9, rfl, hc9⟩ := hO.slice
              clear hO hbx hch hLM hMg hor hbk
              obtain ⟨bv', hbv⟩ : ∃ bv', bv' = bk.getD b (-1) := ⟨_, rfl⟩
              rw [← hbv] at db
              have HBV := Lib.hid hbv
              clear hbv
              have hrw0 : w.heap.size < wr.heap.size := by omega
              by_cases hba : b = a
              · have hbe : ((b : Int) == (a : Int)) = true := by simp; omega
                have HBA := Lib.hid hba
                clear hba
                go_wp2_with (at_builtin; go_must (refine wpList_push_int rfl (.tmp 90) (.tmp 92) rfl HO.out (by omega) (by omega) _ rfl rfl ?_); intro v' w' hP' hE')
                have HBE := Lib.hid (HBX.out.trans (((Evo.alloc wo.heap.size 3 _ _).trans hE').below (by omega)))
                have hM0 : M' = [] := by
                  rcases HOR.out with h | h
                  · exact h.2
                  · exact absurd HBA.out h.1
                have HPF : Hid (OInts w' wo.heap.size v' (msk (t :: L))) := Lib.hid (by
                  have h := hP'
                  rw [HMK2.out] at h
                  rw [HLM.out, hM0, List.append_nil]; exact h)
                have HRV := Lib.hid (reverse_any v' (msk (t :: L)) wo.heap.size w' HPF.out HBE.out.size (by rw [msk_len]; simp; omega))
                clear hP' hE'
                go_wp2_with (at_builtin; fail)
                refine HRV.out.mono ?_
                rintro e w8 ⟨rfl, hO8, hb8⟩
                have HO8 := Lib.hid hO8
                have HB8 := Lib.hid (HBW.out.trans ((HBE.out.trans hb8).mono hsw))
                clear hO8 hb8
                go_wp2_with (at_builtin; fail)
                go_ret2
                refine ⟨v', by rw [HWC.out]; rfl, ?_, HB8.out⟩
                rw [HRES.out, ← msk_rev]
                exact HO8.out.toS (by simp [msk]; omega)
              · have hbe : ((b : Int) == (a : Int)) = false := by simp; omega
                have hch2 : Chn bk a b M' := by
                  rcases HOR.out with h | h
                  · exact absurd h.1 hba
                  · exact h.2
                have HCH2 := Lib.hid hch2
                clear hch2 hba
                have dbA := fun o => ((bel_a wr o).cell (p := ⟨w.heap.size, b, none⟩) hrw0).trans db
                go_upto_region 24 with (at_builtin; go_must (refine wpList_push_int rfl (.tmp 90) (.tmp 92) rfl HO.out (by omega) (by omega) _ rfl rfl ?_); intro v' w' hP' hE')
                have HBE := Lib.hid (HBX.out.trans (((Evo.alloc wo.heap.size 3 _ _).trans hE').below (by omega)))
                have HRW' := Lib.hid (HRW.out.low HBE.out hrl)
                have db' := HRW'.out.cell b
                rw [zi_get (-1) hbl, ← HBV.out] at db'
                have HPF := Lib.hid hP'
                clear hP' hE' db dbA
                go_wp2_with (at_builtin; fail)
                go_roundg (M'.length + 1)
                case measure => exact hMG.out
                case rel => exact ⟨pre ++ [b], b, M', HCH2.out, HLM.out, by omega, by rw [← HBV.out], by rw [← HMK2.out]; exact HPF.out, HBE.out⟩

end Go.Proofs.Ytidlifijgooceaa
