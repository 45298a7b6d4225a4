import Derived.Test.YtmaaaiccmllnlaaG39
import Derived.Test.YtmaaaiccmllnlaaG10
import Derived.Test.YtmaaaiccmllnlaaG12
import Derived.Test.YtmaaaiccmllnlaaG28
import Derived.Test.YtmaaaiccmllnlaaG38
import Derived.Test.YtmaaaiccmllnlaaG20
set_option linter.unusedVariables false

/- spec.DrawBoundsHold. -/
namespace Go.Proofs.Ytmaaaiccmllnlaa
open Go.RowKit

theorem RwO.form {w : World} {base : Nat} {v : Value} {vs : List Value} {rs : List (List Int)} (h : RwO w base v vs rs) (hn : 0 < rs.length) : ∃ g c, v = .slice (some ⟨g, 0, none⟩) rs.length c ∧ rs.length ≤ c ∧ base ≤ g ∧ g < w.heap.size ∧ (∀ i, i < rs.length → w.cell? ⟨g, i, none⟩ = some (vs.getD i (.slice none 0 0))) ∧ (∀ i, w.frozen? ⟨g, i, none⟩ = false) ∧ ∃ cs, w.heap[g]? = some (.cells cs 23 (0, 0)) := by
  rcases h.own.2 with ⟨rfl, h0⟩ | ⟨g, cap, cur, rfl, hb, hh, hc1, _, hc2, hc3⟩
  · omega
  · refine ⟨g, cap, rfl, hc1, hb, row_lt hh, fun i hi => ?_, fun i => frozen_of_row _ _ _ _ _ hh, cur, hh⟩
    rw [cell_of_row _ _ _ _ _ _ hh]
    have : (cur.toList.take (rs.length * 1))[i]? = cur[i]? := by
      rw [List.getElem?_take, if_pos (by omega)]; simp
    rw [← this, hc3, getD_lt (by rw [h.len]; exact hi)]
    exact List.getElem?_eq_getElem _
theorem Onl.grown {S : Nat → Prop} {w w' : World} {g : Nat} (h : w.grownBy w' (some g)) (hS : S g) : Onl S w w' := ⟨h.os, h.tape, h.output, h.size, fun k hk hn => h.block k hk (fun e => by injection e with e; subst e; exact hn hS)⟩
theorem Onl.ofB {S : Nat → Prop} {w w' : World} {B : Nat} (h : Below B w w') (hS : ∀ k, B ≤ k → S k) : Onl S w w' := ⟨h.os, h.tape, h.output, h.size, fun k _ hn => h.block k (Nat.lt_of_not_le fun hh => hn (hS k hh))⟩
noncomputable def rgL (ts : List Int) (l : List St) (k : Nat) : List (List Int) := (List.range k).map fun j => regRes ts l ((j : Nat) : Int)
theorem rgL_len (ts : List Int) (l : List St) (k : Nat) : (rgL ts l k).length = k := by simp [rgL]
theorem rgL_succ (ts : List Int) (l : List St) (k : Nat) : rgL ts l (k + 1) = rgL ts l k ++ [regRes ts l ((k : Nat) : Int)] := by unfold rgL; rw [List.range_succ, List.map_append]; rfl
theorem rgL_get {ts : List Int} {l : List St} {k i : Nat} (h : i < k) : (rgL ts l k).getD i [] = regRes ts l ((i : Nat) : Int) := by
  rw [getD_lt (by rw [rgL_len]; exact h)]; simp [rgL]
/-- what DrawBoundsHold answers -/
def DbRet (w : World) (e : Ending) (w' : World) : Prop :=
  ∃ (vt vb vr : Value) (ts : List Int) (l : List St) (rs : List (List Int)), e = .returned (.tuple #[.agg #[vt, vb], vr]) ∧ IntX w' (fun b => w.heap.size ≤ b) vt ts ∧ StX w' (fun b => w.heap.size ≤ b) vb l ∧ IRx w' (fun b => w.heap.size ≤ b) vr rs ∧ ts.length ≤ 700 ∧ szL l ≤ 100000 ∧ rs.length ≤ 700 ∧ (∀ i, i < rs.length → (rs.getD i []).length ≤ 100) ∧ Below w.heap.size w w'
theorem db_close {w w3 W : World} {vt vb vr : Value} {ts : List Int} {l : List St} {rs : List (List Int)} (h3 : Below w.heap.size w w3) (hW : w3.grownBy W (some w.heap.size)) (hT : IntX w3 (fun b => w.heap.size + 1 ≤ b) vt ts) (hB : StX w3 (fun b => w.heap.size + 1 ≤ b) vb l) (hR : IRx w3 (fun b => w.heap.size + 1 ≤ b) vr rs) (ht : ts.length ≤ 700) (hl : szL l ≤ 100000) (hr : rs.length ≤ 700) (hrl : ∀ i, i < rs.length → (rs.getD i []).length ≤ 100) :
    DbRet w (.returned (.tuple #[.agg #[vt, vb], vr])) W := by
  have hk : ∀ b, w.heap.size + 1 ≤ b → b < w3.heap.size → w.heap.size ≤ b ∧ W.heap[b]? = w3.heap[b]? := fun b hb hl => ⟨by omega, hW.block b hl (fun e => by injection e with e; omega)⟩
  exact ⟨vt, vb, vr, ts, l, rs, rfl, hT.frame hW.size hk, hB.frame hW.size hk, hR.frame hW.size hk, ht, hl, hr, hrl, grown_new h3 (Nat.le_refl _) hW⟩

set_option maxHeartbeats 8000000 in
set_option maxRecDepth 100000 in
theorem drawBoundsHold_any (A : Option Addr) (n c : Nat) (w : World) (hb : Byt w w.heap.size A n) (hn : n ≤ 1048576) (hc : n ≤ c) :
    Calls Try.prog 15 #[.slice A n c] w (DbRet w) := by
  have HB := Lib.hid hb
  clear hb
  go_enter Try.func15, Try.ntmps15
  go_wp2_with fail
  have hA := bel_a w (.cells #[.slice none 0 0, .slice none 0 0] 26)
  have hsA : (w.alloc (.cells #[.slice none 0 0, .slice none 0 0] 26)).heap.size = w.heap.size + 1 := by simp
  refine (l17Open_any A n c _ (by rw [hsA]; exact (HB.out.keep fun b o hb => hA.cell (p := ⟨b, o, none⟩) hb).more (by omega)) hn hc).mono ?_
  rw [hsA]
  rintro e w1 ⟨rfl, hd1, hb1⟩
  have hb1' : Below (w.alloc (.cells #[.slice none 0 0, .slice none 0 0] 26)).heap.size (w.alloc (.cells #[.slice none 0 0, .slice none 0 0] 26)) w1 := by rw [hsA]; exact hb1
  have hs1 : w.heap.size + 1 < w1.heap.size := hd1.lt
  have HR1 := Lib.hid (row_below (heap_alloc_new w (.cells #[.slice none 0 0, .slice none 0 0] 26)) hb1')
  have HB1 := Lib.hid (hA.trans (hb1.mono (by omega)))
  have HD1 := Lib.hid hd1
  clear hb1 hb1' hd1 hA hsA
  go_wp2_with fail
  refine (l1Draw_any (w.heap.size + 1) 0 _ HD1.out (by omega)).mono ?_
  rintro e wd ⟨vt0, vb0, ts0, l0, p0, rfl, hit0, hst0, hts0, hsz0, hp0, hd0, hg0⟩
  have hs0 := hg0.size
  have HD0 := Lib.hid hd0
  have HG0 := Lib.hid hg0
  have HIT0 := Lib.hid hit0
  have HST0 := Lib.hid hst0
  clear hit0 hst0 hd0 hg0
  go_wp2_with fail
  refine (mutate_any (w.heap.size + 1) p0 _ _ ts0 l0 _ _ HIT0.out.toS HST0.out.toS (Nat.le_refl _) hts0 hsz0 HD0.out (by omega)).mono ?_
  rintro e w2 ⟨vt, vb, ts, l, p2, rfl, hit', hst', hts, hsz, hp2, hd2, hg2'⟩
  have hg2 := grown_tr HG0.out hg2'
  have hs2 := hg2.size
  have hit := hit'.frame (P' := fun b => w1.heap.size ≤ b ∧ b < w2.heap.size) (Nat.le_refl _) fun b hb hl => ⟨⟨by have hb' : wd.heap.size ≤ b := hb; omega, hl⟩, rfl⟩
  have hst := hst'.frame (P' := fun b => w1.heap.size ≤ b ∧ b < w2.heap.size) (Nat.le_refl _) fun b hb hl => ⟨⟨by have hb' : wd.heap.size ≤ b := hb; omega, hl⟩, rfl⟩
  obtain ⟨At, ct, rfl, -⟩ := hit.slice
  obtain ⟨Ab, cb, rfl, -⟩ := hst.slice
  clear hit' hst' hg2'
  have hA2 := bel_a w2 (.cells #[.slice At ts.length ct, .slice Ab l.length cb] 26)
  have hA3 := bel_a (w2.alloc (.cells #[.slice At ts.length ct, .slice Ab l.length cb] 26)) (.cells #[] 23)
  have hsa : (w2.alloc (.cells #[.slice At ts.length ct, .slice Ab l.length cb] 26)).heap.size = w2.heap.size + 1 := by simp
  have hA23 := hA2.trans (hA3.mono (by omega))
  have hrw0 := RwO.empty (w2.alloc (.cells #[.slice At ts.length ct, .slice Ab l.length cb] 26)) (w2.heap.size + 1) (by omega)
  rw [hsa] at hrw0
  have HRW0 := Lib.hid hrw0
  have HRP := Lib.hid (row_below (heap_alloc_new w2 (.cells #[.slice At ts.length ct, .slice Ab l.length cb] 26)) hA3)
  have HRR := Lib.hid (row_below (row_grown HR1.out hg2 (by omega)) hA23)
  have HD3 := Lib.hid (hd2.low hA23 (by omega))
  have HB3 := Lib.hid ((grown_new HB1.out (by omega) hg2).trans (hA23.mono (by omega)))
  have HIT := Lib.hid (hit.frame (P' := fun b => w1.heap.size ≤ b ∧ b < w2.heap.size) hA23.size fun b hb hl => ⟨hb, hA23.block b hl⟩)
  have HST := Lib.hid (hst.frame (P' := fun b => w1.heap.size ≤ b ∧ b < w2.heap.size) hA23.size fun b hb hl => ⟨hb, hA23.block b hl⟩)
  have HT := Lib.hid ((hit.toS.low hA23 (Nat.le_refl _)).more (B' := w2.heap.size + 1) (by omega))
  have HL := Lib.hid ((hst.toS.low hA23 (Nat.le_refl _)).more (B' := w2.heap.size + 1) (by omega))
  have hs3 : w2.heap.size + 2 ≤ ((w2.alloc (.cells #[.slice At ts.length ct, .slice Ab l.length cb] 26)).alloc (.cells #[] 23)).heap.size := by simp
  clear hit hst hd2 hg2 hA2 hA3 hA23 hsa hrw0
  go_wp2_with (at_builtin; fail)
  generalize (w2.alloc (.cells #[.slice At ts.length ct, .slice Ab l.length cb] 26)).alloc (.cells #[] 23) = w3 at *
  go_loopw [6, 7] (fun v i wr => ∃ (k : Nat) (vs : List Value), k ≤ ts.length ∧ i = .int .i64 k ∧ RwO wr (w2.heap.size + 1) v vs (rgL ts l k) ∧ Below (w2.heap.size + 1) w3 wr) (fun _ i _ => ts.length - (intOf i).toNat)
  case atStart => exact ⟨0, [], Nat.zero_le _, rfl, HRW0.out, Below.refl _ _⟩
  case round =>
    obtain ⟨k, vs, hk, rfl, hrw, hbw⟩ := hrel
    have HRW := Lib.hid hrw
    have HBW := Lib.hid hbw
    have hsr := hbw.size
    have HRPW := Lib.hid (HRP.out |> fun h => (hbw.block w2.heap.size (by omega)).trans h)
    have c0 : wr.cell? ⟨w2.heap.size, 0, none⟩ = some (.slice At ts.length ct) := (cell_of_row _ _ _ _ _ _ HRPW.out).trans rfl
    have c1 : wr.cell? ⟨w2.heap.size, 1, none⟩ = some (.slice Ab l.length cb) := (cell_of_row _ _ _ _ _ _ HRPW.out).trans rfl
    obtain ⟨A4, c4, rfl, hc4⟩ := hrw.slice
    clear hrw hbw
    by_cases hlt : k < ts.length
    · have HSU := Lib.hid (rgL_succ ts l k)
      have hrl : (rgL ts l k).length ≤ 700 := by rw [rgL_len]; omega
      have HLO : Hid (∀ i, i < (rgL ts l k).length → ∀ g, (vs.getD i (.slice none 0 0)).ownBlock = some g → g < wr.heap.size) := Lib.hid fun i hi g e => (World.ownsRow.lt (HRW.out.row i hi) g e).2
      have HC := Lib.hid (sRegionOf_any _ _ ts l ((k : Nat) : Int) (w2.heap.size + 1) wr (HT.out.low HBW.out (Nat.le_refl _)) (HL.out.low HBW.out (Nat.le_refl _)) (by omega) (by omega))
      generalize rgL ts l k = rs at *
      go_wp2_with (at_builtin; fail)
      refine HC.out.mono ?_
      rintro e w5 ⟨u, rfl, hu, hb5⟩
      have HU := Lib.hid hu
      have HRW5 := Lib.hid (HRW.out.bel hb5)
      have hs5 := hb5.size
      have HB5 := Lib.hid (HBW.out.trans (hb5.mono (by omega)))
      obtain ⟨Au, cu, rfl, -⟩ := hu.slice
      clear hu hb5 c0 c1
      go_wp2_with (at_builtin; go_must (refine wpList_push_rwo rfl (.tmp 23) (.tmp 27) rfl HRW5.out HLO.out HU.out (by omega) (by omega) (by omega) rfl rfl ?_); intro v' w' hP' hE')
      exact ⟨⟨k + 1, _, by omega, by go_num, by rw [HSU.out]; exact hP', HB5.out.trans hE'⟩, by simp [intOf] <;> omega⟩
    · have hkt : k = ts.length := by omega
      have HLEN : Hid ((rgL ts l k).length = ts.length) := Lib.hid (by rw [rgL_len, hkt])
      have HRL : Hid (∀ i, i < (rgL ts l k).length → ((rgL ts l k).getD i []).length ≤ 61) := Lib.hid fun i hi => by
        rw [rgL_get (by rwa [rgL_len] at hi)]; exact regRes_len _ _ _
      have HKW : Hid (Onl (fun b => b = w.heap.size + 1 ∨ w2.heap.size + 1 ≤ b) w3 wr) := Lib.hid (Onl.ofB HBW.out fun k hk => .inr hk)
      have HDW : Hid (Dr wr (w.heap.size + 1) p2) := Lib.hid (HD3.out.low HBW.out (by omega))
      have hltf : decide ((k : Int) < (ts.length : Int)) = false := by simp; omega
      clear hkt HRW0 HRPW
      generalize rgL ts l k = rs at *
      have hrl1 : rs.length ≤ ts.length := by have := HLEN.out; omega
      have hrl2 : ts.length ≤ rs.length := by have := HLEN.out; omega
      by_cases h0 : ts.length = 0
      · obtain rfl : rs = [] := List.length_eq_zero_iff.1 (by omega)
        simp only [List.length_nil] at hc4 ⊢
        have HX := Lib.hid (HRW.out.toX (fun i hi => by omega) (by omega))
        have HRS : Hid (([] : List (List Int)).length ≤ 700 ∧ ∀ i, i < ([] : List (List Int)).length → (([] : List (List Int)).getD i []).length ≤ 100) := Lib.hid ⟨by simp, fun i hi => by simp at hi⟩
        have HKF := HKW
        clear h0 HKW
        have hrf := (HKF.out.block w.heap.size (by omega) (by omega)).trans HRR.out
        have hpf := (HKF.out.block w2.heap.size (by omega) (by omega)).trans HRP.out
        have HRF := Lib.hid hrf
        have q0 : wr.cell? ⟨w2.heap.size, 0, none⟩ = some (.slice At ts.length ct) := (cell_of_row _ _ _ _ _ _ hpf).trans rfl
        have q1 : wr.cell? ⟨w2.heap.size, 1, none⟩ = some (.slice Ab l.length cb) := (cell_of_row _ _ _ _ _ _ hpf).trans rfl
        have z0 : wr.cell? ⟨w.heap.size, 0, none⟩ = some (.slice none 0 0) := (cell_of_row _ _ _ _ _ _ hrf).trans rfl
        have z1 : wr.cell? ⟨w.heap.size, 1, none⟩ = some (.slice none 0 0) := (cell_of_row _ _ _ _ _ _ hrf).trans rfl
        have zf0 := frozen_of_row wr w.heap.size 0 _ _ hrf
        have zf1 := frozen_of_row wr w.heap.size 1 _ _ hrf
        have HBF := Lib.hid (HB3.out.trans (HKF.out.below (by omega) fun k hk => by omega))
        have HITF := Lib.hid (HIT.out.frame (P' := fun b => w.heap.size + 1 ≤ b) HKF.out.size fun b hb hl => ⟨by have := hb.1; omega, HKF.out.block b hl (by have := hb.1; have := hb.2; omega)⟩)
        have HSTF := Lib.hid (HST.out.frame (P' := fun b => w.heap.size + 1 ≤ b) HKF.out.size fun b hb hl => ⟨by have := hb.1; omega, HKF.out.block b hl (by have := hb.1; have := hb.2; omega)⟩)
        have HXF := Lib.hid (IRx.frame (P' := fun b => w.heap.size + 1 ≤ b) HX.out (Nat.le_refl _) fun b hb _ => ⟨by have hb' : w2.heap.size + 1 ≤ b := hb; show w.heap.size + 1 ≤ b; omega, rfl⟩)
        have hw02 : w.heap.size < w2.heap.size := by omega
        clear hrf hpf
        go_wp2_with (at_builtin; fail)
        refine bodyPost_ret (res_box (u := 3) rfl _ _ w.heap.size 26 _ (0, 0) _ rfl (box2 HRF.out _ _).1 Try.underlying26 rfl rfl) rfl ?_
        exact db_close HBF.out (box2 HRF.out _ _).2 HITF.out HSTF.out HXF.out hts hsz HRS.out.1 HRS.out.2
      · have hz : decide ((rs.length : Int) > 0) = true := decide_eq_true (by omega)
        have hrp : 0 < rs.length := by omega
        clear h0
        go_upto_region 9 with (at_builtin; fail)
        clear c0 c1 hltf
        go_upto_region 10 with (go_at_call 56; refine (pick_any (w.heap.size + 1) p2 _ wr HDW.out (by omega) (by omega) (by omega)).mono ?_; rintro e w4 ⟨k1, rfl, hk0, hk1, hd4, hg4⟩)
        obtain ⟨k, rfl⟩ : ∃ k : Nat, k1 = k := ⟨k1.toNat, by omega⟩
        have hkl : k < rs.length := by have := hk1 (by omega); omega
        have HD4 := Lib.hid hd4
        have HRW4 := Lib.hid (HRW.out.grown hg4 (by omega))
        have HK4 := Lib.hid (HKW.out.trans (Onl.grown hg4 (.inl rfl)))
        clear hk0 hk1 hd4 hg4 HRW HKW HDW
        go_upto_region 11 with (go_at_call 56; refine (pick_any (w.heap.size + 1) (p2 + 1) _ w4 HD4.out (by omega) (by omega) (by omega)).mono ?_; rintro e w5 ⟨q, rfl, hq0, hq1, hd5, hg5⟩)
        have HD5 := Lib.hid hd5
        have hrw5 := HRW4.out.grown hg5 (by omega)
        have HRW5 := Lib.hid hrw5
        have HK5 := Lib.hid (HK4.out.trans (Onl.grown hg5 (.inl rfl)))
        have hs5 := HK5.out.size
        obtain ⟨gg, gc, eg, hgc, hgb, hgl, hcell, hfro, hgrow⟩ := hrw5.form hrp
        injection eg with eg1 eg9 eg2
        subst eg1
        subst eg2
        have hgne : gg ≠ w.heap.size + 1 := by omega
        clear eg9 hq0 hq1 hd5 hg5 HRW4 HK4 HD4 hrw5
        by_cases hqa : q = 0
        · subst hqa
          have dk := fun o => ((bel_a w5 o).cell (p := ⟨gg, k, none⟩) hgl).trans (hcell k hkl)
          have fk := fun o => ((bel_a w5 o).frozen (p := ⟨gg, k, none⟩) hgl).trans (hfro k)
          have HX := Lib.hid (RwO.store (w' := w5.alloc (.cells #[] 3)) (u := .slice (some ⟨w5.heap.size, 0, none⟩) 0 0) (l := []) HRW5.out hkl (grown_bel (bel_a w5 _) (Nat.le_refl _) _) ((OInts.empty w5 w5.heap.size (Nat.le_refl _)).base (by omega)) (by simp) (fun i hi => by have := HRL.out i hi; omega) (by omega))
          have HKF : Hid (Onl (fun b => b = w.heap.size + 1 ∨ w2.heap.size + 1 ≤ b) w3 ((w5.alloc (.cells #[] 3)).setCell ⟨gg, k, none⟩ (.slice (some ⟨w5.heap.size, 0, none⟩) 0 0))) := Lib.hid ((HK5.out.trans (Onl.bel (bel_a w5 _))).trans (Onl.set _ (.inr hgb) _ _))
          have HRS : Hid ((rs.set k []).length ≤ 700 ∧ ∀ i, i < (rs.set k []).length → ((rs.set k []).getD i []).length ≤ 100) := Lib.hid ⟨by rw [List.length_set]; omega, fun i hi => by
            rw [getD_setL hkl]; split
            · simp
            · have := HRL.out i (by rw [List.length_set] at hi; exact hi); omega⟩
          clear hcell hfro hgrow HRW5 HK5 HD5
          go_upto_region 17 with (at_builtin; fail)
          rw [World.setCell_alloc_past _ _ _ _ hgl] at HX HKF
          generalize (w5.setCell ⟨gg, k, none⟩ (.slice (some ⟨w5.heap.size, 0, none⟩) 0 0)).alloc (.cells #[] 3) = wf at *
          generalize hrsx : rs.set k [] = rsx at *
          clear dk fk hrsx
          have hrf := (HKF.out.block w.heap.size (by omega) (by omega)).trans HRR.out
          have hpf := (HKF.out.block w2.heap.size (by omega) (by omega)).trans HRP.out
          have HRF := Lib.hid hrf
          have q0 : wf.cell? ⟨w2.heap.size, 0, none⟩ = some (.slice At ts.length ct) := (cell_of_row _ _ _ _ _ _ hpf).trans rfl
          have q1 : wf.cell? ⟨w2.heap.size, 1, none⟩ = some (.slice Ab l.length cb) := (cell_of_row _ _ _ _ _ _ hpf).trans rfl
          have z0 : wf.cell? ⟨w.heap.size, 0, none⟩ = some (.slice none 0 0) := (cell_of_row _ _ _ _ _ _ hrf).trans rfl
          have z1 : wf.cell? ⟨w.heap.size, 1, none⟩ = some (.slice none 0 0) := (cell_of_row _ _ _ _ _ _ hrf).trans rfl
          have zf0 := frozen_of_row wf w.heap.size 0 _ _ hrf
          have zf1 := frozen_of_row wf w.heap.size 1 _ _ hrf
          have HBF := Lib.hid (HB3.out.trans (HKF.out.below (by omega) fun k hk => by omega))
          have HITF := Lib.hid (HIT.out.frame (P' := fun b => w.heap.size + 1 ≤ b) HKF.out.size fun b hb hl => ⟨by have := hb.1; omega, HKF.out.block b hl (by have := hb.1; have := hb.2; omega)⟩)
          have HSTF := Lib.hid (HST.out.frame (P' := fun b => w.heap.size + 1 ≤ b) HKF.out.size fun b hb hl => ⟨by have := hb.1; omega, HKF.out.block b hl (by have := hb.1; have := hb.2; omega)⟩)
          have HXF := Lib.hid (IRx.frame (P' := fun b => w.heap.size + 1 ≤ b) HX.out (Nat.le_refl _) fun b hb _ => ⟨by have hb' : w2.heap.size + 1 ≤ b := hb; show w.heap.size + 1 ≤ b; omega, rfl⟩)
          have hw02 : w.heap.size < w2.heap.size := by omega
          clear hrf hpf
          go_wp2_with (at_builtin; fail)
          refine bodyPost_ret (res_box (u := 3) rfl _ _ w.heap.size 26 _ (0, 0) _ rfl (box2 HRF.out _ _).1 Try.underlying26 rfl rfl) rfl ?_
          exact db_close HBF.out (box2 HRF.out _ _).2 HITF.out HSTF.out HXF.out hts hsz HRS.out.1 HRS.out.2
        · have hqa1 : (q == 0) = false := by simpa using hqa
          by_cases hqb : q = 1
          · subst hqb
            clear hqa hqa1
            have hrowk := HRW5.out.row k hkl
            obtain ⟨Ak, ck, ek, -⟩ := hrowk.slice
            obtain ⟨cs5, hg5⟩ := hgrow
            have hkk := hcell k hkl
            rw [ek] at hkk
            have hlk : (rs.getD k []).length ≤ 61 := HRL.out k hkl
            obtain ⟨R, hR⟩ : ∃ R, R = rs.getD k [] := ⟨_, rfl⟩
            rw [← hR] at hkk hlk ek
            have HRR2 := Lib.hid hR
            clear hR
            have hgd := (Below.refl w5.heap.size w5).drew
            have CN : Calls Try.prog 56 #[.pointer (some ⟨w.heap.size + 1, 0, none⟩), .int .i64 6] w5.drew (fun e w' => ∃ k : Int, e = .returned (.int .i64 k) ∧ 0 ≤ k ∧ ((1 : Int) ≤ 6 → k < 6) ∧ Dr w' (w.heap.size + 1) (p2 + 1 + 1 + 1) ∧ w5.drew.grownBy w' (some (w.heap.size + 1))) := pick_any (w.heap.size + 1) (p2 + 1 + 1) 6 w5.drew (HD5.out.low hgd (by omega)) (by omega) (by omega) (by omega)
            have HCN := Lib.hid CN
            have HG5 := Lib.hid hg5
            have HEK := Lib.hid ek
            have HGD := Lib.hid hgd
            have hfk := hfro k
            have tok1 : True := trivial
            clear CN hg5 hrowk ek hgd hcell hfro
            go_upto_region 14 with (at_builtin; fail)
            go_region_law (first
              | ((have _t := tok1); clear tok1 _t; (refine step_app_ints (by rfl) (.tmp 51) (.tmp 54) (by rfl) (w2.heap.size + 1) (.slice Ak (R).length ck) (R) (by simp [Act.eval]) HOI6.out (w6.heap.size + 1) (.slice (some ⟨w6.heap.size, 0, none⟩) 1 1) [x] (by simp [Act.eval]) HIS6.out (by simp; omega) (by simp; omega) ?_); intro v' w7 hoi7 hg7 hor7; (obtain ⟨R1, hR1⟩ : ∃ R1, R1 = R ++ [x] := ⟨_, rfl⟩); (rw [← hR1] at hoi7); (have hl1 : R1.length ≤ 62 := by (rw [hR1]; simp; omega)); clear hR1; (have HX7 := Lib.hid (fun h1 h2 h3 => RwO.store (u := v') (l := R1) HRW6.out hkl (by rw [HEK.out]; exact hg7) hoi7 h1 h2 h3)); (have hr7 := row_app_other HGR6.out HOI6.out hg7 (by decide)); (have HR7 := Lib.hid hr7); (have HK7 := Lib.hid (HK6.out.trans (⟨hg7.os, hg7.tape, hg7.output, hg7.size, fun k hk hn => hg7.block k hk (fun e => hn (.inr (HOI6.out.own_lt e.symm).1))⟩ : Onl (fun b => b = w.heap.size + 1 ∨ w2.heap.size + 1 ≤ b) _ w7))); (have d7 : w7.cell? ⟨gg, k, none⟩ = some (.slice Ak (R).length ck) := (World.cell?_of_block (w := w6.alloc (.cells #[.int .i64 x] 3)) (a := ⟨gg, k, none⟩) (by (rw [HR7.out, HGR6.out]))).trans d6a); (have f7 := frozen_of_row w7 gg k _ _ HR7.out); (obtain ⟨A7, c7, rfl, -⟩ := hoi7.slice); clear hoi7 hg7 hor7 hr7)
              | (go_simp; go_at_call 56; (with_reducible refine HCN.out.mono ?_); (rintro e w6 ⟨x, rfl, -, -, hd6, hg6⟩); (have HRW6 := Lib.hid (((HRW5.out.bel HGD.out).grown hg6 (by omega)).bel (bel_a w6 (.cells #[.int .i64 x] 3)))); (have HK6 := Lib.hid (((HK5.out.trans (Onl.bel HGD.out)).trans (Onl.grown hg6 (.inl rfl))).trans (Onl.bel (bel_a w6 (.cells #[.int .i64 x] 3))))); (have hg6b := row_grown (row_below HG5.out HGD.out) hg6 hgne); (have HGR6 := Lib.hid (row_below hg6b (bel_a w6 (.cells #[.int .i64 x] 3)))); (have hs6 : w5.heap.size ≤ w6.heap.size := by (have := hg6.size; simpa using this)); (have d6 : w6.cell? ⟨gg, k, none⟩ = some (.slice Ak (R).length ck) := (World.cell?_of_block (w := w5) (a := ⟨gg, k, none⟩) (by (rw [hg6b, HG5.out]))).trans hkk); (have d6a := ((bel_a w6 (.cells #[.int .i64 x] 3)).cell (p := ⟨gg, k, none⟩) (by (show gg < _; omega))).trans d6); (have HOI6 : Hid (OInts (w6.alloc (.cells #[.int .i64 x] 3)) (w2.heap.size + 1) (.slice Ak (R).length ck) (R)) := Lib.hid (by (have h := HRW6.out.row k hkl; rw [HEK.out, ← HRR2.out] at h; exact h))); (have HIS6 := Lib.hid (ints_one w6 x)); clear hd6 hg6 hg6b)
              | fail)
            all_goals
              have HX := Lib.hid (HX7.out (by omega) (fun i hi => by have := HRL.out i hi; omega) (by omega))
              have HKF : Hid (Onl (fun b => b = w.heap.size + 1 ∨ w2.heap.size + 1 ≤ b) w3 (w7.setCell ⟨gg, k, none⟩ (.slice A7 R1.length c7))) := Lib.hid (HK7.out.trans (Onl.set _ (.inr hgb) _ _))
              have HRS : Hid ((rs.set k (R1)).length ≤ 700 ∧ ∀ i, i < (rs.set k (R1)).length → ((rs.set k (R1)).getD i []).length ≤ 100) := Lib.hid ⟨by rw [List.length_set]; omega, fun i hi => by
                rw [getD_setL hkl]; split
                · omega
                · have := HRL.out i (by rw [List.length_set] at hi; exact hi); omega⟩
              clear d6 d6a d7 f7 hkk hfk
              generalize w7.setCell ⟨gg, k, none⟩ (.slice A7 R1.length c7) = wf at *
              generalize hrsx : rs.set k (R1) = rsx at *
              clear hrsx
              have hrf := (HKF.out.block w.heap.size (by omega) (by omega)).trans HRR.out
              have hpf := (HKF.out.block w2.heap.size (by omega) (by omega)).trans HRP.out
              have HRF := Lib.hid hrf
              have q0 : wf.cell? ⟨w2.heap.size, 0, none⟩ = some (.slice At ts.length ct) := (cell_of_row _ _ _ _ _ _ hpf).trans rfl
              have q1 : wf.cell? ⟨w2.heap.size, 1, none⟩ = some (.slice Ab l.length cb) := (cell_of_row _ _ _ _ _ _ hpf).trans rfl
              have z0 : wf.cell? ⟨w.heap.size, 0, none⟩ = some (.slice none 0 0) := (cell_of_row _ _ _ _ _ _ hrf).trans rfl
              have z1 : wf.cell? ⟨w.heap.size, 1, none⟩ = some (.slice none 0 0) := (cell_of_row _ _ _ _ _ _ hrf).trans rfl
              have zf0 := frozen_of_row wf w.heap.size 0 _ _ hrf
              have zf1 := frozen_of_row wf w.heap.size 1 _ _ hrf
              have HBF := Lib.hid (HB3.out.trans (HKF.out.below (by omega) fun k hk => by omega))
              have HITF := Lib.hid (HIT.out.frame (P' := fun b => w.heap.size + 1 ≤ b) HKF.out.size fun b hb hl => ⟨by have := hb.1; omega, HKF.out.block b hl (by have := hb.1; have := hb.2; omega)⟩)
              have HSTF := Lib.hid (HST.out.frame (P' := fun b => w.heap.size + 1 ≤ b) HKF.out.size fun b hb hl => ⟨by have := hb.1; omega, HKF.out.block b hl (by have := hb.1; have := hb.2; omega)⟩)
              have HXF := Lib.hid (IRx.frame (P' := fun b => w.heap.size + 1 ≤ b) HX.out (Nat.le_refl _) fun b hb _ => ⟨by have hb' : w2.heap.size + 1 ≤ b := hb; show w.heap.size + 1 ≤ b; omega, rfl⟩)
              have hw02 : w.heap.size < w2.heap.size := by omega
              clear hrf hpf
              go_wp2_with (at_builtin; fail)
              refine bodyPost_ret (res_box (u := 3) rfl _ _ w.heap.size 26 _ (0, 0) _ rfl (box2 HRF.out _ _).1 Try.underlying26 rfl rfl) rfl ?_
              exact db_close HBF.out (box2 HRF.out _ _).2 HITF.out HSTF.out HXF.out hts hsz HRS.out.1 HRS.out.2
          · have hqb1 : (q == 1) = false := by simpa using hqb
            by_cases hqc : q = 2
            · subst hqc
              clear hqa hqa1 hqb hqb1
              have hx := HRW5.out.toX (fun i hi => by have := HRL.out i hi; omega) (by omega)
              have HKF := HK5
              cases rs with
              | nil => simp at hrp
              | cons r rs =>
                have HRS : Hid (rs.length ≤ 700 ∧ ∀ i, i < rs.length → (rs.getD i []).length ≤ 100) := Lib.hid ⟨by simp at hrl1; omega, fun i hi => by
                  have := HRL.out (i + 1) (by simpa using hi)
                  simp only [List.getD_cons_succ] at this; omega⟩
                have hgc' : rs.length + 1 ≤ c4 := by simpa using hgc
                simp only [List.length_cons] at *
                obtain ⟨gc', rfl⟩ : ∃ gc', c4 = gc' + 1 := ⟨c4 - 1, by omega⟩
                rcases Nat.eq_zero_or_pos gc' with hg0 | hg0
                · subst hg0
                  have HX : Hid (IRx w5 (fun b => w2.heap.size + 1 ≤ b) (.slice (some ⟨gg, 0, none⟩) 0 0) rs) := Lib.hid (by
                    have h := hx.tail 0 0 (.inr (by omega)) (by omega)
                    rwa [show rs.length = 0 by omega] at h)
                  clear hcell hfro hgrow HRW5 HK5 HD5 hx
                  go_upto_region 17 with (at_builtin; fail)
                  have hrf := (HKF.out.block w.heap.size (by omega) (by omega)).trans HRR.out
                  have hpf := (HKF.out.block w2.heap.size (by omega) (by omega)).trans HRP.out
                  have HRF := Lib.hid hrf
                  have q0 : w5.cell? ⟨w2.heap.size, 0, none⟩ = some (.slice At ts.length ct) := (cell_of_row _ _ _ _ _ _ hpf).trans rfl
                  have q1 : w5.cell? ⟨w2.heap.size, 1, none⟩ = some (.slice Ab l.length cb) := (cell_of_row _ _ _ _ _ _ hpf).trans rfl
                  have z0 : w5.cell? ⟨w.heap.size, 0, none⟩ = some (.slice none 0 0) := (cell_of_row _ _ _ _ _ _ hrf).trans rfl
                  have z1 : w5.cell? ⟨w.heap.size, 1, none⟩ = some (.slice none 0 0) := (cell_of_row _ _ _ _ _ _ hrf).trans rfl
                  have zf0 := frozen_of_row w5 w.heap.size 0 _ _ hrf
                  have zf1 := frozen_of_row w5 w.heap.size 1 _ _ hrf
                  have HBF := Lib.hid (HB3.out.trans (HKF.out.below (by omega) fun k hk => by omega))
                  have HITF := Lib.hid (HIT.out.frame (P' := fun b => w.heap.size + 1 ≤ b) HKF.out.size fun b hb hl => ⟨by have := hb.1; omega, HKF.out.block b hl (by have := hb.1; have := hb.2; omega)⟩)
                  have HSTF := Lib.hid (HST.out.frame (P' := fun b => w.heap.size + 1 ≤ b) HKF.out.size fun b hb hl => ⟨by have := hb.1; omega, HKF.out.block b hl (by have := hb.1; have := hb.2; omega)⟩)
                  have HXF := Lib.hid (IRx.frame (P' := fun b => w.heap.size + 1 ≤ b) HX.out (Nat.le_refl _) fun b hb _ => ⟨by have hb' : w2.heap.size + 1 ≤ b := hb; show w.heap.size + 1 ≤ b; omega, rfl⟩)
                  have hw02 : w.heap.size < w2.heap.size := by omega
                  clear hrf hpf
                  go_wp2_with (at_builtin; fail)
                  refine bodyPost_ret (res_box (u := 3) rfl _ _ w.heap.size 26 _ (0, 0) _ rfl (box2 HRF.out _ _).1 Try.underlying26 rfl rfl) rfl ?_
                  exact db_close HBF.out (box2 HRF.out _ _).2 HITF.out HSTF.out HXF.out hts hsz HRS.out.1 HRS.out.2
                · have HX : Hid (IRx w5 (fun b => w2.heap.size + 1 ≤ b) (.slice (some ⟨gg, 1, none⟩) rs.length gc') rs) := Lib.hid (hx.tail 1 gc' (.inl rfl) (by omega))
                  clear hcell hfro hgrow HRW5 HK5 HD5 hx
                  go_upto_region 17 with (at_builtin; fail)
                  have hrf := (HKF.out.block w.heap.size (by omega) (by omega)).trans HRR.out
                  have hpf := (HKF.out.block w2.heap.size (by omega) (by omega)).trans HRP.out
                  have HRF := Lib.hid hrf
                  have q0 : w5.cell? ⟨w2.heap.size, 0, none⟩ = some (.slice At ts.length ct) := (cell_of_row _ _ _ _ _ _ hpf).trans rfl
                  have q1 : w5.cell? ⟨w2.heap.size, 1, none⟩ = some (.slice Ab l.length cb) := (cell_of_row _ _ _ _ _ _ hpf).trans rfl
                  have z0 : w5.cell? ⟨w.heap.size, 0, none⟩ = some (.slice none 0 0) := (cell_of_row _ _ _ _ _ _ hrf).trans rfl
                  have z1 : w5.cell? ⟨w.heap.size, 1, none⟩ = some (.slice none 0 0) := (cell_of_row _ _ _ _ _ _ hrf).trans rfl
                  have zf0 := frozen_of_row w5 w.heap.size 0 _ _ hrf
                  have zf1 := frozen_of_row w5 w.heap.size 1 _ _ hrf
                  have HBF := Lib.hid (HB3.out.trans (HKF.out.below (by omega) fun k hk => by omega))
                  have HITF := Lib.hid (HIT.out.frame (P' := fun b => w.heap.size + 1 ≤ b) HKF.out.size fun b hb hl => ⟨by have := hb.1; omega, HKF.out.block b hl (by have := hb.1; have := hb.2; omega)⟩)
                  have HSTF := Lib.hid (HST.out.frame (P' := fun b => w.heap.size + 1 ≤ b) HKF.out.size fun b hb hl => ⟨by have := hb.1; omega, HKF.out.block b hl (by have := hb.1; have := hb.2; omega)⟩)
                  have HXF := Lib.hid (IRx.frame (P' := fun b => w.heap.size + 1 ≤ b) HX.out (Nat.le_refl _) fun b hb _ => ⟨by have hb' : w2.heap.size + 1 ≤ b := hb; show w.heap.size + 1 ≤ b; omega, rfl⟩)
                  have hw02 : w.heap.size < w2.heap.size := by omega
                  clear hrf hpf
                  go_wp2_with (at_builtin; fail)
                  refine bodyPost_ret (res_box (u := 3) rfl _ _ w.heap.size 26 _ (0, 0) _ rfl (box2 HRF.out _ _).1 Try.underlying26 rfl rfl) rfl ?_
                  exact db_close HBF.out (box2 HRF.out _ _).2 HITF.out HSTF.out HXF.out hts hsz HRS.out.1 HRS.out.2
            · have hqc1 : (q == 2) = false := by simpa using hqc
              have HX := Lib.hid (HRW5.out.toX (fun i hi => by have := HRL.out i hi; omega) (by omega))
              have HKF := HK5
              have HRS : Hid (rs.length ≤ 700 ∧ ∀ i, i < rs.length → (rs.getD i []).length ≤ 100) := Lib.hid ⟨by omega, fun i hi => by have := HRL.out i hi; omega⟩
              clear hcell hfro hgrow HRW5 HK5 HD5 hqa hqb hqc
              go_upto_region 17 with (at_builtin; fail)
              have hrf := (HKF.out.block w.heap.size (by omega) (by omega)).trans HRR.out
              have hpf := (HKF.out.block w2.heap.size (by omega) (by omega)).trans HRP.out
              have HRF := Lib.hid hrf
              have q0 : w5.cell? ⟨w2.heap.size, 0, none⟩ = some (.slice At ts.length ct) := (cell_of_row _ _ _ _ _ _ hpf).trans rfl
              have q1 : w5.cell? ⟨w2.heap.size, 1, none⟩ = some (.slice Ab l.length cb) := (cell_of_row _ _ _ _ _ _ hpf).trans rfl
              have z0 : w5.cell? ⟨w.heap.size, 0, none⟩ = some (.slice none 0 0) := (cell_of_row _ _ _ _ _ _ hrf).trans rfl
              have z1 : w5.cell? ⟨w.heap.size, 1, none⟩ = some (.slice none 0 0) := (cell_of_row _ _ _ _ _ _ hrf).trans rfl
              have zf0 := frozen_of_row w5 w.heap.size 0 _ _ hrf
              have zf1 := frozen_of_row w5 w.heap.size 1 _ _ hrf
              have HBF := Lib.hid (HB3.out.trans (HKF.out.below (by omega) fun k hk => by omega))
              have HITF := Lib.hid (HIT.out.frame (P' := fun b => w.heap.size + 1 ≤ b) HKF.out.size fun b hb hl => ⟨by have := hb.1; omega, HKF.out.block b hl (by have := hb.1; have := hb.2; omega)⟩)
              have HSTF := Lib.hid (HST.out.frame (P' := fun b => w.heap.size + 1 ≤ b) HKF.out.size fun b hb hl => ⟨by have := hb.1; omega, HKF.out.block b hl (by have := hb.1; have := hb.2; omega)⟩)
              have HXF := Lib.hid (IRx.frame (P' := fun b => w.heap.size + 1 ≤ b) HX.out (Nat.le_refl _) fun b hb _ => ⟨by have hb' : w2.heap.size + 1 ≤ b := hb; show w.heap.size + 1 ≤ b; omega, rfl⟩)
              have hw02 : w.heap.size < w2.heap.size := by omega
              clear hrf hpf
              go_wp2_with (at_builtin; fail)
              refine bodyPost_ret (res_box (u := 3) rfl _ _ w.heap.size 26 _ (0, 0) _ rfl (box2 HRF.out _ _).1 Try.underlying26 rfl rfl) rfl ?_
              exact db_close HBF.out (box2 HRF.out _ _).2 HITF.out HSTF.out HXF.out hts hsz HRS.out.1 HRS.out.2

end Go.Proofs.Ytmaaaiccmllnlaa

/- FnBoundsHold: the plain law, the walk. -/
namespace Go.Proofs.Ytmaaaiccmllnlaa
open Go.RowKit

theorem bh_parts {ts : List Int} {l : List St} {rs : List (List Int)} (h : bhRes ts l rs = true) : validP ts l = true ∧ rs.length = ts.length ∧ bndP (bds ts (ptsP l)) rs = true := by
  unfold bhRes at h
  simp only [Bool.and_eq_true, beq_iff_eq] at h
  exact ⟨h.1.1, h.1.2, h.2⟩
theorem regRes_reg {ts : List Int} {l : List St} (hv : validP ts l = true) {v : Nat} (h : v < ts.length) : regRes ts l ((v : Nat) : Int) = regL (bds ts (ptsP l)) (ptsP l).length v := by
  unfold regRes withinP
  rw [if_pos ⟨hv, by simp; omega⟩]; rfl
theorem least_law {ts : List Int} {l : List St} (hv : validP ts l = true) : bhRes ts l (rgL ts l ts.length) = true := by
  unfold bhRes
  rw [hv, rgL_len, beq_self_eq_true, Bool.true_and, Bool.true_and]
  exact bndP_reg (bds_ok (Good.of_valid hv)) (rgL_len ts l ts.length) fun v h => by rw [rgL_get h, regRes_reg hv h]
theorem in_law {ts : List Int} {l : List St} {rs : List (List Int)} (h : bhRes ts l rs = true) {v j : Nat} (hvn : v < ts.length) (hj : j < (regRes ts l ((v : Nat) : Int)).length) : hasP (rs.getD v []) ((regRes ts l ((v : Nat) : Int)).getD j 0) = true := by
  obtain ⟨hv, hl, hb⟩ := bh_parts h
  have hm : (regRes ts l ((v : Nat) : Int)).getD j 0 ∈ regRes ts l ((v : Nat) : Int) := by rw [getD_lt hj]; exact List.getElem_mem hj
  generalize (regRes ts l ((v : Nat) : Int)).getD j 0 = y at *
  rw [regRes_reg hv hvn] at hm
  obtain ⟨e, he, hr, rfl⟩ := lst_mem.1 hm
  exact bndP_least (bds_ok (Good.of_valid hv)) hb (dec_iff.1 hr)

set_option maxHeartbeats 8000000
set_option maxRecDepth 100000
theorem fnBoundsHold_any (A : Option Addr) (n c : Nat) (w : World) (hb : Byt w w.heap.size A n) (hm : n ≤ maxLen) (hc : n ≤ c) :
    Calls Try.prog 4 #[.slice A n c] w (LawRet w) := by
  have HB := Lib.hid hb
  clear hb
  by_cases hn : n ≤ 1048576
  · go_enter Try.func4, Try.ntmps4
    go_wp2_with fail
    refine (drawBoundsHold_any A n c _ HB.out hn hc).mono ?_
    rintro e w1 ⟨vt, vb, vr, ts, l, rs, rfl, hit, hst, hir, hts, hsz, hrl, hrx, hb1⟩
    have HP1 := Lib.hid (PgB.new hit hst hb1)
    obtain ⟨At, ct, rfl, hct⟩ := hit.slice
    obtain ⟨Ab, cb, rfl, hcb⟩ := hst.slice
    have HR_0 := Lib.hid (hir.toS.bel (bel_a w1 (.cells #[.slice At ts.length ct, .slice Ab l.length cb] 26)))
    obtain ⟨Ar, cr, rfl, hcr⟩ := hir.slice
    clear hit hst hb1 hir
    go_wp2_with fail
    generalize w1.alloc (.cells #[.slice At ts.length ct, .slice Ab l.length cb] 26) = W1 at *
    obtain ⟨g, hg⟩ : ∃ g, g = w1.heap.size := ⟨_, rfl⟩
    rw [← hg] at HP1 ⊢
    clear hg
    have HR_1 := HR_0
    refine (iBoundsHold_any _ _ _ ts l _ _ _ HP1.out.ht HP1.out.hl HR_1.out (Nat.le_refl _) (by omega)).mono ?_
    rintro e w2 ⟨rfl, hb2⟩
    have HR_2 := Lib.hid (HR_1.out.bel hb2)
    have HP2 := Lib.hid (HP1.out.bels hb2)
    have c0 := HP2.out.c0
    have c1 := HP2.out.c1
    clear hb2
    go_wp2_with (at_builtin; fail)
    refine (sBoundsHold_any _ _ _ ts l _ _ _ HP2.out.ht HP2.out.hl HR_2.out (Nat.le_refl _) (by omega)).mono ?_
    rintro e w3 ⟨rfl, hb3⟩
    have HR_3 := Lib.hid (HR_2.out.bel hb3)
    have HP3 := Lib.hid (HP2.out.bels hb3)
    clear c0 c1
    have c0 := HP3.out.c0
    have c1 := HP3.out.c1
    clear hb3
    have HIN := Lib.hid (fun (v j : Nat) h hv hj => in_law (ts := ts) (l := l) (rs := rs) h (v := v) (j := j) hv hj)
    have HPT := Lib.hid (fun h => bh_parts (ts := ts) (l := l) (rs := rs) h)
    have HLE := Lib.hid (fun h => least_law (ts := ts) (l := l) h)
    obtain ⟨q, hq⟩ : ∃ q, q = bhRes ts l rs := ⟨_, rfl⟩
    rw [← hq] at HIN HPT ⊢
    have HQ := Lib.hid hq
    clear hq
    have hqq : (q != q) = false := by cases q <;> rfl
    have hqe : (q == q) = true := by cases q <;> rfl
    go_wp2_with (at_builtin; fail)
    refine (iProgramValid_any _ _ ts l _ _ HP3.out.ht HP3.out.hl (Nat.le_refl _) (by omega)).mono ?_
    rintro e w4 ⟨rfl, hb4⟩
    have HR_4 := Lib.hid (HR_3.out.bel hb4)
    have HP4 := Lib.hid (HP3.out.bels hb4)
    clear c0 c1
    have c0 := HP4.out.c0
    have c1 := HP4.out.c1
    clear hb4
    cases hv : validP ts l
    · have hqf : q = false := by
        cases q with
        | false => rfl
        | true => have := (HPT.out rfl).1; rw [hv] at this; cases this
      have HQF := Lib.hid hqf
      subst hqf
      clear hv
      go_wp2_with (at_builtin; fail)
      refine (sBoundsHold_any _ _ _ ts l _ _ _ HP4.out.ht HP4.out.hl HR_4.out (Nat.le_refl _) (by omega)).mono ?_
      rintro e w5 ⟨rfl, hb5⟩
      have HP5 := Lib.hid (HP4.out.bels hb5)
      clear hb5
      rw [← HQ.out]
      go_wp2_with (at_builtin; fail)
      go_ret
      exact ⟨rfl, HP5.out.bel⟩
    · have HV := Lib.hid hv
      clear hv
      have HE0 : Hid (RwO (w4.alloc (.cells #[] 23)) w4.heap.size (.slice (some ⟨w4.heap.size, 0, none⟩) 0 0) [] (rgL ts l 0)) := Lib.hid (RwO.empty w4 w4.heap.size (Nat.le_refl _))
      cases q
      · go_wp2_with (at_builtin; fail)
        go_loopw [6, 7] (fun v i wr => ∃ (k : Nat) (vs : List Value), k ≤ ts.length ∧ i = .int .i64 k ∧ RwO wr w4.heap.size v vs (rgL ts l k) ∧ Below w4.heap.size w4 wr) (fun _ i _ => ts.length - (intOf i).toNat)
        case atStart => exact ⟨0, [], Nat.zero_le _, rfl, HE0.out, bel_a _ _⟩
        case round =>
          obtain ⟨k, vs, hk, rfl, hO, hbw⟩ := hrel
          have HO := Lib.hid hO
          have HBW := Lib.hid hbw
          have hsw := hbw.size
          have HPW := Lib.hid (HP4.out.bels hbw)
          obtain ⟨A6, c6, rfl, hc6⟩ := hO.slice
          clear c0 c1 hbw hO
          have c0 := HPW.out.c0
          have c1 := HPW.out.c1
          have hlg := HPW.out.lt
          by_cases hlt : k < ts.length
          · have HSU := Lib.hid (rgL_succ ts l k)
            have hrl' : (rgL ts l k).length ≤ 700 := by rw [rgL_len]; omega
            have HLO : Hid (∀ i, i < (rgL ts l k).length → ∀ g, (vs.getD i (.slice none 0 0)).ownBlock = some g → g < wr.heap.size) := Lib.hid fun i hi g e => (World.ownsRow.lt (HO.out.row i hi) g e).2
            have HC := Lib.hid (iRegionOf_any _ _ ts l ((k : Nat) : Int) _ wr HPW.out.ht HPW.out.hl (Nat.le_refl _) (by omega))
            have HINK := Lib.hid (fun j => HIN.out k j)
            have hgl2 := regRes_len ts l ((k : Nat) : Int)
            generalize hlst : regRes ts l ((k : Nat) : Int) = lst1 at *
            clear hlst
            have HRK : Hid ((rgL ts l k).length = k) := Lib.hid (rgL_len ts l k)
            generalize rgL ts l k = rs6 at *
            go_wp2_with (at_builtin; fail)
            refine HC.out.mono ?_
            rintro e w5 ⟨u, rfl, hu, hb5⟩
            have HU := Lib.hid hu
            have HO5 := Lib.hid (HO.out.bel hb5)
            have HB5 := Lib.hid (HBW.out.trans (hb5.mono hsw))
            have hs5 := HB5.out.size
            obtain ⟨Au, cu, rfl, hcu⟩ := hu.slice
            clear hu hb5 c0 c1 hlg
            go_wp2_with (at_builtin; go_must (refine wpList_push_rwo rfl (.tmp 51) (.tmp 53) rfl HO5.out HLO.out HU.out (by omega) (by omega) (by omega) rfl rfl ?_); intro w6v w6 hP6 hE6)
            have HO6 := Lib.hid hP6
            have HB6 := Lib.hid (HB5.out.trans hE6)
            have hs6 := HB6.out.size
            have HI6 : Hid (IntS w6 w6.heap.size (.slice Au lst1.length cu) lst1) := Lib.hid (by
              have h := hP6.row k (by rw [List.length_append, HRK.out]; simp)
              rw [getD_snoc, getD_snoc, hP6.len |> fun e => (by rw [List.length_append, List.length_append] at e; simpa using e : vs.length = rs6.length), HRK.out, if_neg (Nat.lt_irrefl k), if_neg (Nat.lt_irrefl k), if_pos rfl, if_pos rfl] at h
              exact h.toS (by omega))
            have HR6 := Lib.hid (HR_4.out.bel HB6.out)
            obtain ⟨A7, c7, rfl, hc7⟩ := hP6.slice
            clear hP6 hE6
            have HEND : Hid (∃ vs, RwO w6 w4.heap.size (.slice A7 (rs6 ++ [lst1]).length c7) vs (rgL ts l (k + 1))) := Lib.hid ⟨_, by rw [HSU.out]; exact HO6.out⟩
            generalize (rs6 ++ [lst1]).length = n7 at *
            go_wp2_with (at_builtin; fail)
            refine wp_loop_rounds 1 ?_; rw [rounds_succ]
            by_cases hl0 : lst1.length = 0
            · have hz : decide ((0 : Int) < (lst1.length : Int)) = false := decide_eq_false (by omega)
              go_wp2_with (at_builtin; fail)
              obtain ⟨vs7, h7⟩ := HEND.out
              exact ⟨⟨k + 1, vs7, by omega, by go_num, h7, HB6.out⟩, by simp [intOf] <;> omega⟩
            · have hz : decide ((0 : Int) < (lst1.length : Int)) = true := decide_eq_true (by omega)
              go_wp2_with (at_builtin; fail)
              obtain ⟨vs7, h7⟩ := HEND.out
              exact ⟨⟨k + 1, vs7, by omega, by go_num, h7, HB6.out⟩, by simp [intOf] <;> omega⟩
          · have hkt : k = ts.length := by omega
            have HO7 : Hid (IRw wr wr.heap.size (.slice A6 (rgL ts l k).length c6) (rgL ts l ts.length)) := Lib.hid (by
              have h := HO.out.toX (fun i hi => by rw [rgL_get (by rwa [rgL_len] at hi)]; have := regRes_len ts l ((i : Nat) : Int); omega) (by rw [rgL_len]; omega)
              have h2 := h.toS
              rw [hkt] at h2 ⊢
              exact h2)
            have hkf : decide ((k : Int) < (ts.length : Int)) = false := by simp; omega
            generalize (rgL ts l k).length = n6 at *
            clear hkt HO
            go_wp2_with (at_builtin; fail)
            refine (iBoundsHold_any _ _ _ ts l _ _ _ HPW.out.ht HPW.out.hl HO7.out (Nat.le_refl _) (by omega)).mono ?_
            rintro e w8 ⟨rfl, hb8⟩
            have HP8 := Lib.hid (HPW.out.bels hb8)
            rw [HLE.out HV.out]
            clear hb8
            go_wp2_with (at_builtin; fail)
            go_ret
            exact ⟨rfl, HP8.out.bel⟩
      · go_wp2_with (at_builtin; fail)
        go_loopw [6, 7] (fun v i wr => ∃ (k : Nat) (vs : List Value), k ≤ ts.length ∧ i = .int .i64 k ∧ RwO wr w4.heap.size v vs (rgL ts l k) ∧ Below w4.heap.size w4 wr) (fun _ i _ => ts.length - (intOf i).toNat)
        case atStart => exact ⟨0, [], Nat.zero_le _, rfl, HE0.out, bel_a _ _⟩
        case round =>
          obtain ⟨k, vs, hk, rfl, hO, hbw⟩ := hrel
          have HO := Lib.hid hO
          have HBW := Lib.hid hbw
          have hsw := hbw.size
          have HPW := Lib.hid (HP4.out.bels hbw)
          obtain ⟨A6, c6, rfl, hc6⟩ := hO.slice
          clear c0 c1 hbw hO
          have c0 := HPW.out.c0
          have c1 := HPW.out.c1
          have hlg := HPW.out.lt
          by_cases hlt : k < ts.length
          · have HSU := Lib.hid (rgL_succ ts l k)
            have hrl' : (rgL ts l k).length ≤ 700 := by rw [rgL_len]; omega
            have HLO : Hid (∀ i, i < (rgL ts l k).length → ∀ g, (vs.getD i (.slice none 0 0)).ownBlock = some g → g < wr.heap.size) := Lib.hid fun i hi g e => (World.ownsRow.lt (HO.out.row i hi) g e).2
            have HC := Lib.hid (iRegionOf_any _ _ ts l ((k : Nat) : Int) _ wr HPW.out.ht HPW.out.hl (Nat.le_refl _) (by omega))
            have HINK := Lib.hid (fun j => HIN.out k j)
            have hgl2 := regRes_len ts l ((k : Nat) : Int)
            generalize hlst : regRes ts l ((k : Nat) : Int) = lst1 at *
            clear hlst
            have HRK : Hid ((rgL ts l k).length = k) := Lib.hid (rgL_len ts l k)
            generalize rgL ts l k = rs6 at *
            go_wp2_with (at_builtin; fail)
            refine HC.out.mono ?_
            rintro e w5 ⟨u, rfl, hu, hb5⟩
            have HU := Lib.hid hu
            have HO5 := Lib.hid (HO.out.bel hb5)
            have HB5 := Lib.hid (HBW.out.trans (hb5.mono hsw))
            have hs5 := HB5.out.size
            obtain ⟨Au, cu, rfl, hcu⟩ := hu.slice
            clear hu hb5 c0 c1 hlg
            go_wp2_with (at_builtin; go_must (refine wpList_push_rwo rfl (.tmp 51) (.tmp 53) rfl HO5.out HLO.out HU.out (by omega) (by omega) (by omega) rfl rfl ?_); intro w6v w6 hP6 hE6)
            have HO6 := Lib.hid hP6
            have HB6 := Lib.hid (HB5.out.trans hE6)
            have hs6 := HB6.out.size
            have HI6 : Hid (IntS w6 w6.heap.size (.slice Au lst1.length cu) lst1) := Lib.hid (by
              have h := hP6.row k (by rw [List.length_append, HRK.out]; simp)
              rw [getD_snoc, getD_snoc, hP6.len |> fun e => (by rw [List.length_append, List.length_append] at e; simpa using e : vs.length = rs6.length), HRK.out, if_neg (Nat.lt_irrefl k), if_neg (Nat.lt_irrefl k), if_pos rfl, if_pos rfl] at h
              exact h.toS (by omega))
            have HR6 := Lib.hid (HR_4.out.bel HB6.out)
            obtain ⟨A7, c7, rfl, hc7⟩ := hP6.slice
            clear hP6 hE6
            have hrs : rs.length = ts.length := (HPT.out (by first | trivial | rfl)).2.1
            have hkr : k < rs.length := by omega
            have HKR := Lib.hid hkr
            clear hrs
            have HEND : Hid (∃ vs, RwO w6 w4.heap.size (.slice A7 (rs6 ++ [lst1]).length c7) vs (rgL ts l (k + 1))) := Lib.hid ⟨_, by rw [HSU.out]; exact HO6.out⟩
            generalize (rs6 ++ [lst1]).length = n7 at *
            go_wp2_with (at_builtin; fail)
            go_loopw [9] (fun i wr => ∃ j : Nat, j ≤ lst1.length ∧ i = .int .i64 j ∧ Below w6.heap.size w6 wr) (fun i _ => lst1.length - (intOf i).toNat)
            case atStart => exact ⟨0, Nat.zero_le _, rfl, Below.refl _ _⟩
            case round =>
              obtain ⟨j, hj, rfl, hbj⟩ := hrel
              have HBJ := Lib.hid hbj
              have hsj := hbj.size
              by_cases hjl : j < lst1.length
              · obtain ⟨A8, c8, e8, -, -, hr8⟩ := HI6.out.bel hbj
                injection e8 with e8 e9 e10
                subst e8 e10
                obtain ⟨b8, o8, rfl, hb8, hcell8⟩ := hr8.int_at hjl
                have d8 := hcell8 j hjl
                obtain ⟨b9, o9, rfl, hb9, -, hrat⟩ := (HR6.out.bel hbj).at_ (by omega)
                obtain ⟨A10, c10, d10, hI10⟩ := hrat k hkr
                have HI10 := Lib.hid hI10
                have HIN2 := Lib.hid (HINK.out j (by first | trivial | rfl) hlt hjl)
                generalize lst1.getD j 0 = y at *
                generalize rs.getD k [] = R at *
                have hz : decide ((j : Int) < (lst1.length : Int)) = true := decide_eq_true (by omega)
                have HCN : Hid (∀ wq, Below wr.heap.size wr wq → Calls Try.prog 21 #[.slice A10 R.length c10, .int .i64 y] wq fun e' w'' => e' = .returned (.bool true) ∧ Below wr.heap.size wr w'') := Lib.hid fun wq hS => (bcIn_any _ R y _ wq (HI10.out.low hS (Nat.le_refl _))).mono fun e' w'' ⟨h1, h2⟩ => ⟨by rw [h1, HIN2.out], by rw [← h2]; exact hS⟩
                clear hcell8 hr8 e9 hrat hI10 hbj
                go_upto_region 16 with (at_builtin; fail)
                refine wp_region_seq (Below wr.heap.size wr) (by kernel_rfl) (by kernel_rfl) (Below.refl _ _).drew ?_
                repeat (first
                  | (refine SeqS.skip (by rfl) ?_; (try simp only [Act.put, List.setIfInBounds_toArray, List.set_cons_zero, List.set_cons_succ]))
                  | (refine SeqS.pure (v := ?_) (by rfl) (fun w' hSw => ?_) ?_; rotate_left; (obtain ⟨hc9, hf9⟩ := bcell hSw; go_simp; with_reducible rfl); (try simp only [Act.put, List.setIfInBounds_toArray, List.set_cons_zero, List.set_cons_succ]))
                  | (refine SeqS.call (f := ?_) (args := ?_) (v := ?_) (by rfl) (fun w' => ?_) (fun w' hSw => ?_) ?_; rotate_left 3; (go_simp; constructor; (with_reducible rfl); (with_reducible rfl)); (first | exact HCN.out _ hSw | fail); (try simp only [Act.put, List.setIfInBounds_toArray, List.set_cons_zero, List.set_cons_succ]))
                  | fail)
                intro w11 hb11
                go_wp2_with (at_builtin; fail)
                exact ⟨⟨j + 1, by omega, by go_num, HBJ.out.trans (hb11.mono hsj)⟩, by simp [intOf] <;> omega⟩
              · have hz : decide ((j : Int) < (lst1.length : Int)) = false := decide_eq_false (by omega)
                have HENW : Hid (∃ vs, RwO wr w4.heap.size (.slice A7 n7 c7) vs (rgL ts l (k + 1))) := Lib.hid (by obtain ⟨vs7, h7⟩ := HEND.out; exact ⟨vs7, h7.bel hbj⟩)
                clear hbj
                go_wp2_with (at_builtin; fail)
                obtain ⟨vs7, h7⟩ := HENW.out
                exact ⟨⟨k + 1, vs7, by omega, by go_num, h7, HB6.out.trans (HBJ.out.mono hs6)⟩, by simp [intOf] <;> omega⟩
          · have hkt : k = ts.length := by omega
            have HO7 : Hid (IRw wr wr.heap.size (.slice A6 (rgL ts l k).length c6) (rgL ts l ts.length)) := Lib.hid (by
              have h := HO.out.toX (fun i hi => by rw [rgL_get (by rwa [rgL_len] at hi)]; have := regRes_len ts l ((i : Nat) : Int); omega) (by rw [rgL_len]; omega)
              have h2 := h.toS
              rw [hkt] at h2 ⊢
              exact h2)
            have hkf : decide ((k : Int) < (ts.length : Int)) = false := by simp; omega
            generalize (rgL ts l k).length = n6 at *
            clear hkt HO
            go_wp2_with (at_builtin; fail)
            refine (iBoundsHold_any _ _ _ ts l _ _ _ HPW.out.ht HPW.out.hl HO7.out (Nat.le_refl _) (by omega)).mono ?_
            rintro e w8 ⟨rfl, hb8⟩
            have HP8 := Lib.hid (HPW.out.bels hb8)
            rw [HLE.out HV.out]
            clear hb8
            go_wp2_with (at_builtin; fail)
            go_ret
            exact ⟨rfl, HP8.out.bel⟩
  · have hn1 : (1048576 : Int) < n := by omega
    unfold maxLen at hm
    go_enter Try.func4, Try.ntmps4
    go_wp2_with fail
    go_ret
    exact ⟨rfl, Below.refl _ _⟩

end Go.Proofs.Ytmaaaiccmllnlaa
