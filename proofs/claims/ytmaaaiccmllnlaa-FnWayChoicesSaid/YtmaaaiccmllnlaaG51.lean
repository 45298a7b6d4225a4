import Derived.Test.YtmaaaiccmllnlaaG50
import Derived.Test.YtmaaaiccmllnlaaG38
import Derived.Test.YtmaaaiccmllnlaaG29
set_option linter.unusedVariables false

/- spec.DrawWayChoices. -/
namespace Go.Proofs.Ytmaaaiccmllnlaa
open Go.RowKit

/-- what DrawWayChoices answers -/
def DwRet (w : World) (e : Ending) (w' : World) : Prop :=
  ∃ (vt vb vr : Value) (ts : List Int) (l : List St) (rs : List Int), e = .returned (.tuple #[.agg #[vt, vb], vr]) ∧ IntX w' (fun b => w.heap.size ≤ b) vt ts ∧ StX w' (fun b => w.heap.size ≤ b) vb l ∧ IntX w' (fun b => w.heap.size ≤ b) vr rs ∧ ts.length ≤ 700 ∧ szL l ≤ 100000 ∧ rs.length ≤ 21 ∧ Below w.heap.size w w'
theorem dw_close {w w3 W : World} {vt vb vr : Value} {ts rs : List Int} {l : List St} (h3 : Below w.heap.size w w3) (hW : w3.grownBy W (some w.heap.size)) (hT : IntX w3 (fun b => w.heap.size + 1 ≤ b) vt ts) (hB : StX w3 (fun b => w.heap.size + 1 ≤ b) vb l) (hR : IntX w3 (fun b => w.heap.size + 1 ≤ b) vr rs) (ht : ts.length ≤ 700) (hl : szL l ≤ 100000) (hr : rs.length ≤ 21) :
    DwRet w (.returned (.tuple #[.agg #[vt, vb], vr])) W := by
  have hk : ∀ b, w.heap.size + 1 ≤ b → b < w3.heap.size → w.heap.size ≤ b ∧ W.heap[b]? = w3.heap[b]? := fun b hb hl => ⟨by omega, hW.block b hl (fun e => by injection e with e; omega)⟩
  exact ⟨vt, vb, vr, ts, l, rs, rfl, hT.frame hW.size hk, hB.frame hW.size hk, hR.frame hW.size hk, ht, hl, hr, grown_new h3 (Nat.le_refl _) hW⟩
theorem Onl.ofLow {w w' : World} {B : Nat} (h : Below B w w') : Onl (fun b => B ≤ b) w w' := ⟨h.os, h.tape, h.output, h.size, fun k _ hn => h.block k (by have : ¬ B ≤ k := hn; omega)⟩
theorem Onl.grownW {S : Nat → Prop} {w w' : World} {g : Nat} (h : w.grownBy w' (some g)) (hS : S g) : Onl S w w' := ⟨h.os, h.tape, h.output, h.size, fun k hk hn => h.block k hk (fun e => by injection e with e; subst e; exact hn hS)⟩

set_option maxHeartbeats 8000000 in
set_option maxRecDepth 100000 in
theorem drawWayChoices_any (A : Option Addr) (n c : Nat) (w : World) (hb : Byt w w.heap.size A n) (hn : n ≤ 1048576) (hc : n ≤ c) :
    Calls Try.prog 35 #[.slice A n c] w (DwRet w) := by
  have HB := Lib.hid hb
  clear hb
  go_enter Try.func35, Try.ntmps35
  go_wp2_with fail
  have hA := bel_a w (.cells #[.slice none 0 0, .slice none 0 0] 26)
  have hsA : (w.alloc (.cells #[.slice none 0 0, .slice none 0 0] 26)).heap.size = w.heap.size + 1 := by simp
  refine (l17Open_any A n c _ (by rw [hsA]; exact (HB.out.keep fun b o hb => hA.cell (p := ⟨b, o, none⟩) hb).more (by omega)) hn hc).mono ?_
  rw [hsA]
  rintro e w1 ⟨rfl, hd1, hb1⟩
  have hb1' : Below (w.alloc (.cells #[.slice none 0 0, .slice none 0 0] 26)).heap.size (w.alloc (.cells #[.slice none 0 0, .slice none 0 0] 26)) w1 := by rw [hsA]; exact hb1
  have hs1 : w.heap.size + 1 < w1.heap.size := hd1.lt
  have HR1 := Lib.hid (row_below (heap_alloc_new w (.cells #[.slice none 0 0, .slice none 0 0] 26)) hb1')
  have HB1 := Lib.hid (hA.trans (hb1.mono (by omega)))
  have HD1 := Lib.hid hd1
  clear hb1 hb1' hd1 hA hsA
  go_wp2_with fail
  refine (l2Branch_any (w.heap.size + 1) 0 _ HD1.out (by omega)).mono ?_
  rintro e w2 ⟨vt, vb, ts, l, p2, rfl, hit', hst', hts, hsz, hp2, hd2, hg2⟩
  have hs2 := hg2.size
  have hit := hit'.frame (P' := fun b => w1.heap.size ≤ b ∧ b < w2.heap.size) (Nat.le_refl _) fun b hb hl => ⟨⟨hb, hl⟩, rfl⟩
  have hst := hst'.frame (P' := fun b => w1.heap.size ≤ b ∧ b < w2.heap.size) (Nat.le_refl _) fun b hb hl => ⟨⟨hb, hl⟩, rfl⟩
  obtain ⟨At, ct, rfl, -⟩ := hit.slice
  obtain ⟨Ab, cb, rfl, -⟩ := hst.slice
  clear hit' hst'
  have hA2 := bel_a w2 (.cells #[.slice At ts.length ct, .slice Ab l.length cb] 26)
  have hsW : (w2.alloc (.cells #[.slice At ts.length ct, .slice Ab l.length cb] 26)).heap.size = w2.heap.size + 1 := by simp
  have HRR := Lib.hid (row_below (row_grown HR1.out hg2 (by omega)) hA2)
  have HRP := Lib.hid (heap_alloc_new w2 (.cells #[.slice At ts.length ct, .slice Ab l.length cb] 26))
  have HD2 := Lib.hid (hd2.low hA2 (by omega))
  have HB2 := Lib.hid ((grown_new HB1.out (by omega) hg2).trans (hA2.mono (by omega)))
  have HIT := Lib.hid (hit.frame (P' := fun b => w1.heap.size ≤ b ∧ b < w2.heap.size) hA2.size fun b hb hl => ⟨hb, hA2.block b hl⟩)
  have HST := Lib.hid (hst.frame (P' := fun b => w1.heap.size ≤ b ∧ b < w2.heap.size) hA2.size fun b hb hl => ⟨hb, hA2.block b hl⟩)
  clear hit hst hd2 hg2 hA2
  go_wp2_with fail
  have hs3 : w2.heap.size + 1 ≤ (w2.alloc (.cells #[.slice At ts.length ct, .slice Ab l.length cb] 26)).heap.size := by simp
  clear hsW
  generalize w2.alloc (.cells #[.slice At ts.length ct, .slice Ab l.length cb] 26) = W2 at *
  have c0 : W2.cell? ⟨w2.heap.size, 0, none⟩ = some (.slice At ts.length ct) := (cell_of_row _ _ _ _ _ _ HRP.out).trans rfl
  have c1 : W2.cell? ⟨w2.heap.size, 1, none⟩ = some (.slice Ab l.length cb) := (cell_of_row _ _ _ _ _ _ HRP.out).trans rfl
  have HBD := Lib.hid ((Below.refl W2.heap.size W2).drew)
  have HDD := Lib.hid (HD2.out.low HBD.out (by omega))
  have HITD := Lib.hid (HIT.out.frame (w' := W2.drew) (P' := fun b => w1.heap.size ≤ b ∧ b < w2.heap.size) (Nat.le_refl _) fun b hb hl => ⟨hb, rfl⟩)
  have HSTD := Lib.hid (HST.out.frame (w' := W2.drew) (P' := fun b => w1.heap.size ≤ b ∧ b < w2.heap.size) (Nat.le_refl _) fun b hb hl => ⟨hb, rfl⟩)
  have hsD : W2.drew.heap.size = W2.heap.size := rfl
  have HSD := Lib.hid hsD
  clear hsD
  refine wp_region_held_drew (S := (fun w' => w'.cell? ⟨w2.heap.size, 0, none⟩ = some (.slice At ts.length ct) ∧ w'.cell? ⟨w2.heap.size, 1, none⟩ = some (.slice Ab l.length cb))) (by kernel_rfl) ?_ (fun hHeld => ?_)
  · exact ⟨c0, c1⟩
  refine wpAnyH_take (i := 0) (oi := ⟨some 13, _, _, _, _, _⟩) (v := ?_) rfl (by kernel_rfl) (by kernel_rfl) (by kernel_rfl) (fun _ _ _ h => h) (Or.inl ⟨by rfl, fun w' hSw => ?_⟩) (by assumption) ?_
  rotate_left
  · (try dsimp only at hSw); go_simp; (try with_reducible rfl)
  (try simp only [Act.put, List.setIfInBounds_toArray, List.set_cons_zero, List.set_cons_succ])
  refine wpAnyH_take (i := 1) (oi := ⟨some 14, _, _, _, _, _⟩) (v := ?_) rfl (by kernel_rfl) (by kernel_rfl) (by kernel_rfl) (fun _ _ _ h => h) (Or.inl ⟨by rfl, fun w' hSw => ?_⟩) (by assumption) ?_
  rotate_left
  · (try dsimp only at hSw); go_simp; (try with_reducible rfl)
  (try simp only [Act.put, List.setIfInBounds_toArray, List.set_cons_zero, List.set_cons_succ])
  refine wpAnyH_ready (rs := [2]) (by kernel_rfl) (by simp) ?_
  refine AllReadyH.cons (o := ⟨some 15, _, _, _, _, _⟩) rfl (fun K hK => ?_) AllReadyH.nil
  go_simp
  (refine (l2Choices_any (w.heap.size + 1) p2 _ HDD.out (by omega)).mono ?_)
  (rintro e w3 ⟨vc, cs, p3, rfl, hci, hcs, hp3, hd3, hg3⟩)
  (have HG3 := Lib.hid hg3)
  (have HD3 := Lib.hid hd3)
  (have HCI := Lib.hid hci.toS)
  (have HS3 : Hid (W2.heap.size ≤ w3.heap.size) := Lib.hid (by have h := hg3.size; rw [HSD.out] at h; exact h))
  (have HIT3 := Lib.hid ((HITD.out.frame (P' := fun _ => True) hg3.size fun b hb hl => ⟨trivial, hg3.block b hl (fun e => by injection e with e; have h1 := hb.1; omega)⟩).toS))
  (have HST3 := Lib.hid ((HSTD.out.frame (P' := fun _ => True) hg3.size fun b hb hl => ⟨trivial, hg3.block b hl (fun e => by injection e with e; have h1 := hb.1; omega)⟩).toS))
  (have hrp3 := row_grown (row_below HRP.out HBD.out) hg3 (by omega))
  (have q03 : w3.cell? ⟨w2.heap.size, 0, none⟩ = some (.slice At ts.length ct) := (cell_of_row _ _ _ _ _ _ hrp3).trans rfl)
  (have q13 : w3.cell? ⟨w2.heap.size, 1, none⟩ = some (.slice Ab l.length cb) := (cell_of_row _ _ _ _ _ _ hrp3).trans rfl)
  (have hlt3 : w2.heap.size < w3.heap.size := by have h := HS3.out; omega)
  clear hg3 hd3 hci hrp3
  go_simp
  refine hK.out _ _ ?_ (fun hHeld => ?_)
  · exact ⟨q03, q13⟩
  clear hK K
  (try simp only [Act.put, List.setIfInBounds_toArray, List.set_cons_zero, List.set_cons_succ])
  refine wpAnyH_ready (rs := [3]) (by kernel_rfl) (by simp) ?_
  refine AllReadyH.cons (o := ⟨some 16, _, _, _, _, _⟩) rfl (fun K hK => ?_) AllReadyH.nil
  go_simp
  (refine (sRunPathW_any _ _ _ ts l cs _ w3 HIT3.out HST3.out HCI.out (Nat.le_refl _) (by omega)).mono ?_)
  (rintro e w4 ⟨v4, o, okk, rfl, ho4, hol4, hb4⟩)
  go_simp
  refine hK.out _ _ ?_ (fun hHeld => ?_)
  · exact ⟨(hb4.cell (p := ⟨w2.heap.size, 0, none⟩) hlt3).trans q03, (hb4.cell (p := ⟨w2.heap.size, 1, none⟩) hlt3).trans q13⟩
  clear hK K
  (try simp only [Act.put, List.setIfInBounds_toArray, List.set_cons_zero, List.set_cons_succ])
  refine wpAnyH_take (i := 4) (oi := ⟨some 12, _, _, _, _, _⟩) (v := ?_) rfl (by kernel_rfl) (by kernel_rfl) (by kernel_rfl) (fun _ _ _ h => h) (Or.inl ⟨by rfl, fun w' hSw => ?_⟩) (by assumption) ?_
  rotate_left
  · (try dsimp only at hSw); go_simp; (try with_reducible rfl)
  (try simp only [Act.put, List.setIfInBounds_toArray, List.set_cons_zero, List.set_cons_succ])
  refine wpAnyH_take (i := 5) (oi := ⟨some 17, _, _, _, _, _⟩) (v := ?_) rfl (by kernel_rfl) (by kernel_rfl) (by kernel_rfl) (fun _ _ _ h => h) (Or.inl ⟨by rfl, fun w' hSw => ?_⟩) (by assumption) ?_
  rotate_left
  · (try dsimp only at hSw); go_simp; (try with_reducible rfl)
  (try simp only [Act.put, List.setIfInBounds_toArray, List.set_cons_zero, List.set_cons_succ])
  refine wpAnyH_take (i := 6) (oi := ⟨some 18, _, _, _, _, _⟩) (v := ?_) rfl (by kernel_rfl) (by kernel_rfl) (by kernel_rfl) (fun _ _ _ h => h) (Or.inl ⟨by rfl, fun w' hSw => ?_⟩) (by assumption) ?_
  rotate_left
  · (try dsimp only at hSw); go_simp; (try with_reducible rfl)
  (try simp only [Act.put, List.setIfInBounds_toArray, List.set_cons_zero, List.set_cons_succ])
  refine wpAnyH_take (i := 7) (oi := ⟨some 6, _, _, _, _, _⟩) (v := ?_) rfl (by kernel_rfl) (by kernel_rfl) (by kernel_rfl) (fun _ _ _ h => h) (Or.inl ⟨by rfl, fun w' hSw => ?_⟩) (by assumption) ?_
  rotate_left
  · (try dsimp only at hSw); go_simp; (try with_reducible rfl)
  (try simp only [Act.put, List.setIfInBounds_toArray, List.set_cons_zero, List.set_cons_succ])
  refine wpAnyH_take (i := 8) (oi := ⟨some 7, _, _, _, _, _⟩) (v := ?_) rfl (by kernel_rfl) (by kernel_rfl) (by kernel_rfl) (fun _ _ _ h => h) (Or.inl ⟨by rfl, fun w' hSw => ?_⟩) (by assumption) ?_
  rotate_left
  · (try dsimp only at hSw); go_simp; (try with_reducible rfl)
  (try simp only [Act.put, List.setIfInBounds_toArray, List.set_cons_zero, List.set_cons_succ])
  refine wpAnyH_done (by kernel_rfl) ?_ _
  have HO4 := Lib.hid ho4
  have HK4 : Hid (Onl (fun b => b = w.heap.size + 1 ∨ w2.heap.size + 1 ≤ b) W2 w4) := Lib.hid ((Onl.bel HBD.out).trans ((Onl.grownW HG3.out (.inl rfl)).trans ((Onl.ofLow hb4).mono fun k hk => .inr (by have h := HS3.out; have hk' : w3.heap.size ≤ k := hk; omega))))
  have HD4 := Lib.hid (HD3.out.low hb4 (by have h := HS3.out; omega))
  have hs4 := HK4.out.size
  have hbase : w2.heap.size + 1 ≤ w3.heap.size := by have h := HS3.out; omega
  have hsz4 : w3.heap.size ≤ w4.heap.size := hb4.size
  have hp3' : p3 ≤ 800 := by omega
  clear c0 c1 ho4 hb4
  by_cases ho0 : o.length = 0
  · obtain rfl : o = [] := List.length_eq_zero_iff.1 ho0
    obtain ⟨A4, c4, rfl, hc4⟩ := HO4.out.slice
    simp only [List.length_nil] at HO4 hc4 ⊢
    have HX := Lib.hid (HO4.out.toX (by simp))
    have HRS : Hid (([] : List Int).length ≤ 21) := Lib.hid (by simp)
    have HKF := HK4
    clear ho0
    go_upto_region 6 with (at_builtin; fail)
    have hrf := (HKF.out.block w.heap.size (by omega) (by omega)).trans HRR.out
    have hpf := (HKF.out.block w2.heap.size (by omega) (by omega)).trans HRP.out
    have HRF := Lib.hid hrf
    have q0 : w4.cell? ⟨w2.heap.size, 0, none⟩ = some (.slice At ts.length ct) := (cell_of_row _ _ _ _ _ _ hpf).trans rfl
    have q1 : w4.cell? ⟨w2.heap.size, 1, none⟩ = some (.slice Ab l.length cb) := (cell_of_row _ _ _ _ _ _ hpf).trans rfl
    have z0 : w4.cell? ⟨w.heap.size, 0, none⟩ = some (.slice none 0 0) := (cell_of_row _ _ _ _ _ _ hrf).trans rfl
    have z1 : w4.cell? ⟨w.heap.size, 1, none⟩ = some (.slice none 0 0) := (cell_of_row _ _ _ _ _ _ hrf).trans rfl
    have zf0 := frozen_of_row w4 w.heap.size 0 _ _ hrf
    have zf1 := frozen_of_row w4 w.heap.size 1 _ _ hrf
    have HBF := Lib.hid (HB2.out.trans (HKF.out.below (by omega) fun k hk => by omega))
    have HITF := Lib.hid (HIT.out.frame (P' := fun b => w.heap.size + 1 ≤ b) HKF.out.size fun b hb hl => ⟨by have := hb.1; omega, HKF.out.block b hl (by have := hb.1; have := hb.2; omega)⟩)
    have HSTF := Lib.hid (HST.out.frame (P' := fun b => w.heap.size + 1 ≤ b) HKF.out.size fun b hb hl => ⟨by have := hb.1; omega, HKF.out.block b hl (by have := hb.1; have := hb.2; omega)⟩)
    have HXF := Lib.hid (IntX.frame (P' := fun b => w.heap.size + 1 ≤ b) HX.out (Nat.le_refl _) fun b hb _ => ⟨by have hb' : w3.heap.size ≤ b := hb; show w.heap.size + 1 ≤ b; omega, rfl⟩)
    have hw02 : w.heap.size < w2.heap.size := by omega
    clear hrf hpf
    go_wp2_with (at_builtin; fail)
    refine bodyPost_ret (res_box (u := 3) rfl _ _ w.heap.size 26 _ (0, 0) _ rfl (box2 HRF.out _ _).1 Try.underlying26 rfl rfl) rfl ?_
    exact dw_close HBF.out (box2 HRF.out _ _).2 HITF.out HSTF.out HXF.out hts hsz HRS.out
  · obtain ⟨g4, c4, rfl, hg4, hgl4⟩ := World.ownsRow.form HO4.out (by omega)
    have hnc : o.length ≤ c4 := by obtain ⟨A', c', e, hc'⟩ := HO4.out.slice; injection e with _ _ e3; subst e3; omega
    have hz : decide ((0 : Int) < (o.length : Int)) = true := decide_eq_true (by omega)
    have hop : 0 < o.length := by omega
    go_wp2_with (at_builtin; fail)
    refine (pick_any (w.heap.size + 1) p3 _ w4 HD4.out (by omega) (by omega) (by omega)).mono ?_
    rintro e w5 ⟨q, rfl, hq0, hq1, hd5, hg5⟩
    have HD5 := Lib.hid hd5
    have HO5 : Hid (OInts w5 w3.heap.size (.slice (some ⟨g4, 0, none⟩) o.length c4) o) := Lib.hid (World.ownsRow.kept HO4.out hg5 (.inr fun e => by have e' : g4 = w.heap.size + 1 := Option.some.inj e; omega))
    have HK5 := Lib.hid (HK4.out.trans (Onl.grownW hg5 (.inl rfl)))
    have hs5 := HK5.out.size
    have hsz5 := hg5.size
    clear hq0 hq1 hd5 hg5 HO4 HD4 HK4 hsz4
    by_cases hqz : q = 0
    · subst hqz
      go_wp2_with (at_builtin; fail)
      refine (pick_any (w.heap.size + 1) (p3 + 1) _ w5 HD5.out (by omega) (by omega) (by omega)).mono ?_
      rintro e w6 ⟨k1, rfl, hk0, hk1, hd6, hg6⟩
      obtain ⟨k, rfl⟩ : ∃ k : Nat, k1 = k := ⟨k1.toNat, by omega⟩
      have hkl : k < o.length := by have := hk1 (by omega); omega
      have HD6 := Lib.hid hd6
      have HO6 : Hid (OInts w6 w3.heap.size (.slice (some ⟨g4, 0, none⟩) o.length c4) o) := Lib.hid (World.ownsRow.kept HO5.out hg6 (.inr fun e => by have e' : g4 = w.heap.size + 1 := Option.some.inj e; omega))
      have HK6 := Lib.hid (HK5.out.trans (Onl.grownW hg6 (.inl rfl)))
      have hs6 := HK6.out.size
      have hsz6 := hg6.size
      clear hk0 hk1 hd6 hg6 HO5 HD5 HK5
      go_wp2_with (at_builtin; fail)
      have CN : Calls Try.prog 70 #[.pointer (some ⟨w.heap.size + 1, 0, none⟩), .slice (some ⟨w6.heap.size, 0, none⟩) 4 4] (w6.alloc (.cells #[.int .i64 0, .int .i64 1, .int .i64 9, .int .i64 (-1)] 3)) (fun e w' => ∃ x : Int, e = .returned (.int .i64 x) ∧ x ∈ [0, 1, 9, (-1)] ∧ Dr w' (w.heap.size + 1) (p3 + 1 + 1 + 1) ∧ (w6.alloc (.cells #[.int .i64 0, .int .i64 1, .int .i64 9, .int .i64 (-1)] 3)).grownBy w' (some (w.heap.size + 1))) :=
        num_any (w.heap.size + 1) _ _ [0, 1, 9, (-1)] 3 _ (HD6.out.low (bel_a w6 (.cells #[.int .i64 0, .int .i64 1, .int .i64 9, .int .i64 (-1)] 3)) (by omega)) (by omega) (RowB.new w6 _ _) (by omega) (by simp) (by simp)
      have HBA := Lib.hid (bel_a w6 (.cells #[.int .i64 0, .int .i64 1, .int .i64 9, .int .i64 (-1)] 3))
      with_reducible refine CN.mono ?_
      rintro e w7 ⟨x, rfl, -, -, hg7⟩
      have HO7 : Hid (OInts w7 w3.heap.size (.slice (some ⟨g4, 0, none⟩) o.length c4) o) := Lib.hid (World.ownsRow.kept (OInts.bel HO6.out HBA.out) hg7 (.inr fun e => by have e' : g4 = w.heap.size + 1 := Option.some.inj e; omega))
      have HK7 := Lib.hid ((HK6.out.trans (Onl.bel HBA.out)).trans (Onl.grownW hg7 (.inl rfl)))
      have hs7 := HK7.out.size
      obtain ⟨dk, fk⟩ := HO7.out.at0 rfl hkl
      have hgl7 : g4 < w7.heap.size := by have := hg7.size; have := HBA.out.size; omega
      have HX := Lib.hid ((HO7.out.put rfl k x).toX (by rw [List.length_set]; omega))
      have HKF : Hid (Onl (fun b => b = w.heap.size + 1 ∨ w2.heap.size + 1 ≤ b) W2 (w7.setCell ⟨g4, k, none⟩ (.int .i64 x))) := Lib.hid (HK7.out.trans (Onl.set _ (.inr (by omega)) _ _))
      have HRS : Hid ((o.set k x).length ≤ 21) := Lib.hid (by rw [List.length_set]; omega)
      generalize o.getD k 0 = y0 at *
      clear hg7 HO6 HK6 HD6 CN HO7 HK7
      go_upto_region 6 with (at_builtin; fail)
      have hszf : w7.heap.size ≤ (w7.setCell ⟨g4, k, none⟩ (.int .i64 x)).heap.size := by simp [World.setCell]
      generalize w7.setCell ⟨g4, k, none⟩ (.int .i64 x) = wf at *
      generalize o.set k x = o2 at *
      clear dk fk
      have hrf := (HKF.out.block w.heap.size (by omega) (by omega)).trans HRR.out
      have hpf := (HKF.out.block w2.heap.size (by omega) (by omega)).trans HRP.out
      have HRF := Lib.hid hrf
      have q0 : wf.cell? ⟨w2.heap.size, 0, none⟩ = some (.slice At ts.length ct) := (cell_of_row _ _ _ _ _ _ hpf).trans rfl
      have q1 : wf.cell? ⟨w2.heap.size, 1, none⟩ = some (.slice Ab l.length cb) := (cell_of_row _ _ _ _ _ _ hpf).trans rfl
      have z0 : wf.cell? ⟨w.heap.size, 0, none⟩ = some (.slice none 0 0) := (cell_of_row _ _ _ _ _ _ hrf).trans rfl
      have z1 : wf.cell? ⟨w.heap.size, 1, none⟩ = some (.slice none 0 0) := (cell_of_row _ _ _ _ _ _ hrf).trans rfl
      have zf0 := frozen_of_row wf w.heap.size 0 _ _ hrf
      have zf1 := frozen_of_row wf w.heap.size 1 _ _ hrf
      have HBF := Lib.hid (HB2.out.trans (HKF.out.below (by omega) fun k hk => by omega))
      have HITF := Lib.hid (HIT.out.frame (P' := fun b => w.heap.size + 1 ≤ b) HKF.out.size fun b hb hl => ⟨by have := hb.1; omega, HKF.out.block b hl (by have := hb.1; have := hb.2; omega)⟩)
      have HSTF := Lib.hid (HST.out.frame (P' := fun b => w.heap.size + 1 ≤ b) HKF.out.size fun b hb hl => ⟨by have := hb.1; omega, HKF.out.block b hl (by have := hb.1; have := hb.2; omega)⟩)
      have HXF := Lib.hid (IntX.frame (P' := fun b => w.heap.size + 1 ≤ b) HX.out (Nat.le_refl _) fun b hb _ => ⟨by have hb' : w3.heap.size ≤ b := hb; show w.heap.size + 1 ≤ b; omega, rfl⟩)
      have hw02 : w.heap.size < w2.heap.size := by omega
      clear hrf hpf
      go_wp2_with (at_builtin; fail)
      refine bodyPost_ret (res_box (u := 3) rfl _ _ w.heap.size 26 _ (0, 0) _ rfl (box2 HRF.out _ _).1 Try.underlying26 rfl rfl) rfl ?_
      exact dw_close HBF.out (box2 HRF.out _ _).2 HITF.out HSTF.out HXF.out hts hsz HRS.out
    · have hqz1 : (q == 0) = false := by simpa using hqz
      have HX := Lib.hid (HO5.out.toX (by omega))
      have HKF := HK5
      have HRS : Hid (o.length ≤ 21) := Lib.hid (by omega)
      clear hqz HO5 HK5
      go_upto_region 6 with (at_builtin; fail)
      have hrf := (HKF.out.block w.heap.size (by omega) (by omega)).trans HRR.out
      have hpf := (HKF.out.block w2.heap.size (by omega) (by omega)).trans HRP.out
      have HRF := Lib.hid hrf
      have q0 : w5.cell? ⟨w2.heap.size, 0, none⟩ = some (.slice At ts.length ct) := (cell_of_row _ _ _ _ _ _ hpf).trans rfl
      have q1 : w5.cell? ⟨w2.heap.size, 1, none⟩ = some (.slice Ab l.length cb) := (cell_of_row _ _ _ _ _ _ hpf).trans rfl
      have z0 : w5.cell? ⟨w.heap.size, 0, none⟩ = some (.slice none 0 0) := (cell_of_row _ _ _ _ _ _ hrf).trans rfl
      have z1 : w5.cell? ⟨w.heap.size, 1, none⟩ = some (.slice none 0 0) := (cell_of_row _ _ _ _ _ _ hrf).trans rfl
      have zf0 := frozen_of_row w5 w.heap.size 0 _ _ hrf
      have zf1 := frozen_of_row w5 w.heap.size 1 _ _ hrf
      have HBF := Lib.hid (HB2.out.trans (HKF.out.below (by omega) fun k hk => by omega))
      have HITF := Lib.hid (HIT.out.frame (P' := fun b => w.heap.size + 1 ≤ b) HKF.out.size fun b hb hl => ⟨by have := hb.1; omega, HKF.out.block b hl (by have := hb.1; have := hb.2; omega)⟩)
      have HSTF := Lib.hid (HST.out.frame (P' := fun b => w.heap.size + 1 ≤ b) HKF.out.size fun b hb hl => ⟨by have := hb.1; omega, HKF.out.block b hl (by have := hb.1; have := hb.2; omega)⟩)
      have HXF := Lib.hid (IntX.frame (P' := fun b => w.heap.size + 1 ≤ b) HX.out (Nat.le_refl _) fun b hb _ => ⟨by have hb' : w3.heap.size ≤ b := hb; show w.heap.size + 1 ≤ b; omega, rfl⟩)
      have hw02 : w.heap.size < w2.heap.size := by omega
      clear hrf hpf
      go_wp2_with (at_builtin; fail)
      refine bodyPost_ret (res_box (u := 3) rfl _ _ w.heap.size 26 _ (0, 0) _ rfl (box2 HRF.out _ _).1 Try.underlying26 rfl rfl) rfl ?_
      exact dw_close HBF.out (box2 HRF.out _ _).2 HITF.out HSTF.out HXF.out hts hsz HRS.out

end Go.Proofs.Ytmaaaiccmllnlaa
