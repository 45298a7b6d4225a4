import Derived.Test.YtmaaaiccmllnlaaG20
import Derived.Test.YtmaaaiccmllnlaaG23
set_option linter.unusedVariables false

/- spec.l2Branch, l3Place, the draws of the flow laws. -/
namespace Go.Proofs.Ytmaaaiccmllnlaa
open Go.RowKit

def BrRet (w : World) (g p : Nat) (e : Ending) (w' : World) : Prop :=
  ∃ (vt vb : Value) (ts : List Int) (l : List St) (p' : Nat), e = .returned (.agg #[vt, vb]) ∧ IntX w' (fun b => w.heap.size ≤ b) vt ts ∧ StX w' (fun b => w.heap.size ≤ b) vb l ∧ ts.length ≤ 700 ∧ szL l ≤ 100000 ∧ p' ≤ p + 720 ∧ Dr w' g p' ∧ w.grownBy w' (some g)
theorem br_close {w w3 W : World} {g p p' : Nat} {vt vb : Value} {ts : List Int} {l : List St} (hg : g < w.heap.size) (h3 : w.grownBy w3 (some g)) (hW : w3.grownBy W (some w.heap.size)) (hd : Dr w3 g p') (hT : IntX w3 (fun b => w.heap.size + 1 ≤ b) vt ts) (hB : StX w3 (fun b => w.heap.size + 1 ≤ b) vb l) (ht : ts.length ≤ 700) (hl : szL l ≤ 100000) (hp : p' ≤ p + 720) (hlt : w.heap.size < w3.heap.size) :
    BrRet w g p (.returned (.agg #[vt, vb])) W := by
  have hk : ∀ b, w.heap.size + 1 ≤ b → b < w3.heap.size → w.heap.size ≤ b ∧ W.heap[b]? = w3.heap[b]? := fun b hb hl => ⟨by omega, hW.block b hl (fun e => by injection e with e; omega)⟩
  exact ⟨vt, vb, ts, l, p', rfl, hT.frame hW.size hk, hB.frame hW.size hk, ht, hl, hp, hd.low (grown_below hW hlt) hg, grown_base h3 (grown_below hW hlt)⟩

set_option maxHeartbeats 4000000
set_option maxRecDepth 100000
theorem l2Branch_any (g p : Nat) (w : World) (hd : Dr w g p) (hp : p + 720 ≤ 1000000) : Calls Try.prog 83 #[.pointer (some ⟨g, 0, none⟩)] w (BrRet w g p) := by
  have hg := hd.lt
  have HD := Lib.hid hd
  clear hd
  go_enter Try.func83, Try.ntmps83
  go_wp2_with fail
  refine (texts_any _).mono ?_
  rintro e w1 ⟨tl, rfl, htl, hok, hrow, hb1⟩
  have hs1 := hb1.size
  have hsa : (w.alloc (.cells #[.slice none 0 0, .slice none 0 0] 26)).heap.size = w.heap.size + 1 := by simp
  have hr0 := row_below (heap_alloc_new w (.cells #[.slice none 0 0, .slice none 0 0] 26)) hb1
  have HR0 := Lib.hid hr0
  have hlt1 := hrow.lt
  have HTX := Lib.hid hrow
  have HOK := Lib.hid hok
  have HTL := Lib.hid htl
  have HD1 := Lib.hid ((HD.out.low (bel_a w _) hg).low hb1 (by simp; omega))
  have HG1 := Lib.hid (grown_below' (grown_bel (bel_a w (.cells #[.slice none 0 0, .slice none 0 0] 26)) (Nat.le_refl _) (some g)) hb1)
  clear hb1 hr0 hrow hok htl
  rw [hsa] at hs1 hlt1 HTX ⊢
  clear hsa
  go_wp2_with fail
  refine (pick_any g p _ _ HD1.out (by omega) (by omega) (by omega)).mono ?_
  rintro e w2 ⟨k, rfl, k0, k1, hd2, hg2⟩
  have HR2 := Lib.hid (row_grown HR0.out hg2 (by omega))
  have HTX2 := Lib.hid (row_grown HTX.out hg2 (by omega))
  have HD2 := Lib.hid hd2
  have HG2 := Lib.hid (grown_tr HG1.out hg2)
  have hs2 := hg2.size
  clear hd2 hg2 k1
  by_cases hk : k = 0
  · subst hk
    go_wp2_with fail
    refine (pick_any g (p + 1) _ _ HD2.out (by omega) (by omega) (by omega)).mono ?_
    rintro e w3 ⟨j, rfl, j0, j1, hd3, hg3⟩
    have j2 := j1 (by omega)
    clear j1
    obtain ⟨j, rfl⟩ := Int.eq_ofNat_of_zero_le j0
    have hj : j < 8 := by omega
    obtain ⟨s, hs, hs600⟩ := strOk_get HOK.out (k := 9 + j) (by rw [HTL.out]; omega)
    have hr := row_grown HTX2.out hg3 (by omega)
    have hck : w3.cell? ⟨w.heap.size + 1, 9 + j, none⟩ = some (.string s) := (cell_of_row _ _ (9 + j) _ _ _ hr).trans (by simpa using hs)
    have hix : (9 : Int) + (j : Int) = ((9 + j : Nat) : Int) := by omega
    have hjl : (9 + j : Nat) < 25 := by omega
    have HD3 := Lib.hid hd3
    have HG3 := Lib.hid (grown_tr HG2.out hg3)
    have HR3 := Lib.hid (row_grown HR2.out hg3 (by omega))
    have hs3 := hg3.size
    clear hr hs hd3 hg3 hix
    go_wp2_with fail
    refine (parseProgram_any s _ hs600).mono ?_
    rintro e w4 ⟨vt, vb, ts, l, okb, rfl, hit, hsb, hlt, hlb, hb4⟩
    have hs4 := hb4.size
    have hA4 := bel_a w4 (.cells #[vt, vb] 26)
    have hsW : (w4.alloc (.cells #[vt, vb] 26)).heap.size = w4.heap.size + 1 := by simp
    have HR4 := Lib.hid (row_below (row_below HR3.out hb4) hA4)
    have HD4 := Lib.hid ((HD3.out.low hb4 HD3.out.lt).low hA4 (by omega))
    have HG4 := Lib.hid (grown_alloc (grown_below' HG3.out hb4) (.cells #[vt, vb] 26))
    have HIT := Lib.hid (hit.bel hA4)
    have HST := Lib.hid (hsb.bel hA4)
    obtain ⟨At, ct, rfl, -⟩ := hit.slice
    obtain ⟨Ab, cb, rfl, -⟩ := hsb.slice
    clear hit hsb hb4 hck hA4
    go_wp2_with fail
    generalize w4.alloc (.cells #[.slice At ts.length ct, .slice Ab l.length cb] 26) = W4 at *
    refine (mutate_any g (p + 1 + 1) _ _ ts l _ _ HIT.out.toS HST.out.toS (Nat.le_refl _) hlt hlb HD4.out (by omega)).mono ?_
    rintro e w5 ⟨vt', vb', ts', l', p5, rfl, hit', hst', hts', hsz', hp5, hd5, hg5⟩
    obtain ⟨At', ct', rfl, -⟩ := hit'.slice
    obtain ⟨Ab', cb', rfl, -⟩ := hst'.slice
    have hs5 := hg5.size
    have HR5 := Lib.hid (row_grown HR4.out hg5 (by omega))
    have HG5 := Lib.hid (grown_tr HG4.out hg5)
    have HD5 := Lib.hid hd5
    have HIT5 := Lib.hid hit'
    have HST5 := Lib.hid hst'
    clear hit' hst' hd5 hg5
    have z0 : w5.cell? ⟨w.heap.size, 0, none⟩ = some (.slice none 0 0) := by rw [cell_of_row _ _ _ _ _ _ HR5.out]; rfl
    have z1 : w5.cell? ⟨w.heap.size, 1, none⟩ = some (.slice none 0 0) := by rw [cell_of_row _ _ _ _ _ _ HR5.out]; rfl
    have zf0 := frozen_of_row w5 w.heap.size 0 _ _ HR5.out
    have zf1 := frozen_of_row w5 w.heap.size 1 _ _ HR5.out
    go_wp2_with fail
    exact bodyPost_ret (results_cell_row rfl _ _ w.heap.size 26 _ (0, 0) _ rfl (box2 HR5.out _ _).1 Try.underlying26 rfl rfl) rfl
      (br_close hg HG5.out (box2 HR5.out _ _).2 HD5.out (HIT5.out.frame (Nat.le_refl _) fun b hb _ => ⟨by have hb' : W4.heap.size ≤ b := hb; show w.heap.size + 1 ≤ b; omega, rfl⟩) (HST5.out.frame (Nat.le_refl _) fun b hb _ => ⟨by have hb' : W4.heap.size ≤ b := hb; show w.heap.size + 1 ≤ b; omega, rfl⟩) hts' hsz' (by omega) (by omega))
  · have hk1 : (k == 0) = false := by simpa using hk
    clear hk
    go_wp2_with fail
    refine (l1Draw_any g (p + 1) _ HD2.out (by omega)).mono ?_
    rintro e w3 ⟨vt, vb, ts, l, p3, rfl, hit, hst, hts, hsz, hp3, hd3, hg3⟩
    have HR3 := Lib.hid (row_grown HR2.out hg3 (by omega))
    have HG3 := Lib.hid (grown_tr HG2.out hg3)
    have hs3 := hg3.size
    have HD3 := Lib.hid hd3
    have HIT := Lib.hid hit
    have HST := Lib.hid hst
    clear hit hst hd3 hg3
    go_wp2_with fail
    refine (mutate_any g p3 _ _ ts l _ _ HIT.out.toS HST.out.toS (Nat.le_refl _) hts hsz HD3.out (by omega)).mono ?_
    rintro e w4 ⟨vt', vb', ts', l', p4, rfl, hit', hst', hts', hsz', hp4, hd4, hg4⟩
    obtain ⟨At, ct, rfl, -⟩ := hit'.slice
    obtain ⟨Ab, cb, rfl, -⟩ := hst'.slice
    have hs4 := hg4.size
    have HR4 := Lib.hid (row_grown HR3.out hg4 (by omega))
    have HG4 := Lib.hid (grown_tr HG3.out hg4)
    have HD4 := Lib.hid hd4
    have HIT4 := Lib.hid hit'
    have HST4 := Lib.hid hst'
    clear hit' hst' hd4 hg4
    have z0 : w4.cell? ⟨w.heap.size, 0, none⟩ = some (.slice none 0 0) := by rw [cell_of_row _ _ _ _ _ _ HR4.out]; rfl
    have z1 : w4.cell? ⟨w.heap.size, 1, none⟩ = some (.slice none 0 0) := by rw [cell_of_row _ _ _ _ _ _ HR4.out]; rfl
    have zf0 := frozen_of_row w4 w.heap.size 0 _ _ HR4.out
    have zf1 := frozen_of_row w4 w.heap.size 1 _ _ HR4.out
    go_wp2_with fail
    exact bodyPost_ret (results_cell_row rfl _ _ w.heap.size 26 _ (0, 0) _ rfl (box2 HR4.out _ _).1 Try.underlying26 rfl rfl) rfl
      (br_close hg HG4.out (box2 HR4.out _ _).2 HD4.out (HIT4.out.frame (Nat.le_refl _) fun b hb _ => ⟨by have hb' : w3.heap.size ≤ b := hb; show w.heap.size + 1 ≤ b; omega, rfl⟩) (HST4.out.frame (Nat.le_refl _) fun b hb _ => ⟨by have hb' : w3.heap.size ≤ b := hb; show w.heap.size + 1 ≤ b; omega, rfl⟩) hts' hsz' (by omega) (by omega))

def PlRet (w : World) (e : Ending) (w' : World) : Prop :=
  ∃ (vt vb : Value) (ts : List Int) (l : List St) (a : Int), e = .returned (.tuple #[.agg #[vt, vb], .int .i64 a]) ∧ IntX w' (fun b => w.heap.size ≤ b) vt ts ∧ StX w' (fun b => w.heap.size ≤ b) vb l ∧ ts.length ≤ 700 ∧ szL l ≤ 100000 ∧ Below w.heap.size w w'

theorem pl_set {w : World} {b g : Nat} {u0 u1 : Value} (hne : b ≠ g) (h0 : w.cell? ⟨b, 0, none⟩ = some u0) (h1 : w.cell? ⟨b, 1, none⟩ = some u1) (x y : Value) :
    ((w.setCell ⟨g, 0, none⟩ x).setCell ⟨g, 1, none⟩ y).cell? ⟨b, 0, none⟩ = some u0 ∧ ((w.setCell ⟨g, 0, none⟩ x).setCell ⟨g, 1, none⟩ y).cell? ⟨b, 1, none⟩ = some u1 := by
  have e := (heap_setCell_other (w.setCell ⟨g, 0, none⟩ x) ⟨g, 1, none⟩ b y hne).trans (heap_setCell_other w ⟨g, 0, none⟩ b x hne)
  exact ⟨(World.cell?_of_block (a := ⟨b, 0, none⟩) e).trans h0, (World.cell?_of_block (a := ⟨b, 1, none⟩) e).trans h1⟩
theorem pl_close {w w3 W : World} {vt vb : Value} {ts : List Int} {l : List St} {a : Int} {lo : Nat} (h3 : Below w.heap.size w w3) (hW : w3.grownBy W (some w.heap.size)) (hT : IntX w3 (fun b => lo ≤ b) vt ts) (hB : StX w3 (fun b => lo ≤ b) vb l) (hlo : w.heap.size < lo) (ht : ts.length ≤ 700) (hl : szL l ≤ 100000) :
    PlRet w (.returned (.tuple #[.agg #[vt, vb], .int .i64 a])) W := by
  have hk : ∀ b, lo ≤ b → b < w3.heap.size → w.heap.size ≤ b ∧ W.heap[b]? = w3.heap[b]? := fun b hb hl => ⟨by omega, hW.block b hl (fun e => by injection e with e; omega)⟩
  exact ⟨vt, vb, ts, l, a, rfl, hT.frame hW.size hk, hB.frame hW.size hk, ht, hl, grown_new h3 (Nat.le_refl _) hW⟩

theorem l3Place_any (A : Option Addr) (n c : Nat) (w : World) (hb : Byt w w.heap.size A n) (hn : n ≤ 1048576) (hc : n ≤ c) :
    Calls Try.prog 75 #[.slice A n c] w (PlRet w) := by
  have HB := Lib.hid hb
  clear hb
  go_enter Try.func75, Try.ntmps75
  go_wp2_with fail
  have hA := bel_a w (.cells #[.slice none 0 0, .slice none 0 0] 26)
  have hsA : (w.alloc (.cells #[.slice none 0 0, .slice none 0 0] 26)).heap.size = w.heap.size + 1 := by simp
  refine (l17Open_any A n c _ (by rw [hsA]; exact (HB.out.keep fun b o hb => hA.cell (p := ⟨b, o, none⟩) hb).more (by omega)) hn hc).mono ?_
  rw [hsA]
  rintro e w1 ⟨rfl, hd1, hb1⟩
  have hb1' : Below (w.alloc (.cells #[.slice none 0 0, .slice none 0 0] 26)).heap.size (w.alloc (.cells #[.slice none 0 0, .slice none 0 0] 26)) w1 := by rw [hsA]; exact hb1
  have hs1 : w.heap.size + 1 < w1.heap.size := hd1.lt
  have HR1 := Lib.hid (row_below (heap_alloc_new w (.cells #[.slice none 0 0, .slice none 0 0] 26)) hb1')
  have HB1 := Lib.hid (hA.trans (hb1.mono (by omega)))
  have HD1 := Lib.hid hd1
  clear hb1 hb1' hd1 hA hsA
  go_wp2_with fail
  refine (l2Branch_any (w.heap.size + 1) 0 _ HD1.out (by omega)).mono ?_
  rintro e w2 ⟨vt, vb, ts, l, p2, rfl, hit, hst, hts, hsz, hp2, hd2, hg2⟩
  have hs2 := hg2.size
  have hA2 := bel_a w2 (.cells #[vt, vb] 26)
  have hsW : (w2.alloc (.cells #[vt, vb] 26)).heap.size = w2.heap.size + 1 := by simp
  have HR2 := Lib.hid (row_below (row_grown HR1.out hg2 (by omega)) hA2)
  have HRP := Lib.hid (heap_alloc_new w2 (.cells #[vt, vb] 26))
  have HD2 := Lib.hid (hd2.low hA2 (by omega))
  have HB2 := Lib.hid ((grown_new HB1.out (by omega) hg2).trans (hA2.mono (by omega)))
  have HIT := Lib.hid (hit.bel hA2)
  have HST := Lib.hid (hst.bel hA2)
  obtain ⟨At, ct, rfl, -⟩ := hit.slice
  obtain ⟨Ab, cb, rfl, -⟩ := hst.slice
  clear hit hst hd2 hg2 hA2
  go_wp2_with fail
  generalize w2.alloc (.cells #[.slice At ts.length ct, .slice Ab l.length cb] 26) = W2 at *
  refine (sPointsOf_any _ _ ts l _ _ HIT.out.toS HST.out.toS (Nat.le_refl _) (by omega)).mono ?_
  rintro e w3 ⟨vp, rfl, hps, hb3⟩
  obtain ⟨Ap, cp, rfl, hcp, hpl⟩ := hps.slice
  have hs3 := hb3.size
  have HR3 := Lib.hid (row_below HR2.out hb3)
  have HRP3 := Lib.hid (row_below HRP.out hb3)
  have HD3 := Lib.hid (HD2.out.low hb3 (by omega))
  have HB3 := Lib.hid (HB2.out.trans (hb3.mono (by omega)))
  have HIT3 := Lib.hid (HIT.out.bel hb3)
  have HST3 := Lib.hid (HST.out.bel hb3)
  obtain ⟨np, hnp⟩ : ∃ np, np = (pointsP ts l).length := ⟨_, rfl⟩
  rw [← hnp] at hcp hpl ⊢
  have hnp61 : np ≤ 61 := by
    rw [hnp]; unfold pointsP
    split
    · rename_i hv; exact ptsP_le hv
    · simp
  clear hps hb3 hnp
  have hw2 : w.heap.size < w2.heap.size := by omega
  have q0 : w3.cell? ⟨w2.heap.size, 0, none⟩ = some (.slice At ts.length ct) := by rw [cell_of_row _ _ _ _ _ _ HRP3.out]; rfl
  have q1 : w3.cell? ⟨w2.heap.size, 1, none⟩ = some (.slice Ab l.length cb) := by rw [cell_of_row _ _ _ _ _ _ HRP3.out]; rfl
  by_cases hz : np = 0
  · have hz1 : ((np : Int) == 0) = true := by simp [hz]
    clear hz
    go_wp2_with fail
    have CN : Calls Try.prog 70 #[.pointer (some ⟨w.heap.size + 1, 0, none⟩), .slice (some ⟨w3.heap.size, 0, none⟩) 3 3] (w3.alloc (.cells #[.int .i64 (-1), .int .i64 60, .int .i64 0] 3)).drew (fun e w' => ∃ x : Int, e = .returned (.int .i64 x) ∧ x ∈ [-1, 60, 0] ∧ Dr w' (w.heap.size + 1) (p2 + 1) ∧ (w3.alloc (.cells #[.int .i64 (-1), .int .i64 60, .int .i64 0] 3)).drew.grownBy w' (some (w.heap.size + 1))) :=
      num_any (w.heap.size + 1) _ _ [-1, 60, 0] 3 _ (HD3.out.low ((bel_a w3 (.cells #[.int .i64 (-1), .int .i64 60, .int .i64 0] 3)).drew) (by omega)) (by omega) (RowB.new w3 _ _) (by omega) (by simp) (by simp)
    have HCN := Lib.hid CN
    have HWA := Lib.hid (bel_a w3 (.cells #[.int .i64 (-1), .int .i64 60, .int .i64 0] 3)).drew
    have HSW := Lib.hid (show (w3.alloc (.cells #[.int .i64 (-1), .int .i64 60, .int .i64 0] 3)).drew.heap.size = w3.heap.size + 1 by simp)
    clear CN
    go_region_held3 (fun w' => w'.cell? ⟨w2.heap.size, 0, none⟩ = some (.slice At ts.length ct) ∧ w'.cell? ⟨w2.heap.size, 1, none⟩ = some (.slice Ab l.length cb))
      (first | exact ⟨q0, q1⟩ | exact ⟨q07, q17⟩ | exact Q9.out | assumption | go_keep)
      (first
        | (go_at_call 70; (with_reducible refine HCN.out.mono ?_); (rintro e w7 ⟨x, rfl, hx, hd7, hg7⟩); (have hs7 := hg7.size); (rw [HSW.out] at hs7); (have hr7 := row_grown (row_below HR3.out HWA.out) hg7 (by omega)); (have hrp7 := row_grown (row_below HRP3.out HWA.out) hg7 (by omega)); (have q07 : w7.cell? ⟨w2.heap.size, 0, none⟩ = some (.slice At ts.length ct) := by (rw [cell_of_row _ _ _ _ _ _ hrp7]; rfl)); (have q17 : w7.cell? ⟨w2.heap.size, 1, none⟩ = some (.slice Ab l.length cb) := by (rw [cell_of_row _ _ _ _ _ _ hrp7]; rfl)); (have z07 : w7.cell? ⟨w.heap.size, 0, none⟩ = some (.slice none 0 0) := by (rw [cell_of_row _ _ _ _ _ _ hr7]; rfl)); (have z17 : w7.cell? ⟨w.heap.size, 1, none⟩ = some (.slice none 0 0) := by (rw [cell_of_row _ _ _ _ _ _ hr7]; rfl)); (have zf07 := frozen_of_row w7 w.heap.size 0 _ _ hr7); (have zf17 := frozen_of_row w7 w.heap.size 1 _ _ hr7); (have HR9 := Lib.hid hr7); (have HG9 := Lib.hid hg7); (have Q9 := Lib.hid (pl_set (Ne.symm (Nat.ne_of_lt hw2)) q07 q17 (.slice At ts.length ct) (.slice Ab l.length cb))); clear hx hd7 hg7 hr7 hrp7)
        | fail)
    have HB9 := Lib.hid (grown_new (HB3.out.trans (HWA.out.mono HB3.out.size)) (by omega) HG9.out)
    have HIT9 := Lib.hid (((HIT3.out.bel HWA.out).grown HG9.out (by show ¬ (w1.heap.size ≤ w.heap.size + 1); omega)))
    have HST9 := Lib.hid (((HST3.out.bel HWA.out).grown HG9.out (by show ¬ (w1.heap.size ≤ w.heap.size + 1); omega)))
    go_wp2_with fail
    refine bodyPost_ret (res_box (u := 3) rfl _ _ w.heap.size 26 _ (0, 0) _ rfl (box2 HR9.out _ _).1 Try.underlying26 rfl rfl) rfl ?_
    exact (pl_close (a := x) HB9.out (box2 HR9.out _ _).2 HIT9.out HST9.out (by omega) hts hsz)

  · have hz1 : ((np : Int) == 0) = false := by simpa using hz
    have hz2 : 0 < np := by omega
    clear hz
    go_wp2_with fail
    refine (pick_any (w.heap.size + 1) p2 _ _ HD3.out (by omega) (by omega) (by omega)).mono ?_
    rintro e w4 ⟨k, rfl, -, -, hd4, hg4⟩
    have hs4 := hg4.size
    have HR4 := Lib.hid (row_grown HR3.out hg4 (by omega))
    have HRP4 := Lib.hid (row_grown HRP3.out hg4 (by omega))
    have HD4 := Lib.hid hd4
    have HB4 := Lib.hid (grown_new HB3.out (by omega) hg4)
    have HIT4 := Lib.hid (HIT3.out.grown hg4 (by show ¬ (w1.heap.size ≤ w.heap.size + 1); omega))
    have HST4 := Lib.hid (HST3.out.grown hg4 (by show ¬ (w1.heap.size ≤ w.heap.size + 1); omega))
    clear hd4 hg4 q0 q1
    have q0 : w4.cell? ⟨w2.heap.size, 0, none⟩ = some (.slice At ts.length ct) := by rw [cell_of_row _ _ _ _ _ _ HRP4.out]; rfl
    have q1 : w4.cell? ⟨w2.heap.size, 1, none⟩ = some (.slice Ab l.length cb) := by rw [cell_of_row _ _ _ _ _ _ HRP4.out]; rfl
    by_cases hk : k = 0
    · subst hk
      go_wp2_with fail
      have CN : Calls Try.prog 70 #[.pointer (some ⟨w.heap.size + 1, 0, none⟩), .slice (some ⟨w4.heap.size, 0, none⟩) 3 3] (w4.alloc (.cells #[.int .i64 (-1), .int .i64 60, .int .i64 0] 3)).drew (fun e w' => ∃ x : Int, e = .returned (.int .i64 x) ∧ x ∈ [-1, 60, 0] ∧ Dr w' (w.heap.size + 1) ((p2 + 1) + 1) ∧ (w4.alloc (.cells #[.int .i64 (-1), .int .i64 60, .int .i64 0] 3)).drew.grownBy w' (some (w.heap.size + 1))) :=
        num_any (w.heap.size + 1) _ _ [-1, 60, 0] 3 _ (HD4.out.low ((bel_a w4 (.cells #[.int .i64 (-1), .int .i64 60, .int .i64 0] 3)).drew) (by omega)) (by omega) (RowB.new w4 _ _) (by omega) (by simp) (by simp)
      have HCN := Lib.hid CN
      have HWA := Lib.hid (bel_a w4 (.cells #[.int .i64 (-1), .int .i64 60, .int .i64 0] 3)).drew
      have HSW := Lib.hid (show (w4.alloc (.cells #[.int .i64 (-1), .int .i64 60, .int .i64 0] 3)).drew.heap.size = w4.heap.size + 1 by simp)
      clear CN
      go_region_held3 (fun w' => w'.cell? ⟨w2.heap.size, 0, none⟩ = some (.slice At ts.length ct) ∧ w'.cell? ⟨w2.heap.size, 1, none⟩ = some (.slice Ab l.length cb))
        (first | exact ⟨q0, q1⟩ | exact ⟨q07, q17⟩ | exact Q9.out | assumption | go_keep)
        (first
          | (go_at_call 70; (with_reducible refine HCN.out.mono ?_); (rintro e w7 ⟨x, rfl, hx, hd7, hg7⟩); (have hs7 := hg7.size); (rw [HSW.out] at hs7); (have hr7 := row_grown (row_below HR4.out HWA.out) hg7 (by omega)); (have hrp7 := row_grown (row_below HRP4.out HWA.out) hg7 (by omega)); (have q07 : w7.cell? ⟨w2.heap.size, 0, none⟩ = some (.slice At ts.length ct) := by (rw [cell_of_row _ _ _ _ _ _ hrp7]; rfl)); (have q17 : w7.cell? ⟨w2.heap.size, 1, none⟩ = some (.slice Ab l.length cb) := by (rw [cell_of_row _ _ _ _ _ _ hrp7]; rfl)); (have z07 : w7.cell? ⟨w.heap.size, 0, none⟩ = some (.slice none 0 0) := by (rw [cell_of_row _ _ _ _ _ _ hr7]; rfl)); (have z17 : w7.cell? ⟨w.heap.size, 1, none⟩ = some (.slice none 0 0) := by (rw [cell_of_row _ _ _ _ _ _ hr7]; rfl)); (have zf07 := frozen_of_row w7 w.heap.size 0 _ _ hr7); (have zf17 := frozen_of_row w7 w.heap.size 1 _ _ hr7); (have HR9 := Lib.hid hr7); (have HG9 := Lib.hid hg7); (have Q9 := Lib.hid (pl_set (Ne.symm (Nat.ne_of_lt hw2)) q07 q17 (.slice At ts.length ct) (.slice Ab l.length cb))); clear hx hd7 hg7 hr7 hrp7)
          | fail)
      have HB9 := Lib.hid (grown_new (HB4.out.trans (HWA.out.mono HB4.out.size)) (by omega) HG9.out)
      have HIT9 := Lib.hid (((HIT4.out.bel HWA.out).grown HG9.out (by show ¬ (w1.heap.size ≤ w.heap.size + 1); omega)))
      have HST9 := Lib.hid (((HST4.out.bel HWA.out).grown HG9.out (by show ¬ (w1.heap.size ≤ w.heap.size + 1); omega)))
      go_wp2_with fail
      refine bodyPost_ret (res_box (u := 3) rfl _ _ w.heap.size 26 _ (0, 0) _ rfl (box2 HR9.out _ _).1 Try.underlying26 rfl rfl) rfl ?_
      exact (pl_close (a := x) HB9.out (box2 HR9.out _ _).2 HIT9.out HST9.out (by omega) hts hsz)

    · have hk1 : (k == 0) = false := by simpa using hk
      clear hk
      go_wp2_with fail
      have HCN := Lib.hid (pick_any (w.heap.size + 1) (p2 + 1) ((np : Nat) : Int) w4.drew (HD4.out.low (Below.refl _ _).drew (by omega)) (by omega) (by omega) (by omega))
      have HWA := Lib.hid ((Below.refl w4.heap.size w4).drew)
      have HSW := Lib.hid (show w4.drew.heap.size = w4.heap.size by simp)
      go_region_held3 (fun w' => w'.cell? ⟨w2.heap.size, 0, none⟩ = some (.slice At ts.length ct) ∧ w'.cell? ⟨w2.heap.size, 1, none⟩ = some (.slice Ab l.length cb))
        (first | exact ⟨q0, q1⟩ | exact ⟨q07, q17⟩ | exact Q9.out | assumption | go_keep)
        (first
          | (go_at_call 56; (with_reducible refine HCN.out.mono ?_); (rintro e w7 ⟨x, rfl, -, -, hd7, hg7⟩); (have hs7 := hg7.size); (rw [HSW.out] at hs7); (have hr7 := row_grown (row_below HR4.out HWA.out) hg7 (by omega)); (have hrp7 := row_grown (row_below HRP4.out HWA.out) hg7 (by omega)); (have q07 : w7.cell? ⟨w2.heap.size, 0, none⟩ = some (.slice At ts.length ct) := by (rw [cell_of_row _ _ _ _ _ _ hrp7]; rfl)); (have q17 : w7.cell? ⟨w2.heap.size, 1, none⟩ = some (.slice Ab l.length cb) := by (rw [cell_of_row _ _ _ _ _ _ hrp7]; rfl)); (have z07 : w7.cell? ⟨w.heap.size, 0, none⟩ = some (.slice none 0 0) := by (rw [cell_of_row _ _ _ _ _ _ hr7]; rfl)); (have z17 : w7.cell? ⟨w.heap.size, 1, none⟩ = some (.slice none 0 0) := by (rw [cell_of_row _ _ _ _ _ _ hr7]; rfl)); (have zf07 := frozen_of_row w7 w.heap.size 0 _ _ hr7); (have zf17 := frozen_of_row w7 w.heap.size 1 _ _ hr7); (have HR9 := Lib.hid hr7); (have HG9 := Lib.hid hg7); (have Q9 := Lib.hid (pl_set (Ne.symm (Nat.ne_of_lt hw2)) q07 q17 (.slice At ts.length ct) (.slice Ab l.length cb))); clear hd7 hg7 hr7 hrp7)
          | fail)
      have HB9 := Lib.hid (grown_new (HB4.out.trans (HWA.out.mono HB4.out.size)) (by omega) HG9.out)
      have HIT9 := Lib.hid (((HIT4.out.bel HWA.out).grown HG9.out (by show ¬ (w1.heap.size ≤ w.heap.size + 1); omega)))
      have HST9 := Lib.hid (((HST4.out.bel HWA.out).grown HG9.out (by show ¬ (w1.heap.size ≤ w.heap.size + 1); omega)))
      go_wp2_with fail
      refine bodyPost_ret (res_box (u := 3) rfl _ _ w.heap.size 26 _ (0, 0) _ rfl (box2 HR9.out _ _).1 Try.underlying26 rfl rfl) rfl ?_
      exact (pl_close (a := x) HB9.out (box2 HR9.out _ _).2 HIT9.out HST9.out (by omega) hts hsz)

end Go.Proofs.Ytmaaaiccmllnlaa

/- FnTakesOf: the draw, the plain law, the walk. -/
namespace Go.Proofs.Ytmaaaiccmllnlaa
open Go.RowKit


theorem use_two {ts : List Int} {p : Pt} {v : Nat} (hp : PtOk ts p) (h : useP ts p.op p.x p.y (v : Nat) = 2) : typeOfP ts v = 2 ∨ typeOfP ts v = 4 := by
  unfold useP at h
  repeat' split at h
  all_goals first | omega | skip
  · rename_i h8 hv
    rcases hp with h9 | h9 | h9 | h9
    · omega
    · omega
    · omega
    · left
      unfold simpleP at h9
      rw [hv]
      rw [h8] at h9
      simp at h9
      exact h9.2.1
theorem take_mem {ts : List Int} {l : List St} {i : Nat} (hi : i < (takeRes ts l).length) : ∃ v : Nat, (takeRes ts l).getD i 0 = (v : Nat) ∧ v < ts.length ∧ (ts.getD v 0 = 2 ∨ ts.getD v 0 = 4) := by
  have hm : (takeRes ts l).getD i 0 ∈ takeRes ts l := by rw [getD_lt hi]; exact List.getElem_mem hi
  generalize (takeRes ts l).getD i 0 = x at *
  unfold takeRes at hm
  split at hm
  · rename_i hv
    obtain ⟨v, h1, h2, rfl⟩ := lst_mem.1 hm
    obtain ⟨p, hp, hu⟩ := List.any_eq_true.1 h2
    refine ⟨v, rfl, h1, ?_⟩
    have := use_two (ptsP_ok hv p hp) (by simpa using hu)
    unfold typeOfP at this
    rw [if_pos (by omega)] at this
    simpa using this
  · simp at hm
theorem take_len (ts : List Int) (l : List St) : (takeRes ts l).length ≤ ts.length := by
  unfold takeRes
  split
  · exact lst_len _ _
  · simp

def LawRet (w : World) (e : Ending) (w' : World) : Prop := e = .returned (.bool true) ∧ Below w.heap.size w w'

end Go.Proofs.Ytmaaaiccmllnlaa

/- Words for the laws' walks: a drawn program in its box. The plain law of NeedsOpen. -/
namespace Go.Proofs.Ytmaaaiccmllnlaa
open Go.RowKit

/-- the program (vt, vb) lies in the box g and reads as (ts, l); what was in w is as it was -/
structure PgB (w W : World) (g : Nat) (vt vb : Value) (ts : List Int) (l : List St) : Prop where
  bel : Below w.heap.size w W
  row : W.heap[g]? = some (.cells #[vt, vb] 26 (0, 0))
  ht : IntS W W.heap.size vt ts
  hl : StS W W.heap.size vb l
theorem PgB.lt {w W : World} {g : Nat} {vt vb : Value} {ts : List Int} {l : List St} (h : PgB w W g vt vb ts l) : g < W.heap.size := row_lt h.row
theorem PgB.c0 {w W : World} {g : Nat} {vt vb : Value} {ts : List Int} {l : List St} (h : PgB w W g vt vb ts l) : W.cell? ⟨g, 0, none⟩ = some vt := by rw [cell_of_row _ _ _ _ _ _ h.row]; rfl
theorem PgB.c1 {w W : World} {g : Nat} {vt vb : Value} {ts : List Int} {l : List St} (h : PgB w W g vt vb ts l) : W.cell? ⟨g, 1, none⟩ = some vb := by rw [cell_of_row _ _ _ _ _ _ h.row]; rfl
theorem PgB.bels {w W W' : World} {g : Nat} {vt vb : Value} {ts : List Int} {l : List St} (h : PgB w W g vt vb ts l) (hb : Below W.heap.size W W') : PgB w W' g vt vb ts l :=
  ⟨h.bel.trans (hb.mono h.bel.size), row_below h.row hb, (h.ht.low hb (Nat.le_refl _)).more hb.size, (h.hl.low hb (Nat.le_refl _)).more hb.size⟩
theorem PgB.new {w w1 : World} {vt vb : Value} {ts : List Int} {l : List St} {P Q : Nat → Prop} (ht : IntX w1 P vt ts) (hl : StX w1 Q vb l) (hb : Below w.heap.size w w1) : PgB w (w1.alloc (.cells #[vt, vb] 26)) w1.heap.size vt vb ts l := by
  have hA := bel_a w1 (.cells #[vt, vb] 26)
  exact ⟨hb.trans (hA.mono hb.size), heap_alloc_new w1 _, ((ht.toS).low hA (Nat.le_refl _)).more hA.size, ((hl.toS).low hA (Nat.le_refl _)).more hA.size⟩
theorem IntS.bel {w w' : World} {v : Value} {l : List Int} (h : IntS w w.heap.size v l) (hb : Below w.heap.size w w') : IntS w' w'.heap.size v l := (h.low hb (Nat.le_refl _)).more hb.size
theorem PtS.bel {w w' : World} {v : Value} {pts : List Pt} (h : PtS w w.heap.size v pts) (hb : Below w.heap.size w w') : PtS w' w'.heap.size v pts := (h.low hb (Nat.le_refl _)).more hb.size

theorem graphOk_zero {ts : List Int} {l : List St} : graphOk ts l [0] = validP ts l := by
  have := ptsP_pos l
  simp only [graphOk, List.all_cons, List.all_nil, Bool.and_true, withinP]
  cases validP ts l
  · rfl
  · simp; omega
theorem ptAt_zero {l : List St} : ptAt (ptsP l) 0 = (ptsP l)[0]'(ptsP_pos l) := ptAt_nat (k := 0) (ptsP_pos l)
theorem nd_step {ts : List Int} {pts : List Pt} {i v : Nat} {p : Pt} (hp : pts[i]? = some p) (hv : v < ts.length) :
    dec (Nd ts pts i v) = ((useP ts p.op p.x p.y (v : Nat) != 0) || ((setsP p.op p.x != (v : Nat)) && p.next.any fun j => dec (Nd ts pts j v))) := by
  rw [Bool.eq_iff_iff, dec_iff, Bool.or_eq_true, Bool.and_eq_true, List.any_eq_true]
  constructor
  · intro h
    cases h with
    | use hp' _ hu => rw [hp] at hp'; injection hp' with hp'; subst hp'; left; simpa using hu
    | flow hp' hk hd hs => rw [hp] at hp'; injection hp' with hp'; subst hp'; exact .inr ⟨by simpa using hs, _, hk, dec_true hd⟩
  · rintro (h | ⟨hs, k, hk, hd⟩)
    · exact .use hp hv (by simpa using h)
    · exact .flow hp hk (dec_iff.1 hd) (by simpa using hs)
theorem liveAt_has {ts : List Int} {pts : List Pt} {i v : Nat} {p : Pt} (hp : pts[i]? = some p) (hv : v < ts.length) : hasP (liveAt ts pts i) v = p.next.any fun j => dec (Nd ts pts j v) := by
  unfold liveAt
  rw [lst_has, decide_eq_true hv, Bool.true_and, hp]
theorem needs_open (ts : List Int) (l : List St) {v : Nat} (hv : v < ts.length) : hasP (needRes ts l) v = ((useRes ts l 0 v != 0) || ((setRes ts l 0 != v) && hasP (liveRes ts l 0) v)) := by
  unfold needRes useRes setRes liveRes
  rw [graphOk_zero]
  cases hval : validP ts l
  · simp [hasP]
  · have hw : withinP (v : Nat) 0 ((ts.length : Int) - 1) = true := by unfold withinP; simp; omega
    have hp0 := ptsP_pos l
    have hp : (ptsP l)[0]? = some (ptsP l)[0] := List.getElem?_eq_getElem hp0
    simp only [if_true, hw, and_self]
    rw [lst_has, decide_eq_true hv, Bool.true_and, nd_step hp hv, ptAt_zero, show (0 : Int).toNat = 0 from rfl, liveAt_has hp hv]

end Go.Proofs.Ytmaaaiccmllnlaa

/- spec.l14Case and the draws that hand it on. -/
namespace Go.Proofs.Ytmaaaiccmllnlaa
open Go.RowKit

/-- below 'base' only block g has turned -/
structure Gb (base g : Nat) (W w : World) : Prop where
  os : w.os = W.os
  tape : w.tape = W.tape
  output : w.output = W.output
  size : W.heap.size ≤ w.heap.size
  block : ∀ b, b < base → b ≠ g → w.heap[b]? = W.heap[b]?
theorem Gb.refl (base g : Nat) (W : World) : Gb base g W W := ⟨rfl, rfl, rfl, Nat.le_refl _, fun _ _ _ => rfl⟩
theorem Gb.bel {base g : Nat} {W a b : World} (h : Gb base g W a) (k : Below base a b) : Gb base g W b :=
  ⟨k.os.trans h.os, k.tape.trans h.tape, k.output.trans h.output, Nat.le_trans h.size k.size, fun i hi hne => (k.block i hi).trans (h.block i hi hne)⟩
theorem Gb.pick {base g : Nat} {W a b : World} (h : Gb base g W a) (hb : base ≤ W.heap.size) (k : a.grownBy b (some g)) : Gb base g W b :=
  ⟨k.os.trans h.os, k.tape.trans h.tape, k.output.trans h.output, Nat.le_trans h.size k.size, fun i hi hne => (k.block i (by have := h.size; omega) (fun e => hne (Option.some.inj e))).trans (h.block i hi hne)⟩
theorem Gb.toBel {base g : Nat} {W a w : World} (h : Gb base g W a) (hw : Below w.heap.size w W) (hg : w.heap.size ≤ g) (hb : w.heap.size ≤ base) : Below w.heap.size w a :=
  ⟨h.os.trans hw.os, h.tape.trans hw.tape, h.output.trans hw.output, Nat.le_trans hw.size h.size, fun k hk => (h.block k (by omega) (by omega)).trans (hw.block k hk)⟩
theorem OInts.pick {w w' : World} {base g : Nat} {v : Value} {l : List Int} (h : OInts w base v l) (hg : g < base) (k : w.grownBy w' (some g)) : OInts w' base v l :=
  World.ownsRow.kept h k (.inr (by
    cases e : v.ownBlock with
    | none => simp
    | some b => intro e'; injection e' with e'; have := (World.ownsRow.lt h b e).1; omega))

def CaRet (w : World) (e : Ending) (w' : World) : Prop :=
  ∃ (vt vb v : Value) (ts : List Int) (l : List St) (gv : List Int), e = .returned (.tuple #[.agg #[vt, vb], v]) ∧ IntX w' (fun b => w.heap.size ≤ b) vt ts ∧ StX w' (fun b => w.heap.size ≤ b) vb l ∧ ts.length ≤ 700 ∧ szL l ≤ 100000 ∧ IntX w' (fun b => w.heap.size ≤ b) v gv ∧ gv.length ≤ 1000 ∧ Below w.heap.size w w'

theorem ca_close {w W a W' : World} {g w1s : Nat} {vt vb v : Value} {ts gv : List Int} {l : List St} (hB : Below w.heap.size w W) (hG : Gb W.heap.size g W a) (hW : a.grownBy W' (some w.heap.size)) (hT : IntX W (fun b => w1s ≤ b) vt ts) (hL : StX W (fun b => w1s ≤ b) vb l) (hO : OInts a W.heap.size v gv)
    (h1 : w.heap.size < w1s) (h2 : w.heap.size ≤ g ∧ g < w1s) (h3 : w1s ≤ W.heap.size) (ht : ts.length ≤ 700) (hl : szL l ≤ 100000) (hgl : gv.length ≤ 1000) : CaRet w (.returned (.tuple #[.agg #[vt, vb], v])) W' := by
  have hbs := hB.size
  have hGs := hG.size
  have hk : ∀ b, w1s ≤ b → b < W.heap.size → w.heap.size ≤ b ∧ W'.heap[b]? = W.heap[b]? := fun b hb hl => ⟨by omega, (hW.block b (by omega) (fun e => by injection e with e; omega)).trans (hG.block b hl (by omega))⟩
  have hs : W.heap.size ≤ W'.heap.size := Nat.le_trans hGs hW.size
  have hX := (hO.toX (by omega)).frame (P' := fun b => w.heap.size ≤ b) (w' := W') hW.size fun b hb hl => ⟨by omega, hW.block b hl (fun e => by injection e with e; omega)⟩
  exact ⟨vt, vb, v, ts, l, gv, rfl, hT.frame hs hk, hL.frame hs hk, ht, hl, hX, hgl, grown_new (hG.toBel hB h2.1 hbs) (Nat.le_refl _) hW⟩

set_option maxHeartbeats 4000000
set_option maxRecDepth 100000

theorem ca_end {w a W' : World} {vt vb v : Value} {ts gv : List Int} {l : List St} (hB : Below w.heap.size w a) (hW : a.grownBy W' (some w.heap.size)) (hT : IntX a (fun b => w.heap.size + 1 ≤ b) vt ts) (hL : StX a (fun b => w.heap.size + 1 ≤ b) vb l) (hO : IntX a (fun b => w.heap.size + 1 ≤ b) v gv)
    (ht : ts.length ≤ 700) (hl : szL l ≤ 100000) (hgl : gv.length ≤ 1000) : CaRet w (.returned (.tuple #[.agg #[vt, vb], v])) W' := by
  have hk : ∀ b, w.heap.size + 1 ≤ b → b < a.heap.size → w.heap.size ≤ b ∧ W'.heap[b]? = a.heap[b]? := fun b hb hl => ⟨by omega, hW.block b hl (fun e => by injection e with e; omega)⟩
  exact ⟨vt, vb, v, ts, l, gv, rfl, hT.frame hW.size hk, hL.frame hW.size hk, ht, hl, hO.frame hW.size hk, hgl, grown_new hB (Nat.le_refl _) hW⟩



end Go.Proofs.Ytmaaaiccmllnlaa

/- the draws of a program and small numbers (spec.l10Case and what stands on it). -/
namespace Go.Proofs.Ytmaaaiccmllnlaa
open Go.RowKit

def D2Ret (w : World) (e : Ending) (w' : World) : Prop :=
  ∃ (vt vb : Value) (ts : List Int) (l : List St) (a v : Int), e = .returned (.tuple #[.agg #[vt, vb], .int .i64 a, .int .i64 v]) ∧ IntX w' (fun b => w.heap.size ≤ b) vt ts ∧ StX w' (fun b => w.heap.size ≤ b) vb l ∧ ts.length ≤ 700 ∧ szL l ≤ 100000 ∧ Below w.heap.size w w'
def D3Ret (w : World) (e : Ending) (w' : World) : Prop :=
  ∃ (vt vb : Value) (ts : List Int) (l : List St) (a v u : Int), e = .returned (.tuple #[.agg #[vt, vb], .int .i64 a, .int .i64 v, .int .i64 u]) ∧ IntX w' (fun b => w.heap.size ≤ b) vt ts ∧ StX w' (fun b => w.heap.size ≤ b) vb l ∧ ts.length ≤ 700 ∧ szL l ≤ 100000 ∧ Below w.heap.size w w'
/-- what the ends of these draws need -/
structure DsE (w W : World) (vt vb : Value) (ts : List Int) (l : List St) : Prop where
  ht : IntX W (fun b => w.heap.size ≤ b) vt ts
  hl : StX W (fun b => w.heap.size ≤ b) vb l
  bel : Below w.heap.size w W
theorem DsE.mk' {w w3 W : World} {vt vb : Value} {ts : List Int} {l : List St} {lo : Nat} (h3 : Below w.heap.size w w3) (hW : w3.grownBy W (some w.heap.size)) (hT : IntX w3 (fun b => lo ≤ b) vt ts) (hB : StX w3 (fun b => lo ≤ b) vb l) (hlo : w.heap.size < lo) : DsE w W vt vb ts l := by
  have hk : ∀ b, lo ≤ b → b < w3.heap.size → w.heap.size ≤ b ∧ W.heap[b]? = w3.heap[b]? := fun b hb hl => ⟨by omega, hW.block b hl (fun e => by injection e with e; omega)⟩
  exact ⟨hT.frame hW.size hk, hB.frame hW.size hk, grown_new h3 (Nat.le_refl _) hW⟩

theorem res_box2 {P : Program} {fn : Func} {p u u2 : Tmp} {ty : TypeId} (h : fn.results = #[.cell p ty, .tmp u, .tmp u2]) (tmps : Array Value) (w : World) (g : Nat) (t : TypeId) (cs : Array Value) (fr : Nat × Nat) (d : TypeDesc)
    (hp : tmps.getD p undef = .pointer (some ⟨g, 0, none⟩)) (hg : w.heap[g]? = some (.cells cs t fr))
    (hu : P.underlying ty = some d) (hd : (match d with | .struct _ | .array _ _ => true | _ => false) = true) (hi : (P.info? ty).map (·.size) = some cs.size) :
    (results fn tmps).run P w = .ok (.tuple #[.agg cs, tmps.getD u undef, tmps.getD u2 undef]) w := by
  simp only [results, h]
  simp [Sem.run_bind, Result.andThen, asAddr]
  rw [← Array.getD_eq_getD_getElem?, hp]
  simp [run_loadVar_row w g t ty cs fr d hg hu hd hi]
theorem res_box3 {P : Program} {fn : Func} {p u u2 u3 : Tmp} {ty : TypeId} (h : fn.results = #[.cell p ty, .tmp u, .tmp u2, .tmp u3]) (tmps : Array Value) (w : World) (g : Nat) (t : TypeId) (cs : Array Value) (fr : Nat × Nat) (d : TypeDesc)
    (hp : tmps.getD p undef = .pointer (some ⟨g, 0, none⟩)) (hg : w.heap[g]? = some (.cells cs t fr))
    (hu : P.underlying ty = some d) (hd : (match d with | .struct _ | .array _ _ => true | _ => false) = true) (hi : (P.info? ty).map (·.size) = some cs.size) :
    (results fn tmps).run P w = .ok (.tuple #[.agg cs, tmps.getD u undef, tmps.getD u2 undef, tmps.getD u3 undef]) w := by
  simp only [results, h]
  simp [Sem.run_bind, Result.andThen, asAddr]
  rw [← Array.getD_eq_getD_getElem?, hp]
  simp [run_loadVar_row w g t ty cs fr d hg hu hd hi]
theorem belC {B : Nat} {w w' : World} {b o : Nat} {x : Option Value} (h : Below B w w') (e : w.cell? ⟨b, o, none⟩ = x) (hb : b < B) : w'.cell? ⟨b, o, none⟩ = x := (h.cell (p := ⟨b, o, none⟩) hb).trans e







end Go.Proofs.Ytmaaaiccmllnlaa
