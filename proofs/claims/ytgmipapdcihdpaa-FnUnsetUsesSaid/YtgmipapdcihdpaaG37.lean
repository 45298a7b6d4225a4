import Derived.Test.YtgmipapdcihdpaaG33
import Derived.Test.YtgmipapdcihdpaaG36
set_option linter.unusedVariables false

/- spec.l2Branch, l3Place, the draws of the flow laws. -/
namespace Go.Proofs.Ytgmipapdcihdpaa
open Go.RowKit

def BrRet (w : World) (g p : Nat) (e : Ending) (w' : World) : Prop :=
  ∃ (vt vb : Value) (ts : List Int) (l : List St) (p' : Nat), e = .returned (.agg #[vt, vb]) ∧ IntX w' (fun b => w.heap.size ≤ b) vt ts ∧ StX w' (fun b => w.heap.size ≤ b) vb l ∧ ts.length ≤ 700 ∧ szL l ≤ 100000 ∧ p' ≤ p + 720 ∧ Dr w' g p' ∧ w.grownBy w' (some g)
theorem br_close {w w3 W : World} {g p p' : Nat} {vt vb : Value} {ts : List Int} {l : List St} (hg : g < w.heap.size) (h3 : w.grownBy w3 (some g)) (hW : w3.grownBy W (some w.heap.size)) (hd : Dr w3 g p') (hT : IntX w3 (fun b => w.heap.size + 1 ≤ b) vt ts) (hB : StX w3 (fun b => w.heap.size + 1 ≤ b) vb l) (ht : ts.length ≤ 700) (hl : szL l ≤ 100000) (hp : p' ≤ p + 720) (hlt : w.heap.size < w3.heap.size) :
    BrRet w g p (.returned (.agg #[vt, vb])) W := by
  have hk : ∀ b, w.heap.size + 1 ≤ b → b < w3.heap.size → w.heap.size ≤ b ∧ W.heap[b]? = w3.heap[b]? := fun b hb hl => ⟨by omega, hW.block b hl (fun e => by injection e with e; omega)⟩
  exact ⟨vt, vb, ts, l, p', rfl, hT.frame hW.size hk, hB.frame hW.size hk, ht, hl, hp, hd.low (grown_below hW hlt) hg, grown_base h3 (grown_below hW hlt)⟩

set_option maxHeartbeats 4000000
set_option maxRecDepth 100000
theorem l2Branch_any (g p : Nat) (w : World) (hd : Dr w g p) (hp : p + 720 ≤ 1000000) : Calls Try.prog 71 #[.pointer (some ⟨g, 0, none⟩)] w (BrRet w g p) := by
  have hg := hd.lt
  have HD := Lib.hid hd
  clear hd
  go_enter Try.func71, Try.ntmps71
  go_wp2_with fail
  refine (texts_any _).mono ?_
  rintro e w1 ⟨tl, rfl, htl, hok, hrow, hb1⟩
  have hs1 := hb1.size
  have hsa : (w.alloc (.cells #[.slice none 0 0, .slice none 0 0] 26)).heap.size = w.heap.size + 1 := by simp
  have hr0 := row_below (heap_alloc_new w (.cells #[.slice none 0 0, .slice none 0 0] 26)) hb1
  have HR0 := Lib.hid hr0
  have hlt1 := hrow.lt
  have HTX := Lib.hid hrow
  have HOK := Lib.hid hok
  have HTL := Lib.hid htl
  have HD1 := Lib.hid ((HD.out.low (bel_a w _) hg).low hb1 (by simp; omega))
  have HG1 := Lib.hid (grown_below' (grown_bel (bel_a w (.cells #[.slice none 0 0, .slice none 0 0] 26)) (Nat.le_refl _) (some g)) hb1)
  clear hb1 hr0 hrow hok htl
  rw [hsa] at hs1 hlt1 HTX ⊢
  clear hsa
  go_wp2_with fail
  refine (pick_any g p _ _ HD1.out (by omega) (by omega) (by omega)).mono ?_
  rintro e w2 ⟨k, rfl, k0, k1, hd2, hg2⟩
  have HR2 := Lib.hid (row_grown HR0.out hg2 (by omega))
  have HTX2 := Lib.hid (row_grown HTX.out hg2 (by omega))
  have HD2 := Lib.hid hd2
  have HG2 := Lib.hid (grown_tr HG1.out hg2)
  have hs2 := hg2.size
  clear hd2 hg2 k1
  by_cases hk : k = 0
  · subst hk
    go_wp2_with fail
    refine (pick_any g (p + 1) _ _ HD2.out (by omega) (by omega) (by omega)).mono ?_
    rintro e w3 ⟨j, rfl, j0, j1, hd3, hg3⟩
    have j2 := j1 (by omega)
    clear j1
    obtain ⟨j, rfl⟩ := Int.eq_ofNat_of_zero_le j0
    have hj : j < 8 := by omega
    obtain ⟨s, hs, hs600⟩ := strOk_get HOK.out (k := 9 + j) (by rw [HTL.out]; omega)
    have hr := row_grown HTX2.out hg3 (by omega)
    have hck : w3.cell? ⟨w.heap.size + 1, 9 + j, none⟩ = some (.string s) := (cell_of_row _ _ (9 + j) _ _ _ hr).trans (by simpa using hs)
    have hix : (9 : Int) + (j : Int) = ((9 + j : Nat) : Int) := by omega
    have hjl : (9 + j : Nat) < 25 := by omega
    have HD3 := Lib.hid hd3
    have HG3 := Lib.hid (grown_tr HG2.out hg3)
    have HR3 := Lib.hid (row_grown HR2.out hg3 (by omega))
    have hs3 := hg3.size
    clear hr hs hd3 hg3 hix
    go_wp2_with fail
    refine (parseProgram_any s _ hs600).mono ?_
    rintro e w4 ⟨vt, vb, ts, l, okb, rfl, hit, hsb, hlt, hlb, hb4⟩
    have hs4 := hb4.size
    have hA4 := bel_a w4 (.cells #[vt, vb] 26)
    have hsW : (w4.alloc (.cells #[vt, vb] 26)).heap.size = w4.heap.size + 1 := by simp
    have HR4 := Lib.hid (row_below (row_below HR3.out hb4) hA4)
    have HD4 := Lib.hid ((HD3.out.low hb4 HD3.out.lt).low hA4 (by omega))
    have HG4 := Lib.hid (grown_alloc (grown_below' HG3.out hb4) (.cells #[vt, vb] 26))
    have HIT := Lib.hid (hit.bel hA4)
    have HST := Lib.hid (hsb.bel hA4)
    obtain ⟨At, ct, rfl, -⟩ := hit.slice
    obtain ⟨Ab, cb, rfl, -⟩ := hsb.slice
    clear hit hsb hb4 hck hA4
    go_wp2_with fail
    generalize w4.alloc (.cells #[.slice At ts.length ct, .slice Ab l.length cb] 26) = W4 at *
    refine (mutate_any g (p + 1 + 1) _ _ ts l _ _ HIT.out.toS HST.out.toS (Nat.le_refl _) hlt hlb HD4.out (by omega)).mono ?_
    rintro e w5 ⟨vt', vb', ts', l', p5, rfl, hit', hst', hts', hsz', hp5, hd5, hg5⟩
    obtain ⟨At', ct', rfl, -⟩ := hit'.slice
    obtain ⟨Ab', cb', rfl, -⟩ := hst'.slice
    have hs5 := hg5.size
    have HR5 := Lib.hid (row_grown HR4.out hg5 (by omega))
    have HG5 := Lib.hid (grown_tr HG4.out hg5)
    have HD5 := Lib.hid hd5
    have HIT5 := Lib.hid hit'
    have HST5 := Lib.hid hst'
    clear hit' hst' hd5 hg5
    have z0 : w5.cell? ⟨w.heap.size, 0, none⟩ = some (.slice none 0 0) := by rw [cell_of_row _ _ _ _ _ _ HR5.out]; rfl
    have z1 : w5.cell? ⟨w.heap.size, 1, none⟩ = some (.slice none 0 0) := by rw [cell_of_row _ _ _ _ _ _ HR5.out]; rfl
    have zf0 := frozen_of_row w5 w.heap.size 0 _ _ HR5.out
    have zf1 := frozen_of_row w5 w.heap.size 1 _ _ HR5.out
    go_wp2_with fail
    exact bodyPost_ret (results_cell_row rfl _ _ w.heap.size 26 _ (0, 0) _ rfl (box2 HR5.out _ _).1 Try.underlying26 rfl rfl) rfl
      (br_close hg HG5.out (box2 HR5.out _ _).2 HD5.out (HIT5.out.frame (Nat.le_refl _) fun b hb _ => ⟨by have hb' : W4.heap.size ≤ b := hb; show w.heap.size + 1 ≤ b; omega, rfl⟩) (HST5.out.frame (Nat.le_refl _) fun b hb _ => ⟨by have hb' : W4.heap.size ≤ b := hb; show w.heap.size + 1 ≤ b; omega, rfl⟩) hts' hsz' (by omega) (by omega))
  · have hk1 : (k == 0) = false := by simpa using hk
    clear hk
    go_wp2_with fail
    refine (l1Draw_any g (p + 1) _ HD2.out (by omega)).mono ?_
    rintro e w3 ⟨vt, vb, ts, l, p3, rfl, hit, hst, hts, hsz, hp3, hd3, hg3⟩
    have HR3 := Lib.hid (row_grown HR2.out hg3 (by omega))
    have HG3 := Lib.hid (grown_tr HG2.out hg3)
    have hs3 := hg3.size
    have HD3 := Lib.hid hd3
    have HIT := Lib.hid hit
    have HST := Lib.hid hst
    clear hit hst hd3 hg3
    go_wp2_with fail
    refine (mutate_any g p3 _ _ ts l _ _ HIT.out.toS HST.out.toS (Nat.le_refl _) hts hsz HD3.out (by omega)).mono ?_
    rintro e w4 ⟨vt', vb', ts', l', p4, rfl, hit', hst', hts', hsz', hp4, hd4, hg4⟩
    obtain ⟨At, ct, rfl, -⟩ := hit'.slice
    obtain ⟨Ab, cb, rfl, -⟩ := hst'.slice
    have hs4 := hg4.size
    have HR4 := Lib.hid (row_grown HR3.out hg4 (by omega))
    have HG4 := Lib.hid (grown_tr HG3.out hg4)
    have HD4 := Lib.hid hd4
    have HIT4 := Lib.hid hit'
    have HST4 := Lib.hid hst'
    clear hit' hst' hd4 hg4
    have z0 : w4.cell? ⟨w.heap.size, 0, none⟩ = some (.slice none 0 0) := by rw [cell_of_row _ _ _ _ _ _ HR4.out]; rfl
    have z1 : w4.cell? ⟨w.heap.size, 1, none⟩ = some (.slice none 0 0) := by rw [cell_of_row _ _ _ _ _ _ HR4.out]; rfl
    have zf0 := frozen_of_row w4 w.heap.size 0 _ _ HR4.out
    have zf1 := frozen_of_row w4 w.heap.size 1 _ _ HR4.out
    go_wp2_with fail
    exact bodyPost_ret (results_cell_row rfl _ _ w.heap.size 26 _ (0, 0) _ rfl (box2 HR4.out _ _).1 Try.underlying26 rfl rfl) rfl
      (br_close hg HG4.out (box2 HR4.out _ _).2 HD4.out (HIT4.out.frame (Nat.le_refl _) fun b hb _ => ⟨by have hb' : w3.heap.size ≤ b := hb; show w.heap.size + 1 ≤ b; omega, rfl⟩) (HST4.out.frame (Nat.le_refl _) fun b hb _ => ⟨by have hb' : w3.heap.size ≤ b := hb; show w.heap.size + 1 ≤ b; omega, rfl⟩) hts' hsz' (by omega) (by omega))

def PlRet (w : World) (e : Ending) (w' : World) : Prop :=
  ∃ (vt vb : Value) (ts : List Int) (l : List St) (a : Int), e = .returned (.tuple #[.agg #[vt, vb], .int .i64 a]) ∧ IntX w' (fun b => w.heap.size ≤ b) vt ts ∧ StX w' (fun b => w.heap.size ≤ b) vb l ∧ ts.length ≤ 700 ∧ szL l ≤ 100000 ∧ Below w.heap.size w w'

theorem pl_set {w : World} {b g : Nat} {u0 u1 : Value} (hne : b ≠ g) (h0 : w.cell? ⟨b, 0, none⟩ = some u0) (h1 : w.cell? ⟨b, 1, none⟩ = some u1) (x y : Value) :
    ((w.setCell ⟨g, 0, none⟩ x).setCell ⟨g, 1, none⟩ y).cell? ⟨b, 0, none⟩ = some u0 ∧ ((w.setCell ⟨g, 0, none⟩ x).setCell ⟨g, 1, none⟩ y).cell? ⟨b, 1, none⟩ = some u1 := by
  have e := (heap_setCell_other (w.setCell ⟨g, 0, none⟩ x) ⟨g, 1, none⟩ b y hne).trans (heap_setCell_other w ⟨g, 0, none⟩ b x hne)
  exact ⟨(World.cell?_of_block (a := ⟨b, 0, none⟩) e).trans h0, (World.cell?_of_block (a := ⟨b, 1, none⟩) e).trans h1⟩
theorem pl_close {w w3 W : World} {vt vb : Value} {ts : List Int} {l : List St} {a : Int} {lo : Nat} (h3 : Below w.heap.size w w3) (hW : w3.grownBy W (some w.heap.size)) (hT : IntX w3 (fun b => lo ≤ b) vt ts) (hB : StX w3 (fun b => lo ≤ b) vb l) (hlo : w.heap.size < lo) (ht : ts.length ≤ 700) (hl : szL l ≤ 100000) :
    PlRet w (.returned (.tuple #[.agg #[vt, vb], .int .i64 a])) W := by
  have hk : ∀ b, lo ≤ b → b < w3.heap.size → w.heap.size ≤ b ∧ W.heap[b]? = w3.heap[b]? := fun b hb hl => ⟨by omega, hW.block b hl (fun e => by injection e with e; omega)⟩
  exact ⟨vt, vb, ts, l, a, rfl, hT.frame hW.size hk, hB.frame hW.size hk, ht, hl, grown_new h3 (Nat.le_refl _) hW⟩

theorem l3Place_any (A : Option Addr) (n c : Nat) (w : World) (hb : Byt w w.heap.size A n) (hn : n ≤ 1048576) (hc : n ≤ c) :
    Calls Try.prog 64 #[.slice A n c] w (PlRet w) := by
  have HB := Lib.hid hb
  clear hb
  go_enter Try.func64, Try.ntmps64
  go_wp2_with fail
  have hA := bel_a w (.cells #[.slice none 0 0, .slice none 0 0] 26)
  have hsA : (w.alloc (.cells #[.slice none 0 0, .slice none 0 0] 26)).heap.size = w.heap.size + 1 := by simp
  refine (l17Open_any A n c _ (by rw [hsA]; exact (HB.out.keep fun b o hb => hA.cell (p := ⟨b, o, none⟩) hb).more (by omega)) hn hc).mono ?_
  rw [hsA]
  rintro e w1 ⟨rfl, hd1, hb1⟩
  have hb1' : Below (w.alloc (.cells #[.slice none 0 0, .slice none 0 0] 26)).heap.size (w.alloc (.cells #[.slice none 0 0, .slice none 0 0] 26)) w1 := by rw [hsA]; exact hb1
  have hs1 : w.heap.size + 1 < w1.heap.size := hd1.lt
  have HR1 := Lib.hid (row_below (heap_alloc_new w (.cells #[.slice none 0 0, .slice none 0 0] 26)) hb1')
  have HB1 := Lib.hid (hA.trans (hb1.mono (by omega)))
  have HD1 := Lib.hid hd1
  clear hb1 hb1' hd1 hA hsA
  go_wp2_with fail
  refine (l2Branch_any (w.heap.size + 1) 0 _ HD1.out (by omega)).mono ?_
  rintro e w2 ⟨vt, vb, ts, l, p2, rfl, hit, hst, hts, hsz, hp2, hd2, hg2⟩
  have hs2 := hg2.size
  have hA2 := bel_a w2 (.cells #[vt, vb] 26)
  have hsW : (w2.alloc (.cells #[vt, vb] 26)).heap.size = w2.heap.size + 1 := by simp
  have HR2 := Lib.hid (row_below (row_grown HR1.out hg2 (by omega)) hA2)
  have HRP := Lib.hid (heap_alloc_new w2 (.cells #[vt, vb] 26))
  have HD2 := Lib.hid (hd2.low hA2 (by omega))
  have HB2 := Lib.hid ((grown_new HB1.out (by omega) hg2).trans (hA2.mono (by omega)))
  have HIT := Lib.hid (hit.bel hA2)
  have HST := Lib.hid (hst.bel hA2)
  obtain ⟨At, ct, rfl, -⟩ := hit.slice
  obtain ⟨Ab, cb, rfl, -⟩ := hst.slice
  clear hit hst hd2 hg2 hA2
  go_wp2_with fail
  generalize w2.alloc (.cells #[.slice At ts.length ct, .slice Ab l.length cb] 26) = W2 at *
  refine (sPointsOf_any _ _ ts l _ _ HIT.out.toS HST.out.toS (Nat.le_refl _) (by omega)).mono ?_
  rintro e w3 ⟨vp, rfl, hps, hb3⟩
  obtain ⟨Ap, cp, rfl, hcp, hpl⟩ := hps.slice
  have hs3 := hb3.size
  have HR3 := Lib.hid (row_below HR2.out hb3)
  have HRP3 := Lib.hid (row_below HRP.out hb3)
  have HD3 := Lib.hid (HD2.out.low hb3 (by omega))
  have HB3 := Lib.hid (HB2.out.trans (hb3.mono (by omega)))
  have HIT3 := Lib.hid (HIT.out.bel hb3)
  have HST3 := Lib.hid (HST.out.bel hb3)
  obtain ⟨np, hnp⟩ : ∃ np, np = (pointsP ts l).length := ⟨_, rfl⟩
  rw [← hnp] at hcp hpl ⊢
  have hnp61 : np ≤ 61 := by
    rw [hnp]; unfold pointsP
    split
    · rename_i hv; exact ptsP_le hv
    · simp
  clear hps hb3 hnp
  have hw2 : w.heap.size < w2.heap.size := by omega
  have q0 : w3.cell? ⟨w2.heap.size, 0, none⟩ = some (.slice At ts.length ct) := by rw [cell_of_row _ _ _ _ _ _ HRP3.out]; rfl
  have q1 : w3.cell? ⟨w2.heap.size, 1, none⟩ = some (.slice Ab l.length cb) := by rw [cell_of_row _ _ _ _ _ _ HRP3.out]; rfl
  by_cases hz : np = 0
  · have hz1 : ((np : Int) == 0) = true := by simp [hz]
    clear hz
    go_wp2_with fail
    have CN : Calls Try.prog 81 #[.pointer (some ⟨w.heap.size + 1, 0, none⟩), .slice (some ⟨w3.heap.size, 0, none⟩) 3 3] (w3.alloc (.cells #[.int .i64 (-1), .int .i64 60, .int .i64 0] 3)).drew (fun e w' => ∃ x : Int, e = .returned (.int .i64 x) ∧ x ∈ [-1, 60, 0] ∧ Dr w' (w.heap.size + 1) (p2 + 1) ∧ (w3.alloc (.cells #[.int .i64 (-1), .int .i64 60, .int .i64 0] 3)).drew.grownBy w' (some (w.heap.size + 1))) :=
      num_any (w.heap.size + 1) _ _ [-1, 60, 0] 3 _ (HD3.out.low ((bel_a w3 (.cells #[.int .i64 (-1), .int .i64 60, .int .i64 0] 3)).drew) (by omega)) (by omega) (RowB.new w3 _ _) (by omega) (by simp) (by simp)
    have HCN := Lib.hid CN
    have HWA := Lib.hid (bel_a w3 (.cells #[.int .i64 (-1), .int .i64 60, .int .i64 0] 3)).drew
    have HSW := Lib.hid (show (w3.alloc (.cells #[.int .i64 (-1), .int .i64 60, .int .i64 0] 3)).drew.heap.size = w3.heap.size + 1 by simp)
    clear CN
    go_region_held3 (fun w' => w'.cell? ⟨w2.heap.size, 0, none⟩ = some (.slice At ts.length ct) ∧ w'.cell? ⟨w2.heap.size, 1, none⟩ = some (.slice Ab l.length cb))
      (first | exact ⟨q0, q1⟩ | exact ⟨q07, q17⟩ | exact Q9.out | assumption | go_keep)
      (first
        | (go_at_call 81; (with_reducible refine HCN.out.mono ?_); (rintro e w7 ⟨x, rfl, hx, hd7, hg7⟩); (have hs7 := hg7.size); (rw [HSW.out] at hs7); (have hr7 := row_grown (row_below HR3.out HWA.out) hg7 (by omega)); (have hrp7 := row_grown (row_below HRP3.out HWA.out) hg7 (by omega)); (have q07 : w7.cell? ⟨w2.heap.size, 0, none⟩ = some (.slice At ts.length ct) := by (rw [cell_of_row _ _ _ _ _ _ hrp7]; rfl)); (have q17 : w7.cell? ⟨w2.heap.size, 1, none⟩ = some (.slice Ab l.length cb) := by (rw [cell_of_row _ _ _ _ _ _ hrp7]; rfl)); (have z07 : w7.cell? ⟨w.heap.size, 0, none⟩ = some (.slice none 0 0) := by (rw [cell_of_row _ _ _ _ _ _ hr7]; rfl)); (have z17 : w7.cell? ⟨w.heap.size, 1, none⟩ = some (.slice none 0 0) := by (rw [cell_of_row _ _ _ _ _ _ hr7]; rfl)); (have zf07 := frozen_of_row w7 w.heap.size 0 _ _ hr7); (have zf17 := frozen_of_row w7 w.heap.size 1 _ _ hr7); (have HR9 := Lib.hid hr7); (have HG9 := Lib.hid hg7); (have Q9 := Lib.hid (pl_set (Ne.symm (Nat.ne_of_lt hw2)) q07 q17 (.slice At ts.length ct) (.slice Ab l.length cb))); clear hx hd7 hg7 hr7 hrp7)
        | fail)
    have HB9 := Lib.hid (grown_new (HB3.out.trans (HWA.out.mono HB3.out.size)) (by omega) HG9.out)
    have HIT9 := Lib.hid (((HIT3.out.bel HWA.out).grown HG9.out (by show ¬ (w1.heap.size ≤ w.heap.size + 1); omega)))
    have HST9 := Lib.hid (((HST3.out.bel HWA.out).grown HG9.out (by show ¬ (w1.heap.size ≤ w.heap.size + 1); omega)))
    go_wp2_with fail
    refine bodyPost_ret (res_box (u := 3) rfl _ _ w.heap.size 26 _ (0, 0) _ rfl (box2 HR9.out _ _).1 Try.underlying26 rfl rfl) rfl ?_
    exact (pl_close (a := x) HB9.out (box2 HR9.out _ _).2 HIT9.out HST9.out (by omega) hts hsz)

  · have hz1 : ((np : Int) == 0) = false := by simpa using hz
    have hz2 : 0 < np := by omega
    clear hz
    go_wp2_with fail
    refine (pick_any (w.heap.size + 1) p2 _ _ HD3.out (by omega) (by omega) (by omega)).mono ?_
    rintro e w4 ⟨k, rfl, -, -, hd4, hg4⟩
    have hs4 := hg4.size
    have HR4 := Lib.hid (row_grown HR3.out hg4 (by omega))
    have HRP4 := Lib.hid (row_grown HRP3.out hg4 (by omega))
    have HD4 := Lib.hid hd4
    have HB4 := Lib.hid (grown_new HB3.out (by omega) hg4)
    have HIT4 := Lib.hid (HIT3.out.grown hg4 (by show ¬ (w1.heap.size ≤ w.heap.size + 1); omega))
    have HST4 := Lib.hid (HST3.out.grown hg4 (by show ¬ (w1.heap.size ≤ w.heap.size + 1); omega))
    clear hd4 hg4 q0 q1
    have q0 : w4.cell? ⟨w2.heap.size, 0, none⟩ = some (.slice At ts.length ct) := by rw [cell_of_row _ _ _ _ _ _ HRP4.out]; rfl
    have q1 : w4.cell? ⟨w2.heap.size, 1, none⟩ = some (.slice Ab l.length cb) := by rw [cell_of_row _ _ _ _ _ _ HRP4.out]; rfl
    by_cases hk : k = 0
    · subst hk
      go_wp2_with fail
      have CN : Calls Try.prog 81 #[.pointer (some ⟨w.heap.size + 1, 0, none⟩), .slice (some ⟨w4.heap.size, 0, none⟩) 3 3] (w4.alloc (.cells #[.int .i64 (-1), .int .i64 60, .int .i64 0] 3)).drew (fun e w' => ∃ x : Int, e = .returned (.int .i64 x) ∧ x ∈ [-1, 60, 0] ∧ Dr w' (w.heap.size + 1) ((p2 + 1) + 1) ∧ (w4.alloc (.cells #[.int .i64 (-1), .int .i64 60, .int .i64 0] 3)).drew.grownBy w' (some (w.heap.size + 1))) :=
        num_any (w.heap.size + 1) _ _ [-1, 60, 0] 3 _ (HD4.out.low ((bel_a w4 (.cells #[.int .i64 (-1), .int .i64 60, .int .i64 0] 3)).drew) (by omega)) (by omega) (RowB.new w4 _ _) (by omega) (by simp) (by simp)
      have HCN := Lib.hid CN
      have HWA := Lib.hid (bel_a w4 (.cells #[.int .i64 (-1), .int .i64 60, .int .i64 0] 3)).drew
      have HSW := Lib.hid (show (w4.alloc (.cells #[.int .i64 (-1), .int .i64 60, .int .i64 0] 3)).drew.heap.size = w4.heap.size + 1 by simp)
      clear CN
      go_region_held3 (fun w' => w'.cell? ⟨w2.heap.size, 0, none⟩ = some (.slice At ts.length ct) ∧ w'.cell? ⟨w2.heap.size, 1, none⟩ = some (.slice Ab l.length cb))
        (first | exact ⟨q0, q1⟩ | exact ⟨q07, q17⟩ | exact Q9.out | assumption | go_keep)
        (first
          | (go_at_call 81; (with_reducible refine HCN.out.mono ?_); (rintro e w7 ⟨x, rfl, hx, hd7, hg7⟩); (have hs7 := hg7.size); (rw [HSW.out] at hs7); (have hr7 := row_grown (row_below HR4.out HWA.out) hg7 (by omega)); (have hrp7 := row_grown (row_below HRP4.out HWA.out) hg7 (by omega)); (have q07 : w7.cell? ⟨w2.heap.size, 0, none⟩ = some (.slice At ts.length ct) := by (rw [cell_of_row _ _ _ _ _ _ hrp7]; rfl)); (have q17 : w7.cell? ⟨w2.heap.size, 1, none⟩ = some (.slice Ab l.length cb) := by (rw [cell_of_row _ _ _ _ _ _ hrp7]; rfl)); (have z07 : w7.cell? ⟨w.heap.size, 0, none⟩ = some (.slice none 0 0) := by (rw [cell_of_row _ _ _ _ _ _ hr7]; rfl)); (have z17 : w7.cell? ⟨w.heap.size, 1, none⟩ = some (.slice none 0 0) := by (rw [cell_of_row _ _ _ _ _ _ hr7]; rfl)); (have zf07 := frozen_of_row w7 w.heap.size 0 _ _ hr7); (have zf17 := frozen_of_row w7 w.heap.size 1 _ _ hr7); (have HR9 := Lib.hid hr7); (have HG9 := Lib.hid hg7); (have Q9 := Lib.hid (pl_set (Ne.symm (Nat.ne_of_lt hw2)) q07 q17 (.slice At ts.length ct) (.slice Ab l.length cb))); clear hx hd7 hg7 hr7 hrp7)
          | fail)
      have HB9 := Lib.hid (grown_new (HB4.out.trans (HWA.out.mono HB4.out.size)) (by omega) HG9.out)
      have HIT9 := Lib.hid (((HIT4.out.bel HWA.out).grown HG9.out (by show ¬ (w1.heap.size ≤ w.heap.size + 1); omega)))
      have HST9 := Lib.hid (((HST4.out.bel HWA.out).grown HG9.out (by show ¬ (w1.heap.size ≤ w.heap.size + 1); omega)))
      go_wp2_with fail
      refine bodyPost_ret (res_box (u := 3) rfl _ _ w.heap.size 26 _ (0, 0) _ rfl (box2 HR9.out _ _).1 Try.underlying26 rfl rfl) rfl ?_
      exact (pl_close (a := x) HB9.out (box2 HR9.out _ _).2 HIT9.out HST9.out (by omega) hts hsz)

    · have hk1 : (k == 0) = false := by simpa using hk
      clear hk
      go_wp2_with fail
      have HCN := Lib.hid (pick_any (w.heap.size + 1) (p2 + 1) ((np : Nat) : Int) w4.drew (HD4.out.low (Below.refl _ _).drew (by omega)) (by omega) (by omega) (by omega))
      have HWA := Lib.hid ((Below.refl w4.heap.size w4).drew)
      have HSW := Lib.hid (show w4.drew.heap.size = w4.heap.size by simp)
      go_region_held3 (fun w' => w'.cell? ⟨w2.heap.size, 0, none⟩ = some (.slice At ts.length ct) ∧ w'.cell? ⟨w2.heap.size, 1, none⟩ = some (.slice Ab l.length cb))
        (first | exact ⟨q0, q1⟩ | exact ⟨q07, q17⟩ | exact Q9.out | assumption | go_keep)
        (first
          | (go_at_call 54; (with_reducible refine HCN.out.mono ?_); (rintro e w7 ⟨x, rfl, -, -, hd7, hg7⟩); (have hs7 := hg7.size); (rw [HSW.out] at hs7); (have hr7 := row_grown (row_below HR4.out HWA.out) hg7 (by omega)); (have hrp7 := row_grown (row_below HRP4.out HWA.out) hg7 (by omega)); (have q07 : w7.cell? ⟨w2.heap.size, 0, none⟩ = some (.slice At ts.length ct) := by (rw [cell_of_row _ _ _ _ _ _ hrp7]; rfl)); (have q17 : w7.cell? ⟨w2.heap.size, 1, none⟩ = some (.slice Ab l.length cb) := by (rw [cell_of_row _ _ _ _ _ _ hrp7]; rfl)); (have z07 : w7.cell? ⟨w.heap.size, 0, none⟩ = some (.slice none 0 0) := by (rw [cell_of_row _ _ _ _ _ _ hr7]; rfl)); (have z17 : w7.cell? ⟨w.heap.size, 1, none⟩ = some (.slice none 0 0) := by (rw [cell_of_row _ _ _ _ _ _ hr7]; rfl)); (have zf07 := frozen_of_row w7 w.heap.size 0 _ _ hr7); (have zf17 := frozen_of_row w7 w.heap.size 1 _ _ hr7); (have HR9 := Lib.hid hr7); (have HG9 := Lib.hid hg7); (have Q9 := Lib.hid (pl_set (Ne.symm (Nat.ne_of_lt hw2)) q07 q17 (.slice At ts.length ct) (.slice Ab l.length cb))); clear hd7 hg7 hr7 hrp7)
          | fail)
      have HB9 := Lib.hid (grown_new (HB4.out.trans (HWA.out.mono HB4.out.size)) (by omega) HG9.out)
      have HIT9 := Lib.hid (((HIT4.out.bel HWA.out).grown HG9.out (by show ¬ (w1.heap.size ≤ w.heap.size + 1); omega)))
      have HST9 := Lib.hid (((HST4.out.bel HWA.out).grown HG9.out (by show ¬ (w1.heap.size ≤ w.heap.size + 1); omega)))
      go_wp2_with fail
      refine bodyPost_ret (res_box (u := 3) rfl _ _ w.heap.size 26 _ (0, 0) _ rfl (box2 HR9.out _ _).1 Try.underlying26 rfl rfl) rfl ?_
      exact (pl_close (a := x) HB9.out (box2 HR9.out _ _).2 HIT9.out HST9.out (by omega) hts hsz)

end Go.Proofs.Ytgmipapdcihdpaa

/- FnTakesOf: the draw, the plain law, the walk. -/
namespace Go.Proofs.Ytgmipapdcihdpaa
open Go.RowKit

set_option maxHeartbeats 1000000 in
set_option maxRecDepth 100000 in
theorem drawTakes_any (A : Option Addr) (n c : Nat) (w : World) (hb : Byt w w.heap.size A n) (hn : n ≤ 1048576) (hc : n ≤ c) :
    Calls Try.prog 15 #[.slice A n c] w (DrRes w) := by
  have HB := Lib.hid hb
  clear hb
  go_enter Try.func15, Try.ntmps15
  go_wp2_with fail
  have hA := bel_a w (.cells #[.slice none 0 0, .slice none 0 0] 26)
  have hsA : (w.alloc (.cells #[.slice none 0 0, .slice none 0 0] 26)).heap.size = w.heap.size + 1 := by simp
  refine (drawNeeds_any A n c _ (by rw [hsA]; exact (HB.out.keep fun b o hb => hA.cell (p := ⟨b, o, none⟩) hb).more (by omega)) hn hc).mono ?_
  rintro e w1 ⟨vt, vb, ts, l, rfl, hit, hst, hts, hsz, hb1⟩
  rw [hsA] at hit hst
  have HR1 := Lib.hid (row_below (heap_alloc_new w (.cells #[.slice none 0 0, .slice none 0 0] 26)) hb1)
  have HB1 := Lib.hid (hA.trans (hb1.mono (by omega)))
  have HIT := Lib.hid hit
  have HST := Lib.hid hst
  obtain ⟨At, ct, rfl, -⟩ := hit.slice
  obtain ⟨Ab, cb, rfl, -⟩ := hst.slice
  clear hb1 hA hsA hit hst
  have z0 : w1.cell? ⟨w.heap.size, 0, none⟩ = some (.slice none 0 0) := by rw [cell_of_row _ _ _ _ _ _ HR1.out]; rfl
  have z1 : w1.cell? ⟨w.heap.size, 1, none⟩ = some (.slice none 0 0) := by rw [cell_of_row _ _ _ _ _ _ HR1.out]; rfl
  have zf0 := frozen_of_row w1 w.heap.size 0 _ _ HR1.out
  have zf1 := frozen_of_row w1 w.heap.size 1 _ _ HR1.out
  go_wp2_with fail
  exact bodyPost_ret (results_cell_row rfl _ _ w.heap.size 26 _ (0, 0) _ rfl (box2 HR1.out _ _).1 Try.underlying26 rfl rfl) rfl (dr_close HB1.out (box2 HR1.out _ _).2 HIT.out HST.out hts hsz)

theorem use_two {ts : List Int} {p : Pt} {v : Nat} (hp : PtOk ts p) (h : useP ts p.op p.x p.y (v : Nat) = 2) : typeOfP ts v = 2 ∨ typeOfP ts v = 4 := by
  unfold useP at h
  repeat' split at h
  all_goals first | omega | skip
  · rename_i h8 hv
    rcases hp with h9 | h9 | h9 | h9
    · omega
    · omega
    · omega
    · left
      unfold simpleP at h9
      rw [hv]
      rw [h8] at h9
      simp at h9
      exact h9.2.1
theorem take_mem {ts : List Int} {l : List St} {i : Nat} (hi : i < (takeRes ts l).length) : ∃ v : Nat, (takeRes ts l).getD i 0 = (v : Nat) ∧ v < ts.length ∧ (ts.getD v 0 = 2 ∨ ts.getD v 0 = 4) := by
  have hm : (takeRes ts l).getD i 0 ∈ takeRes ts l := by rw [getD_lt hi]; exact List.getElem_mem hi
  generalize (takeRes ts l).getD i 0 = x at *
  unfold takeRes at hm
  split at hm
  · rename_i hv
    obtain ⟨v, h1, h2, rfl⟩ := lst_mem.1 hm
    obtain ⟨p, hp, hu⟩ := List.any_eq_true.1 h2
    refine ⟨v, rfl, h1, ?_⟩
    have := use_two (ptsP_ok hv p hp) (by simpa using hu)
    unfold typeOfP at this
    rw [if_pos (by omega)] at this
    simpa using this
  · simp at hm
theorem take_len (ts : List Int) (l : List St) : (takeRes ts l).length ≤ ts.length := by
  unfold takeRes
  split
  · exact lst_len _ _
  · simp

def LawRet (w : World) (e : Ending) (w' : World) : Prop := e = .returned (.bool true) ∧ Below w.heap.size w w'
set_option maxHeartbeats 2000000 in
theorem fnTakesOf_any (A : Option Addr) (n c : Nat) (w : World) (hb : Byt w w.heap.size A n) (hm : n ≤ maxLen) (hc : n ≤ c) :
    Calls Try.prog 3 #[.slice A n c] w (LawRet w) := by
  have HB := Lib.hid hb
  clear hb
  by_cases hn : n ≤ 1048576
  · go_enter Try.func3, Try.ntmps3
    go_wp2_with fail
    refine (drawTakes_any A n c _ HB.out hn hc).mono ?_
    rintro e w1 ⟨vt, vb, ts, l, rfl, hit, hst, hts, hsz, hb1⟩
    obtain ⟨At, ct, rfl, -⟩ := hit.slice
    obtain ⟨Ab, cb, rfl, -⟩ := hst.slice
    have hs1 := hb1.size
    have HBX := Lib.hid (hb1.trans ((bel_a w1 (.cells #[.slice At ts.length ct, .slice Ab l.length cb] 26)).mono hs1))
    have HIT := Lib.hid (hit.bel (bel_a w1 (.cells #[.slice At ts.length ct, .slice Ab l.length cb] 26)))
    have HST := Lib.hid (hst.bel (bel_a w1 (.cells #[.slice At ts.length ct, .slice Ab l.length cb] 26)))
    have HR := Lib.hid (heap_alloc_new w1 (.cells #[.slice At ts.length ct, .slice Ab l.length cb] 26))
    have hsW : (w1.alloc (.cells #[.slice At ts.length ct, .slice Ab l.length cb] 26)).heap.size = w1.heap.size + 1 := by simp
    have HSW := Lib.hid hsW
    clear hit hst hb1 hsW
    go_wp2_with fail
    refine (iTakesOf_any _ _ ts l _ _ HIT.out.toS HST.out.toS (Nat.le_refl _) (by omega)).mono ?_
    rintro e w2 ⟨v2, rfl, hv2, hb2⟩
    have HR2 := Lib.hid (row_below HR.out hb2)
    have HIT2 := Lib.hid (HIT.out.bel hb2)
    have HST2 := Lib.hid (HST.out.bel hb2)
    have HV2 := Lib.hid hv2
    have HB2 := Lib.hid (HBX.out.trans (hb2.mono HBX.out.size))
    have r0 : w2.cell? ⟨w1.heap.size, 0, none⟩ = some (.slice At ts.length ct) := by rw [cell_of_row _ _ _ _ _ _ HR2.out]; rfl
    have r1 : w2.cell? ⟨w1.heap.size, 1, none⟩ = some (.slice Ab l.length cb) := by rw [cell_of_row _ _ _ _ _ _ HR2.out]; rfl
    clear hv2 hb2
    go_wp2_with fail
    refine (sTakesOf_any _ _ ts l _ _ HIT2.out.toS HST2.out.toS (Nat.le_refl _) (by omega)).mono ?_
    rintro e w3 ⟨v3, rfl, hv3, hb3⟩
    have HR3 := Lib.hid (row_below HR2.out hb3)
    have HIT3 := Lib.hid (HIT2.out.bel hb3)
    have HV23 := Lib.hid ((HV2.out.low hb3 (Nat.le_refl _)).more hb3.size)
    have HV3 := Lib.hid hv3
    have HB3 := Lib.hid (HB2.out.trans (hb3.mono HB2.out.size))
    clear hv3 hb3 r0 r1
    go_wp2_with fail
    refine (bcInts_any _ _ _ _ _ _ HV23.out HV3.out).mono ?_
    rintro e w4 ⟨rfl, n4, rfl⟩
    rw [show eqP (takeRes ts l) (takeRes ts l) = true by simp [eqP]]
    have htl := take_len ts l
    obtain ⟨A2, c2, rfl, hc2, -, hr2⟩ := HV23.out
    have HTM := Lib.hid (fun i => take_mem (ts := ts) (l := l) (i := i))
    generalize takeRes ts l = L at *
    by_cases hL0 : 0 < L.length
    · obtain ⟨A0, c0', e0, hc0', -, hit3⟩ := HIT3.out
      obtain ⟨bt, ot, rfl, -, hblt, hct⟩ := hit3 (by omega)
      injection e0 with e0 _ _
      subst e0
      obtain ⟨b, off, rfl, hb, hcell⟩ := hr2.int_at hL0
      have HCT := Lib.hid hct
      have HCL := Lib.hid hcell
      have c0 : w3.cell? ⟨w1.heap.size, 0, none⟩ = some (.slice (some ⟨bt, ot, none⟩) ts.length ct) := by rw [cell_of_row _ _ _ _ _ _ HR3.out]; rfl
      clear hct hcell hit3
      go_wp2_with fail
      go_loopw [5] (fun i wr => ∃ (k : Nat), k ≤ L.length ∧ i = .int .i64 k ∧ ∃ m, wr = w3.drewN m) (fun i _ => L.length - (intOf i).toNat)
      case atStart => exact ⟨0, Nat.zero_le _, rfl, n4, rfl⟩
      case round =>
        obtain ⟨k, hk, rfl, m, rfl⟩ := hrel
        by_cases hlt : k < L.length
        · have hck := HCL.out k hlt
          obtain ⟨v, hv, hvt, hty⟩ := HTM.out k hlt
          rw [hv] at hck
          have hcv := HCT.out v hvt
          clear hv
          rcases hty with hty | hty <;> rw [hty] at hcv
          all_goals
            clear hty
            go_wp2_with fail
            go_quiet (fail)
            go_wp2_with fail
            exact ⟨⟨k + 1, by omega, by go_num, m + nq, rfl⟩, by simp [intOf] <;> omega⟩
        · go_wp2_with fail
          go_ret
          exact ⟨rfl, Below.drN HB3.out _⟩
    · have hL0' : L.length = 0 := by omega
      have hL1 : L = [] := List.length_eq_zero_iff.1 hL0'
      subst hL1
      go_wp2_with fail
      refine wp_loop_rounds 1 ?_
      rw [rounds_succ]
      go_wp2_with fail
      go_ret
      exact ⟨rfl, Below.drN HB3.out _⟩
  · go_enter Try.func3, Try.ntmps3
    go_wp2_with fail
    go_ret
    exact ⟨rfl, Below.refl _ _⟩

end Go.Proofs.Ytgmipapdcihdpaa

/- Words for the laws' walks: a drawn program in its box. The plain law of NeedsOpen. -/
namespace Go.Proofs.Ytgmipapdcihdpaa
open Go.RowKit

/-- the program (vt, vb) lies in the box g and reads as (ts, l); what was in w is as it was -/
structure PgB (w W : World) (g : Nat) (vt vb : Value) (ts : List Int) (l : List St) : Prop where
  bel : Below w.heap.size w W
  row : W.heap[g]? = some (.cells #[vt, vb] 26 (0, 0))
  ht : IntS W W.heap.size vt ts
  hl : StS W W.heap.size vb l
theorem PgB.lt {w W : World} {g : Nat} {vt vb : Value} {ts : List Int} {l : List St} (h : PgB w W g vt vb ts l) : g < W.heap.size := row_lt h.row
theorem PgB.c0 {w W : World} {g : Nat} {vt vb : Value} {ts : List Int} {l : List St} (h : PgB w W g vt vb ts l) : W.cell? ⟨g, 0, none⟩ = some vt := by rw [cell_of_row _ _ _ _ _ _ h.row]; rfl
theorem PgB.c1 {w W : World} {g : Nat} {vt vb : Value} {ts : List Int} {l : List St} (h : PgB w W g vt vb ts l) : W.cell? ⟨g, 1, none⟩ = some vb := by rw [cell_of_row _ _ _ _ _ _ h.row]; rfl
theorem PgB.bels {w W W' : World} {g : Nat} {vt vb : Value} {ts : List Int} {l : List St} (h : PgB w W g vt vb ts l) (hb : Below W.heap.size W W') : PgB w W' g vt vb ts l :=
  ⟨h.bel.trans (hb.mono h.bel.size), row_below h.row hb, (h.ht.low hb (Nat.le_refl _)).more hb.size, (h.hl.low hb (Nat.le_refl _)).more hb.size⟩
theorem PgB.new {w w1 : World} {vt vb : Value} {ts : List Int} {l : List St} {P Q : Nat → Prop} (ht : IntX w1 P vt ts) (hl : StX w1 Q vb l) (hb : Below w.heap.size w w1) : PgB w (w1.alloc (.cells #[vt, vb] 26)) w1.heap.size vt vb ts l := by
  have hA := bel_a w1 (.cells #[vt, vb] 26)
  exact ⟨hb.trans (hA.mono hb.size), heap_alloc_new w1 _, ((ht.toS).low hA (Nat.le_refl _)).more hA.size, ((hl.toS).low hA (Nat.le_refl _)).more hA.size⟩
theorem IntS.bel {w w' : World} {v : Value} {l : List Int} (h : IntS w w.heap.size v l) (hb : Below w.heap.size w w') : IntS w' w'.heap.size v l := (h.low hb (Nat.le_refl _)).more hb.size
theorem PtS.bel {w w' : World} {v : Value} {pts : List Pt} (h : PtS w w.heap.size v pts) (hb : Below w.heap.size w w') : PtS w' w'.heap.size v pts := (h.low hb (Nat.le_refl _)).more hb.size

theorem graphOk_zero {ts : List Int} {l : List St} : graphOk ts l [0] = validP ts l := by
  have := ptsP_pos l
  simp only [graphOk, List.all_cons, List.all_nil, Bool.and_true, withinP]
  cases validP ts l
  · rfl
  · simp; omega
theorem ptAt_zero {l : List St} : ptAt (ptsP l) 0 = (ptsP l)[0]'(ptsP_pos l) := ptAt_nat (k := 0) (ptsP_pos l)
theorem nd_step {ts : List Int} {pts : List Pt} {i v : Nat} {p : Pt} (hp : pts[i]? = some p) (hv : v < ts.length) :
    dec (Nd ts pts i v) = ((useP ts p.op p.x p.y (v : Nat) != 0) || ((setsP p.op p.x != (v : Nat)) && p.next.any fun j => dec (Nd ts pts j v))) := by
  rw [Bool.eq_iff_iff, dec_iff, Bool.or_eq_true, Bool.and_eq_true, List.any_eq_true]
  constructor
  · intro h
    cases h with
    | use hp' _ hu => rw [hp] at hp'; injection hp' with hp'; subst hp'; left; simpa using hu
    | flow hp' hk hd hs => rw [hp] at hp'; injection hp' with hp'; subst hp'; exact .inr ⟨by simpa using hs, _, hk, dec_true hd⟩
  · rintro (h | ⟨hs, k, hk, hd⟩)
    · exact .use hp hv (by simpa using h)
    · exact .flow hp hk (dec_iff.1 hd) (by simpa using hs)
theorem liveAt_has {ts : List Int} {pts : List Pt} {i v : Nat} {p : Pt} (hp : pts[i]? = some p) (hv : v < ts.length) : hasP (liveAt ts pts i) v = p.next.any fun j => dec (Nd ts pts j v) := by
  unfold liveAt
  rw [lst_has, decide_eq_true hv, Bool.true_and, hp]
theorem needs_open (ts : List Int) (l : List St) {v : Nat} (hv : v < ts.length) : hasP (needRes ts l) v = ((useRes ts l 0 v != 0) || ((setRes ts l 0 != v) && hasP (liveRes ts l 0) v)) := by
  unfold needRes useRes setRes liveRes
  rw [graphOk_zero]
  cases hval : validP ts l
  · simp [hasP]
  · have hw : withinP (v : Nat) 0 ((ts.length : Int) - 1) = true := by unfold withinP; simp; omega
    have hp0 := ptsP_pos l
    have hp : (ptsP l)[0]? = some (ptsP l)[0] := List.getElem?_eq_getElem hp0
    simp only [if_true, hw, and_self]
    rw [lst_has, decide_eq_true hv, Bool.true_and, nd_step hp hv, ptAt_zero, show (0 : Int).toNat = 0 from rfl, liveAt_has hp hv]

end Go.Proofs.Ytgmipapdcihdpaa

/- FnNeedsOpen: the walk. -/
namespace Go.Proofs.Ytgmipapdcihdpaa
open Go.RowKit

set_option maxHeartbeats 4000000
theorem fnNeedsOpen_any (A : Option Addr) (n c : Nat) (w : World) (hb : Byt w w.heap.size A n) (hm : n ≤ maxLen) (hc : n ≤ c) :
    Calls Try.prog 4 #[.slice A n c] w (LawRet w) := by
  have HB := Lib.hid hb
  clear hb
  by_cases hn : n ≤ 1048576
  · go_enter Try.func4, Try.ntmps4
    go_wp2_with fail
    refine (drawNeeds_any A n c _ HB.out hn hc).mono ?_
    rintro e w1 ⟨vt, vb, ts, l, rfl, hit, hst, hts, hsz, hb1⟩
    have HP := Lib.hid (PgB.new hit hst hb1)
    obtain ⟨At, ct, rfl, hct⟩ := hit.slice
    obtain ⟨Ab, cb, rfl, hcb⟩ := hst.slice
    clear hit hst hb1
    go_wp2_with fail
    generalize w1.alloc (.cells #[.slice At ts.length ct, .slice Ab l.length cb] 26) = W1 at *
    obtain ⟨g, hg⟩ : ∃ g, g = w1.heap.size := ⟨_, rfl⟩
    rw [← hg] at HP ⊢
    clear hg
    refine (iNeedsOf_any _ _ ts l _ _ HP.out.ht HP.out.hl (Nat.le_refl _) (by omega)).mono ?_
    rintro e w2 ⟨v2, rfl, hv2, hb2⟩
    have HP2 := Lib.hid (HP.out.bels hb2)
    have HV2 := Lib.hid hv2
    have c0 := HP2.out.c0
    have c1 := HP2.out.c1
    clear hv2 hb2
    go_wp2_with fail
    refine (sNeedsOf_any _ _ ts l _ _ HP2.out.ht HP2.out.hl (Nat.le_refl _) (by omega)).mono ?_
    rintro e w3 ⟨v3, rfl, hv3, hb3⟩
    have HP3 := Lib.hid (HP2.out.bels hb3)
    have HV23 := Lib.hid (HV2.out.bel hb3)
    have HV3 := Lib.hid hv3
    clear hv3 hb3 c0 c1
    go_wp2_with fail
    refine (bcInts_any _ _ _ _ _ _ HV23.out HV3.out).mono ?_
    rintro e w4 ⟨rfl, n4, rfl⟩
    rw [show eqP (needRes ts l) (needRes ts l) = true by simp [eqP]]
    have HP4 := Lib.hid (HP3.out.bels (below_of_drewN ⟨n4, rfl⟩ _))
    have HV4 := Lib.hid (HV23.out.bel (below_of_drewN ⟨n4, rfl⟩ _))
    generalize w3.drewN n4 = w4 at *
    go_wp2_with fail
    go_loopw [5] (fun i wr => ∃ k : Nat, k ≤ ts.length ∧ i = .int .i64 k ∧ PgB w wr g (.slice At ts.length ct) (.slice Ab l.length cb) ts l ∧ IntS wr wr.heap.size v2 (needRes ts l)) (fun i _ => ts.length - (intOf i).toNat)
    case atStart => exact ⟨0, by omega, rfl, HP4.out, HV4.out⟩
    case round =>
      obtain ⟨k, hk, rfl, hP, hV⟩ := hrel
      have HPR := Lib.hid hP
      have HVR := Lib.hid hV
      have c0 := hP.c0
      have c1 := hP.c1
      clear hP hV
      by_cases hlt : k < ts.length
      · have HEQ := Lib.hid (needs_open ts l hlt)
        go_wp2_with fail
        refine (iUseOf_any _ _ ts l 0 (k : Nat) _ _ HPR.out.ht HPR.out.hl (Nat.le_refl _) (by omega)).mono ?_
        rintro e w5 ⟨rfl, hb5⟩
        have HP5 := Lib.hid (HPR.out.bels hb5)
        have HV5 := Lib.hid (HVR.out.bel hb5)
        clear hb5 c0 c1
        have c0 := HP5.out.c0
        have c1 := HP5.out.c1
        go_wp2_with fail
        refine (iSetBy_any _ _ ts l 0 _ _ HP5.out.ht HP5.out.hl (Nat.le_refl _) (by omega)).mono ?_
        rintro e w6 ⟨rfl, hb6⟩
        have HP6 := Lib.hid (HP5.out.bels hb6)
        have HV6 := Lib.hid (HV5.out.bel hb6)
        clear hb6 c0 c1
        have c0 := HP6.out.c0
        have c1 := HP6.out.c1
        cases hu : (useRes ts l 0 (k : Nat) != 0) <;> cases hs : (setRes ts l 0 != (k : Nat))
        · have hq : hasP (needRes ts l) (k : Nat) = false := by rw [HEQ.out, hu, hs]; rfl
          go_wp2_with fail
          refine (bcIn_any _ _ _ _ _ HV6.out).mono ?_
          rintro e w7 ⟨rfl, rfl⟩
          go_wp2_with fail
          exact ⟨⟨k + 1, by omega, by go_num, HP6.out, HV6.out⟩, by simp [intOf] <;> omega⟩
        · have HUS := Lib.hid (And.intro hu hs)
          go_wp2_with fail
          refine (iLiveAfter_any _ _ ts l 0 _ _ HP6.out.ht HP6.out.hl (Nat.le_refl _) (by omega)).mono ?_
          rintro e w7 ⟨v7, rfl, hv7, hb7⟩
          have HP7 := Lib.hid (HP6.out.bels hb7)
          have HV7 := Lib.hid (HV6.out.bel hb7)
          have HL7 := Lib.hid hv7
          clear hb7 hv7
          go_wp2_with fail
          refine (bcIn_any _ _ _ _ _ HL7.out).mono ?_
          rintro e w8 ⟨rfl, rfl⟩
          have hq : hasP (needRes ts l) (k : Nat) = hasP (liveRes ts l 0) (k : Nat) := by rw [HEQ.out, HUS.out.1, HUS.out.2]; rfl
          generalize hasP (liveRes ts l 0) (k : Nat) = bl at *
          go_wp2_with fail
          refine (bcIn_any _ _ _ _ _ HV7.out).mono ?_
          rintro e w9 ⟨rfl, rfl⟩
          cases bl
          · go_wp2_with fail
            exact ⟨⟨k + 1, by omega, by go_num, HP7.out, HV7.out⟩, by simp [intOf] <;> omega⟩
          · go_wp2_with fail
            exact ⟨⟨k + 1, by omega, by go_num, HP7.out, HV7.out⟩, by simp [intOf] <;> omega⟩
        · have hq : hasP (needRes ts l) (k : Nat) = true := by rw [HEQ.out, hu, hs]; rfl
          go_wp2_with fail
          refine (bcIn_any _ _ _ _ _ HV6.out).mono ?_
          rintro e w7 ⟨rfl, rfl⟩
          go_wp2_with fail
          exact ⟨⟨k + 1, by omega, by go_num, HP6.out, HV6.out⟩, by simp [intOf] <;> omega⟩
        · have HUS := Lib.hid (And.intro hu hs)
          go_wp2_with fail
          refine (iLiveAfter_any _ _ ts l 0 _ _ HP6.out.ht HP6.out.hl (Nat.le_refl _) (by omega)).mono ?_
          rintro e w7 ⟨v7, rfl, hv7, hb7⟩
          have HP7 := Lib.hid (HP6.out.bels hb7)
          have HV7 := Lib.hid (HV6.out.bel hb7)
          have HL7 := Lib.hid hv7
          clear hb7 hv7
          go_wp2_with fail
          refine (bcIn_any _ _ _ _ _ HL7.out).mono ?_
          rintro e w8 ⟨rfl, rfl⟩
          have hq : hasP (needRes ts l) (k : Nat) = true := by rw [HEQ.out, HUS.out.1, HUS.out.2]; rfl
          generalize hasP (liveRes ts l 0) (k : Nat) = bl at *
          go_wp2_with fail
          refine (bcIn_any _ _ _ _ _ HV7.out).mono ?_
          rintro e w9 ⟨rfl, rfl⟩
          go_wp2_with fail
          exact ⟨⟨k + 1, by omega, by go_num, HP7.out, HV7.out⟩, by simp [intOf] <;> omega⟩
      · go_wp2_with fail
        go_ret
        exact ⟨rfl, HPR.out.bel⟩
  · have hn1 : (1048576 : Int) < n := by omega
    unfold maxLen at hm
    go_enter Try.func4, Try.ntmps4
    go_wp2_with fail
    go_ret
    exact ⟨rfl, Below.refl _ _⟩

end Go.Proofs.Ytgmipapdcihdpaa

/- the draws that only hand l3Place on; FnLiveStep. -/
namespace Go.Proofs.Ytgmipapdcihdpaa
open Go.RowKit

set_option maxHeartbeats 4000000
set_option maxRecDepth 100000
theorem pl_end {w W : World} {vt vb : Value} {ts : List Int} {l : List St} {a : Int} (h3 : Below w.heap.size w W) (hT : IntX W (fun b => w.heap.size + 1 ≤ b) vt ts) (hB : StX W (fun b => w.heap.size + 1 ≤ b) vb l) (ht : ts.length ≤ 700) (hl : szL l ≤ 100000) (W' : World) (hW : W.grownBy W' (some w.heap.size)) : PlRet w (.returned (.tuple #[.agg #[vt, vb], .int .i64 a])) W' :=
  pl_close h3 hW hT hB (by omega) ht hl

theorem drawLiveAfter_any (A : Option Addr) (n c : Nat) (w : World) (hb : Byt w w.heap.size A n) (hn : n ≤ 1048576) (hc : n ≤ c) :
    Calls Try.prog 26 #[.slice A n c] w (PlRet w) := by
  have HB := Lib.hid hb
  clear hb
  go_enter Try.func26, Try.ntmps26
  go_wp2_with fail
  have hA := bel_a w (.cells #[.slice none 0 0, .slice none 0 0] 26)
  have hsA : (w.alloc (.cells #[.slice none 0 0, .slice none 0 0] 26)).heap.size = w.heap.size + 1 := by simp
  refine (l3Place_any A n c _ (by rw [hsA]; exact (HB.out.keep fun b o hb => hA.cell (p := ⟨b, o, none⟩) hb).more (by omega)) hn hc).mono ?_
  rintro e w1 ⟨vt, vb, ts, l, x, rfl, hit, hst, hts, hsz, hb1⟩
  rw [hsA] at hit hst
  have HR1 := Lib.hid (row_below (heap_alloc_new w (.cells #[.slice none 0 0, .slice none 0 0] 26)) hb1)
  have HB1 := Lib.hid (hA.trans (hb1.mono (by omega)))
  have HIT := Lib.hid hit
  have HST := Lib.hid hst
  obtain ⟨At, ct, rfl, -⟩ := hit.slice
  obtain ⟨Ab, cb, rfl, -⟩ := hst.slice
  clear hb1 hA hsA hit hst
  have z0 : w1.cell? ⟨w.heap.size, 0, none⟩ = some (.slice none 0 0) := by rw [cell_of_row _ _ _ _ _ _ HR1.out]; rfl
  have z1 : w1.cell? ⟨w.heap.size, 1, none⟩ = some (.slice none 0 0) := by rw [cell_of_row _ _ _ _ _ _ HR1.out]; rfl
  have zf0 := frozen_of_row w1 w.heap.size 0 _ _ HR1.out
  have zf1 := frozen_of_row w1 w.heap.size 1 _ _ HR1.out
  go_wp2_with fail
  refine bodyPost_ret (res_box (u := 3) rfl _ _ w.heap.size 26 _ (0, 0) _ rfl (box2 HR1.out _ _).1 Try.underlying26 rfl rfl) rfl ?_
  exact (pl_close (a := x) HB1.out (box2 HR1.out _ _).2 HIT.out HST.out (by omega) hts hsz)

theorem drawMaybeSet_any (A : Option Addr) (n c : Nat) (w : World) (hb : Byt w w.heap.size A n) (hn : n ≤ 1048576) (hc : n ≤ c) :
    Calls Try.prog 29 #[.slice A n c] w (PlRet w) := by
  have HB := Lib.hid hb
  clear hb
  go_enter Try.func29, Try.ntmps29
  go_wp2_with fail
  have hA := bel_a w (.cells #[.slice none 0 0, .slice none 0 0] 26)
  have hsA : (w.alloc (.cells #[.slice none 0 0, .slice none 0 0] 26)).heap.size = w.heap.size + 1 := by simp
  refine (l3Place_any A n c _ (by rw [hsA]; exact (HB.out.keep fun b o hb => hA.cell (p := ⟨b, o, none⟩) hb).more (by omega)) hn hc).mono ?_
  rintro e w1 ⟨vt, vb, ts, l, x, rfl, hit, hst, hts, hsz, hb1⟩
  rw [hsA] at hit hst
  have HR1 := Lib.hid (row_below (heap_alloc_new w (.cells #[.slice none 0 0, .slice none 0 0] 26)) hb1)
  have HB1 := Lib.hid (hA.trans (hb1.mono (by omega)))
  have HIT := Lib.hid hit
  have HST := Lib.hid hst
  obtain ⟨At, ct, rfl, -⟩ := hit.slice
  obtain ⟨Ab, cb, rfl, -⟩ := hst.slice
  clear hb1 hA hsA hit hst
  have z0 : w1.cell? ⟨w.heap.size, 0, none⟩ = some (.slice none 0 0) := by rw [cell_of_row _ _ _ _ _ _ HR1.out]; rfl
  have z1 : w1.cell? ⟨w.heap.size, 1, none⟩ = some (.slice none 0 0) := by rw [cell_of_row _ _ _ _ _ _ HR1.out]; rfl
  have zf0 := frozen_of_row w1 w.heap.size 0 _ _ HR1.out
  have zf1 := frozen_of_row w1 w.heap.size 1 _ _ HR1.out
  go_wp2_with fail
  refine bodyPost_ret (res_box (u := 3) rfl _ _ w.heap.size 26 _ (0, 0) _ rfl (box2 HR1.out _ _).1 Try.underlying26 rfl rfl) rfl ?_
  exact (pl_close (a := x) HB1.out (box2 HR1.out _ _).2 HIT.out HST.out (by omega) hts hsz)

theorem drawAlwaysSet_any (A : Option Addr) (n c : Nat) (w : World) (hb : Byt w w.heap.size A n) (hn : n ≤ 1048576) (hc : n ≤ c) :
    Calls Try.prog 37 #[.slice A n c] w (PlRet w) := by
  have HB := Lib.hid hb
  clear hb
  go_enter Try.func37, Try.ntmps37
  go_wp2_with fail
  have hA := bel_a w (.cells #[.slice none 0 0, .slice none 0 0] 26)
  have hsA : (w.alloc (.cells #[.slice none 0 0, .slice none 0 0] 26)).heap.size = w.heap.size + 1 := by simp
  refine (l3Place_any A n c _ (by rw [hsA]; exact (HB.out.keep fun b o hb => hA.cell (p := ⟨b, o, none⟩) hb).more (by omega)) hn hc).mono ?_
  rintro e w1 ⟨vt, vb, ts, l, x, rfl, hit, hst, hts, hsz, hb1⟩
  rw [hsA] at hit hst
  have HR1 := Lib.hid (row_below (heap_alloc_new w (.cells #[.slice none 0 0, .slice none 0 0] 26)) hb1)
  have HB1 := Lib.hid (hA.trans (hb1.mono (by omega)))
  have HIT := Lib.hid hit
  have HST := Lib.hid hst
  obtain ⟨At, ct, rfl, -⟩ := hit.slice
  obtain ⟨Ab, cb, rfl, -⟩ := hst.slice
  clear hb1 hA hsA hit hst
  have z0 : w1.cell? ⟨w.heap.size, 0, none⟩ = some (.slice none 0 0) := by rw [cell_of_row _ _ _ _ _ _ HR1.out]; rfl
  have z1 : w1.cell? ⟨w.heap.size, 1, none⟩ = some (.slice none 0 0) := by rw [cell_of_row _ _ _ _ _ _ HR1.out]; rfl
  have zf0 := frozen_of_row w1 w.heap.size 0 _ _ HR1.out
  have zf1 := frozen_of_row w1 w.heap.size 1 _ _ HR1.out
  go_wp2_with fail
  refine bodyPost_ret (res_box (u := 3) rfl _ _ w.heap.size 26 _ (0, 0) _ rfl (box2 HR1.out _ _).1 Try.underlying26 rfl rfl) rfl ?_
  exact (pl_close (a := x) HB1.out (box2 HR1.out _ _).2 HIT.out HST.out (by omega) hts hsz)

end Go.Proofs.Ytgmipapdcihdpaa
