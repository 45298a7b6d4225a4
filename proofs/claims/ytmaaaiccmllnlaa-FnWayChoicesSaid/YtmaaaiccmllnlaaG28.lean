import Derived.Test.YtmaaaiccmllnlaaG27
import Derived.Test.YtmaaaiccmllnlaaG23
import Derived.Laws.OwnMore
import Derived.Test.YtmaaaiccmllnlaaG26
set_option linter.unusedVariables false

/- DrawNeedsOf, DrawTakesOf. -/
namespace Go.Proofs.Ytmaaaiccmllnlaa
open Go.RowKit

def DrRes (w : World) (e : Ending) (w' : World) : Prop :=
  ∃ (vt vb : Value) (ts : List Int) (l : List St), e = .returned (.agg #[vt, vb]) ∧ IntX w' (fun b => w.heap.size ≤ b) vt ts ∧ StX w' (fun b => w.heap.size ≤ b) vb l ∧ ts.length ≤ 700 ∧ szL l ≤ 100000 ∧ Below w.heap.size w w'
theorem grown_new {w a b : World} {g : Nat} (h : Below w.heap.size w a) (hg : w.heap.size ≤ g) (k : a.grownBy b (some g)) : Below w.heap.size w b :=
  ⟨k.os.trans h.os, k.tape.trans h.tape, k.output.trans h.output, Nat.le_trans h.size k.size, fun i hi => (k.block i (Nat.lt_of_lt_of_le hi h.size) (fun e => by injection e with e; omega)).trans (h.block i hi)⟩
theorem StX.addr {w : World} {P : Nat → Prop} {A : Option Addr} {n c : Nat} {l : List St} (h : StX w P (.slice A n c) l) (hn : 0 < l.length) : ∃ b off, A = some ⟨b, off, none⟩ := by
  cases h with
  | mk A c l tv ev hc hr ht he =>
    obtain ⟨b, off, e, _⟩ := hr hn
    exact ⟨b, off, e⟩
/-- statements without the first -/
theorem StX.tail {w : World} {P : Nat → Prop} {b off n c : Nat} {l : List St} (h : StX w P (.slice (some ⟨b, off, none⟩) n c) l) (hn : 0 < l.length) : StX w P (.slice (some ⟨b, off + 6, none⟩) (n - 1) (c - 1)) l.tail := by
  cases h with
  | mk A c l tv ev hc hr ht he =>
    obtain ⟨b', off', e, hb, hlt, hcell⟩ := hr hn
    injection e with e
    injection e with e1 e2
    subst e1 e2
    have hlen : l.length - 1 = l.tail.length := by simp
    rw [hlen]
    have hget : ∀ i (hi : i < l.tail.length), l.tail[i] = l[i + 1]'(by simp at hi; omega) := fun i hi => by simp
    refine .mk _ _ _ (fun i => tv (i + 1)) (fun i => ev (i + 1)) (by simp; omega) (fun _ => ⟨b, off + 6, rfl, hb, hlt, fun i hi => ?_⟩) (fun i hi => ?_) (fun i hi => ?_)
    · have := hcell (i + 1) (by simp at hi; omega)
      rw [hget]
      have e : off + (i + 1) * 6 = off + 6 + i * 6 := by omega
      rw [e] at this
      exact this
    · rw [hget]; exact ht (i + 1) (by simp at hi; omega)
    · rw [hget]; exact he (i + 1) (by simp at hi; omega)
theorem szL_tail (l : List St) : szL l.tail ≤ szL l := by
  cases l with
  | nil => exact Nat.le_refl _
  | cons a r => simp [szL]

theorem dr_close {w w3 W : World} {vt vb : Value} {ts : List Int} {l : List St} (h3 : Below w.heap.size w w3) (hW : w3.grownBy W (some w.heap.size)) (hT : IntX w3 (fun b => w.heap.size + 1 ≤ b) vt ts) (hB : StX w3 (fun b => w.heap.size + 1 ≤ b) vb l) (ht : ts.length ≤ 700) (hl : szL l ≤ 100000) :
    DrRes w (.returned (.agg #[vt, vb])) W := by
  have hk : ∀ b, w.heap.size + 1 ≤ b → b < w3.heap.size → w.heap.size ≤ b ∧ W.heap[b]? = w3.heap[b]? := fun b hb hl => ⟨by omega, hW.block b hl (fun e => by injection e with e; omega)⟩
  exact ⟨vt, vb, ts, l, rfl, hT.frame hW.size hk, hB.frame hW.size hk, ht, hl, grown_new h3 (Nat.le_refl _) hW⟩


end Go.Proofs.Ytmaaaiccmllnlaa

/- spec.l2Branch, l3Place, the draws of the flow laws. -/
namespace Go.Proofs.Ytmaaaiccmllnlaa
open Go.RowKit

def BrRet (w : World) (g p : Nat) (e : Ending) (w' : World) : Prop :=
  ∃ (vt vb : Value) (ts : List Int) (l : List St) (p' : Nat), e = .returned (.agg #[vt, vb]) ∧ IntX w' (fun b => w.heap.size ≤ b) vt ts ∧ StX w' (fun b => w.heap.size ≤ b) vb l ∧ ts.length ≤ 700 ∧ szL l ≤ 100000 ∧ p' ≤ p + 720 ∧ Dr w' g p' ∧ w.grownBy w' (some g)
theorem br_close {w w3 W : World} {g p p' : Nat} {vt vb : Value} {ts : List Int} {l : List St} (hg : g < w.heap.size) (h3 : w.grownBy w3 (some g)) (hW : w3.grownBy W (some w.heap.size)) (hd : Dr w3 g p') (hT : IntX w3 (fun b => w.heap.size + 1 ≤ b) vt ts) (hB : StX w3 (fun b => w.heap.size + 1 ≤ b) vb l) (ht : ts.length ≤ 700) (hl : szL l ≤ 100000) (hp : p' ≤ p + 720) (hlt : w.heap.size < w3.heap.size) :
    BrRet w g p (.returned (.agg #[vt, vb])) W := by
  have hk : ∀ b, w.heap.size + 1 ≤ b → b < w3.heap.size → w.heap.size ≤ b ∧ W.heap[b]? = w3.heap[b]? := fun b hb hl => ⟨by omega, hW.block b hl (fun e => by injection e with e; omega)⟩
  exact ⟨vt, vb, ts, l, p', rfl, hT.frame hW.size hk, hB.frame hW.size hk, ht, hl, hp, hd.low (grown_below hW hlt) hg, grown_base h3 (grown_below hW hlt)⟩

set_option maxHeartbeats 4000000
set_option maxRecDepth 100000
theorem l2Branch_any (g p : Nat) (w : World) (hd : Dr w g p) (hp : p + 720 ≤ 1000000) : Calls Try.prog 83 #[.pointer (some ⟨g, 0, none⟩)] w (BrRet w g p) := by
  have hg := hd.lt
  have HD := Lib.hid hd
  clear hd
  go_enter Try.func83, Try.ntmps83
  go_wp2_with fail
  refine (texts_any _).mono ?_
  rintro e w1 ⟨tl, rfl, htl, hok, hrow, hb1⟩
  have hs1 := hb1.size
  have hsa : (w.alloc (.cells #[.slice none 0 0, .slice none 0 0] 26)).heap.size = w.heap.size + 1 := by simp
  have hr0 := row_below (heap_alloc_new w (.cells #[.slice none 0 0, .slice none 0 0] 26)) hb1
  have HR0 := Lib.hid hr0
  have hlt1 := hrow.lt
  have HTX := Lib.hid hrow
  have HOK := Lib.hid hok
  have HTL := Lib.hid htl
  have HD1 := Lib.hid ((HD.out.low (bel_a w _) hg).low hb1 (by simp; omega))
  have HG1 := Lib.hid (grown_below' (grown_bel (bel_a w (.cells #[.slice none 0 0, .slice none 0 0] 26)) (Nat.le_refl _) (some g)) hb1)
  clear hb1 hr0 hrow hok htl
  rw [hsa] at hs1 hlt1 HTX ⊢
  clear hsa
  go_wp2_with fail
  refine (pick_any g p _ _ HD1.out (by omega) (by omega) (by omega)).mono ?_
  rintro e w2 ⟨k, rfl, k0, k1, hd2, hg2⟩
  have HR2 := Lib.hid (row_grown HR0.out hg2 (by omega))
  have HTX2 := Lib.hid (row_grown HTX.out hg2 (by omega))
  have HD2 := Lib.hid hd2
  have HG2 := Lib.hid (grown_tr HG1.out hg2)
  have hs2 := hg2.size
  clear hd2 hg2 k1
  by_cases hk : k = 0
  · subst hk
    go_wp2_with fail
    refine (pick_any g (p + 1) _ _ HD2.out (by omega) (by omega) (by omega)).mono ?_
    rintro e w3 ⟨j, rfl, j0, j1, hd3, hg3⟩
    have j2 := j1 (by omega)
    clear j1
    obtain ⟨j, rfl⟩ := Int.eq_ofNat_of_zero_le j0
    have hj : j < 8 := by omega
    obtain ⟨s, hs, hs600⟩ := strOk_get HOK.out (k := 9 + j) (by rw [HTL.out]; omega)
    have hr := row_grown HTX2.out hg3 (by omega)
    have hck : w3.cell? ⟨w.heap.size + 1, 9 + j, none⟩ = some (.string s) := (cell_of_row _ _ (9 + j) _ _ _ hr).trans (by simpa using hs)
    have hix : (9 : Int) + (j : Int) = ((9 + j : Nat) : Int) := by omega
    have hjl : (9 + j : Nat) < 25 := by omega
    have HD3 := Lib.hid hd3
    have HG3 := Lib.hid (grown_tr HG2.out hg3)
    have HR3 := Lib.hid (row_grown HR2.out hg3 (by omega))
    have hs3 := hg3.size
    clear hr hs hd3 hg3 hix
    go_wp2_with fail
    refine (parseProgram_any s _ hs600).mono ?_
    rintro e w4 ⟨vt, vb, ts, l, okb, rfl, hit, hsb, hlt, hlb, hb4⟩
    have hs4 := hb4.size
    have hA4 := bel_a w4 (.cells #[vt, vb] 26)
    have hsW : (w4.alloc (.cells #[vt, vb] 26)).heap.size = w4.heap.size + 1 := by simp
    have HR4 := Lib.hid (row_below (row_below HR3.out hb4) hA4)
    have HD4 := Lib.hid ((HD3.out.low hb4 HD3.out.lt).low hA4 (by omega))
    have HG4 := Lib.hid (grown_alloc (grown_below' HG3.out hb4) (.cells #[vt, vb] 26))
    have HIT := Lib.hid (hit.bel hA4)
    have HST := Lib.hid (hsb.bel hA4)
    obtain ⟨At, ct, rfl, -⟩ := hit.slice
    obtain ⟨Ab, cb, rfl, -⟩ := hsb.slice
    clear hit hsb hb4 hck hA4
    go_wp2_with fail
    generalize w4.alloc (.cells #[.slice At ts.length ct, .slice Ab l.length cb] 26) = W4 at *
    refine (mutate_any g (p + 1 + 1) _ _ ts l _ _ HIT.out.toS HST.out.toS (Nat.le_refl _) hlt hlb HD4.out (by omega)).mono ?_
    rintro e w5 ⟨vt', vb', ts', l', p5, rfl, hit', hst', hts', hsz', hp5, hd5, hg5⟩
    obtain ⟨At', ct', rfl, -⟩ := hit'.slice
    obtain ⟨Ab', cb', rfl, -⟩ := hst'.slice
    have hs5 := hg5.size
    have HR5 := Lib.hid (row_grown HR4.out hg5 (by omega))
    have HG5 := Lib.hid (grown_tr HG4.out hg5)
    have HD5 := Lib.hid hd5
    have HIT5 := Lib.hid hit'
    have HST5 := Lib.hid hst'
    clear hit' hst' hd5 hg5
    have z0 : w5.cell? ⟨w.heap.size, 0, none⟩ = some (.slice none 0 0) := by rw [cell_of_row _ _ _ _ _ _ HR5.out]; rfl
    have z1 : w5.cell? ⟨w.heap.size, 1, none⟩ = some (.slice none 0 0) := by rw [cell_of_row _ _ _ _ _ _ HR5.out]; rfl
    have zf0 := frozen_of_row w5 w.heap.size 0 _ _ HR5.out
    have zf1 := frozen_of_row w5 w.heap.size 1 _ _ HR5.out
    go_wp2_with fail
    exact bodyPost_ret (results_cell_row rfl _ _ w.heap.size 26 _ (0, 0) _ rfl (box2 HR5.out _ _).1 Try.underlying26 rfl rfl) rfl
      (br_close hg HG5.out (box2 HR5.out _ _).2 HD5.out (HIT5.out.frame (Nat.le_refl _) fun b hb _ => ⟨by have hb' : W4.heap.size ≤ b := hb; show w.heap.size + 1 ≤ b; omega, rfl⟩) (HST5.out.frame (Nat.le_refl _) fun b hb _ => ⟨by have hb' : W4.heap.size ≤ b := hb; show w.heap.size + 1 ≤ b; omega, rfl⟩) hts' hsz' (by omega) (by omega))
  · have hk1 : (k == 0) = false := by simpa using hk
    clear hk
    go_wp2_with fail
    refine (l1Draw_any g (p + 1) _ HD2.out (by omega)).mono ?_
    rintro e w3 ⟨vt, vb, ts, l, p3, rfl, hit, hst, hts, hsz, hp3, hd3, hg3⟩
    have HR3 := Lib.hid (row_grown HR2.out hg3 (by omega))
    have HG3 := Lib.hid (grown_tr HG2.out hg3)
    have hs3 := hg3.size
    have HD3 := Lib.hid hd3
    have HIT := Lib.hid hit
    have HST := Lib.hid hst
    clear hit hst hd3 hg3
    go_wp2_with fail
    refine (mutate_any g p3 _ _ ts l _ _ HIT.out.toS HST.out.toS (Nat.le_refl _) hts hsz HD3.out (by omega)).mono ?_
    rintro e w4 ⟨vt', vb', ts', l', p4, rfl, hit', hst', hts', hsz', hp4, hd4, hg4⟩
    obtain ⟨At, ct, rfl, -⟩ := hit'.slice
    obtain ⟨Ab, cb, rfl, -⟩ := hst'.slice
    have hs4 := hg4.size
    have HR4 := Lib.hid (row_grown HR3.out hg4 (by omega))
    have HG4 := Lib.hid (grown_tr HG3.out hg4)
    have HD4 := Lib.hid hd4
    have HIT4 := Lib.hid hit'
    have HST4 := Lib.hid hst'
    clear hit' hst' hd4 hg4
    have z0 : w4.cell? ⟨w.heap.size, 0, none⟩ = some (.slice none 0 0) := by rw [cell_of_row _ _ _ _ _ _ HR4.out]; rfl
    have z1 : w4.cell? ⟨w.heap.size, 1, none⟩ = some (.slice none 0 0) := by rw [cell_of_row _ _ _ _ _ _ HR4.out]; rfl
    have zf0 := frozen_of_row w4 w.heap.size 0 _ _ HR4.out
    have zf1 := frozen_of_row w4 w.heap.size 1 _ _ HR4.out
    go_wp2_with fail
    exact bodyPost_ret (results_cell_row rfl _ _ w.heap.size 26 _ (0, 0) _ rfl (box2 HR4.out _ _).1 Try.underlying26 rfl rfl) rfl
      (br_close hg HG4.out (box2 HR4.out _ _).2 HD4.out (HIT4.out.frame (Nat.le_refl _) fun b hb _ => ⟨by have hb' : w3.heap.size ≤ b := hb; show w.heap.size + 1 ≤ b; omega, rfl⟩) (HST4.out.frame (Nat.le_refl _) fun b hb _ => ⟨by have hb' : w3.heap.size ≤ b := hb; show w.heap.size + 1 ≤ b; omega, rfl⟩) hts' hsz' (by omega) (by omega))

def PlRet (w : World) (e : Ending) (w' : World) : Prop :=
  ∃ (vt vb : Value) (ts : List Int) (l : List St) (a : Int), e = .returned (.tuple #[.agg #[vt, vb], .int .i64 a]) ∧ IntX w' (fun b => w.heap.size ≤ b) vt ts ∧ StX w' (fun b => w.heap.size ≤ b) vb l ∧ ts.length ≤ 700 ∧ szL l ≤ 100000 ∧ Below w.heap.size w w'

theorem pl_set {w : World} {b g : Nat} {u0 u1 : Value} (hne : b ≠ g) (h0 : w.cell? ⟨b, 0, none⟩ = some u0) (h1 : w.cell? ⟨b, 1, none⟩ = some u1) (x y : Value) :
    ((w.setCell ⟨g, 0, none⟩ x).setCell ⟨g, 1, none⟩ y).cell? ⟨b, 0, none⟩ = some u0 ∧ ((w.setCell ⟨g, 0, none⟩ x).setCell ⟨g, 1, none⟩ y).cell? ⟨b, 1, none⟩ = some u1 := by
  have e := (heap_setCell_other (w.setCell ⟨g, 0, none⟩ x) ⟨g, 1, none⟩ b y hne).trans (heap_setCell_other w ⟨g, 0, none⟩ b x hne)
  exact ⟨(World.cell?_of_block (a := ⟨b, 0, none⟩) e).trans h0, (World.cell?_of_block (a := ⟨b, 1, none⟩) e).trans h1⟩
theorem pl_close {w w3 W : World} {vt vb : Value} {ts : List Int} {l : List St} {a : Int} {lo : Nat} (h3 : Below w.heap.size w w3) (hW : w3.grownBy W (some w.heap.size)) (hT : IntX w3 (fun b => lo ≤ b) vt ts) (hB : StX w3 (fun b => lo ≤ b) vb l) (hlo : w.heap.size < lo) (ht : ts.length ≤ 700) (hl : szL l ≤ 100000) :
    PlRet w (.returned (.tuple #[.agg #[vt, vb], .int .i64 a])) W := by
  have hk : ∀ b, lo ≤ b → b < w3.heap.size → w.heap.size ≤ b ∧ W.heap[b]? = w3.heap[b]? := fun b hb hl => ⟨by omega, hW.block b hl (fun e => by injection e with e; omega)⟩
  exact ⟨vt, vb, ts, l, a, rfl, hT.frame hW.size hk, hB.frame hW.size hk, ht, hl, grown_new h3 (Nat.le_refl _) hW⟩

theorem l3Place_any (A : Option Addr) (n c : Nat) (w : World) (hb : Byt w w.heap.size A n) (hn : n ≤ 1048576) (hc : n ≤ c) :
    Calls Try.prog 75 #[.slice A n c] w (PlRet w) := by
  have HB := Lib.hid hb
  clear hb
  go_enter Try.func75, Try.ntmps75
  go_wp2_with fail
  have hA := bel_a w (.cells #[.slice none 0 0, .slice none 0 0] 26)
  have hsA : (w.alloc (.cells #[.slice none 0 0, .slice none 0 0] 26)).heap.size = w.heap.size + 1 := by simp
  refine (l17Open_any A n c _ (by rw [hsA]; exact (HB.out.keep fun b o hb => hA.cell (p := ⟨b, o, none⟩) hb).more (by omega)) hn hc).mono ?_
  rw [hsA]
  rintro e w1 ⟨rfl, hd1, hb1⟩
  have hb1' : Below (w.alloc (.cells #[.slice none 0 0, .slice none 0 0] 26)).heap.size (w.alloc (.cells #[.slice none 0 0, .slice none 0 0] 26)) w1 := by rw [hsA]; exact hb1
  have hs1 : w.heap.size + 1 < w1.heap.size := hd1.lt
  have HR1 := Lib.hid (row_below (heap_alloc_new w (.cells #[.slice none 0 0, .slice none 0 0] 26)) hb1')
  have HB1 := Lib.hid (hA.trans (hb1.mono (by omega)))
  have HD1 := Lib.hid hd1
  clear hb1 hb1' hd1 hA hsA
  go_wp2_with fail
  refine (l2Branch_any (w.heap.size + 1) 0 _ HD1.out (by omega)).mono ?_
  rintro e w2 ⟨vt, vb, ts, l, p2, rfl, hit, hst, hts, hsz, hp2, hd2, hg2⟩
  have hs2 := hg2.size
  have hA2 := bel_a w2 (.cells #[vt, vb] 26)
  have hsW : (w2.alloc (.cells #[vt, vb] 26)).heap.size = w2.heap.size + 1 := by simp
  have HR2 := Lib.hid (row_below (row_grown HR1.out hg2 (by omega)) hA2)
  have HRP := Lib.hid (heap_alloc_new w2 (.cells #[vt, vb] 26))
  have HD2 := Lib.hid (hd2.low hA2 (by omega))
  have HB2 := Lib.hid ((grown_new HB1.out (by omega) hg2).trans (hA2.mono (by omega)))
  have HIT := Lib.hid (hit.bel hA2)
  have HST := Lib.hid (hst.bel hA2)
  obtain ⟨At, ct, rfl, -⟩ := hit.slice
  obtain ⟨Ab, cb, rfl, -⟩ := hst.slice
  clear hit hst hd2 hg2 hA2
  go_wp2_with fail
  generalize w2.alloc (.cells #[.slice At ts.length ct, .slice Ab l.length cb] 26) = W2 at *
  refine (sPointsOf_any _ _ ts l _ _ HIT.out.toS HST.out.toS (Nat.le_refl _) (by omega)).mono ?_
  rintro e w3 ⟨vp, rfl, hps, hb3⟩
  obtain ⟨Ap, cp, rfl, hcp, hpl⟩ := hps.slice
  have hs3 := hb3.size
  have HR3 := Lib.hid (row_below HR2.out hb3)
  have HRP3 := Lib.hid (row_below HRP.out hb3)
  have HD3 := Lib.hid (HD2.out.low hb3 (by omega))
  have HB3 := Lib.hid (HB2.out.trans (hb3.mono (by omega)))
  have HIT3 := Lib.hid (HIT.out.bel hb3)
  have HST3 := Lib.hid (HST.out.bel hb3)
  obtain ⟨np, hnp⟩ : ∃ np, np = (pointsP ts l).length := ⟨_, rfl⟩
  rw [← hnp] at hcp hpl ⊢
  have hnp61 : np ≤ 61 := by
    rw [hnp]; unfold pointsP
    split
    · rename_i hv; exact ptsP_le hv
    · simp
  clear hps hb3 hnp
  have hw2 : w.heap.size < w2.heap.size := by omega
  have q0 : w3.cell? ⟨w2.heap.size, 0, none⟩ = some (.slice At ts.length ct) := by rw [cell_of_row _ _ _ _ _ _ HRP3.out]; rfl
  have q1 : w3.cell? ⟨w2.heap.size, 1, none⟩ = some (.slice Ab l.length cb) := by rw [cell_of_row _ _ _ _ _ _ HRP3.out]; rfl
  by_cases hz : np = 0
  · have hz1 : ((np : Int) == 0) = true := by simp [hz]
    clear hz
    go_wp2_with fail
    have CN : Calls Try.prog 70 #[.pointer (some ⟨w.heap.size + 1, 0, none⟩), .slice (some ⟨w3.heap.size, 0, none⟩) 3 3] (w3.alloc (.cells #[.int .i64 (-1), .int .i64 60, .int .i64 0] 3)).drew (fun e w' => ∃ x : Int, e = .returned (.int .i64 x) ∧ x ∈ [-1, 60, 0] ∧ Dr w' (w.heap.size + 1) (p2 + 1) ∧ (w3.alloc (.cells #[.int .i64 (-1), .int .i64 60, .int .i64 0] 3)).drew.grownBy w' (some (w.heap.size + 1))) :=
      num_any (w.heap.size + 1) _ _ [-1, 60, 0] 3 _ (HD3.out.low ((bel_a w3 (.cells #[.int .i64 (-1), .int .i64 60, .int .i64 0] 3)).drew) (by omega)) (by omega) (RowB.new w3 _ _) (by omega) (by simp) (by simp)
    have HCN := Lib.hid CN
    have HWA := Lib.hid (bel_a w3 (.cells #[.int .i64 (-1), .int .i64 60, .int .i64 0] 3)).drew
    have HSW := Lib.hid (show (w3.alloc (.cells #[.int .i64 (-1), .int .i64 60, .int .i64 0] 3)).drew.heap.size = w3.heap.size + 1 by simp)
    clear CN
    go_region_held3 (fun w' => w'.cell? ⟨w2.heap.size, 0, none⟩ = some (.slice At ts.length ct) ∧ w'.cell? ⟨w2.heap.size, 1, none⟩ = some (.slice Ab l.length cb))
      (first | exact ⟨q0, q1⟩ | exact ⟨q07, q17⟩ | exact Q9.out | assumption | go_keep)
      (first
        | (go_at_call 70; (with_reducible refine HCN.out.mono ?_); (rintro e w7 ⟨x, rfl, hx, hd7, hg7⟩); (have hs7 := hg7.size); (rw [HSW.out] at hs7); (have hr7 := row_grown (row_below HR3.out HWA.out) hg7 (by omega)); (have hrp7 := row_grown (row_below HRP3.out HWA.out) hg7 (by omega)); (have q07 : w7.cell? ⟨w2.heap.size, 0, none⟩ = some (.slice At ts.length ct) := by (rw [cell_of_row _ _ _ _ _ _ hrp7]; rfl)); (have q17 : w7.cell? ⟨w2.heap.size, 1, none⟩ = some (.slice Ab l.length cb) := by (rw [cell_of_row _ _ _ _ _ _ hrp7]; rfl)); (have z07 : w7.cell? ⟨w.heap.size, 0, none⟩ = some (.slice none 0 0) := by (rw [cell_of_row _ _ _ _ _ _ hr7]; rfl)); (have z17 : w7.cell? ⟨w.heap.size, 1, none⟩ = some (.slice none 0 0) := by (rw [cell_of_row _ _ _ _ _ _ hr7]; rfl)); (have zf07 := frozen_of_row w7 w.heap.size 0 _ _ hr7); (have zf17 := frozen_of_row w7 w.heap.size 1 _ _ hr7); (have HR9 := Lib.hid hr7); (have HG9 := Lib.hid hg7); (have Q9 := Lib.hid (pl_set (Ne.symm (Nat.ne_of_lt hw2)) q07 q17 (.slice At ts.length ct) (.slice Ab l.length cb))); clear hx hd7 hg7 hr7 hrp7)
        | fail)
    have HB9 := Lib.hid (grown_new (HB3.out.trans (HWA.out.mono HB3.out.size)) (by omega) HG9.out)
    have HIT9 := Lib.hid (((HIT3.out.bel HWA.out).grown HG9.out (by show ¬ (w1.heap.size ≤ w.heap.size + 1); omega)))
    have HST9 := Lib.hid (((HST3.out.bel HWA.out).grown HG9.out (by show ¬ (w1.heap.size ≤ w.heap.size + 1); omega)))
    go_wp2_with fail
    refine bodyPost_ret (res_box (u := 3) rfl _ _ w.heap.size 26 _ (0, 0) _ rfl (box2 HR9.out _ _).1 Try.underlying26 rfl rfl) rfl ?_
    exact (pl_close (a := x) HB9.out (box2 HR9.out _ _).2 HIT9.out HST9.out (by omega) hts hsz)

  · have hz1 : ((np : Int) == 0) = false := by simpa using hz
    have hz2 : 0 < np := by omega
    clear hz
    go_wp2_with fail
    refine (pick_any (w.heap.size + 1) p2 _ _ HD3.out (by omega) (by omega) (by omega)).mono ?_
    rintro e w4 ⟨k, rfl, -, -, hd4, hg4⟩
    have hs4 := hg4.size
    have HR4 := Lib.hid (row_grown HR3.out hg4 (by omega))
    have HRP4 := Lib.hid (row_grown HRP3.out hg4 (by omega))
    have HD4 := Lib.hid hd4
    have HB4 := Lib.hid (grown_new HB3.out (by omega) hg4)
    have HIT4 := Lib.hid (HIT3.out.grown hg4 (by show ¬ (w1.heap.size ≤ w.heap.size + 1); omega))
    have HST4 := Lib.hid (HST3.out.grown hg4 (by show ¬ (w1.heap.size ≤ w.heap.size + 1); omega))
    clear hd4 hg4 q0 q1
    have q0 : w4.cell? ⟨w2.heap.size, 0, none⟩ = some (.slice At ts.length ct) := by rw [cell_of_row _ _ _ _ _ _ HRP4.out]; rfl
    have q1 : w4.cell? ⟨w2.heap.size, 1, none⟩ = some (.slice Ab l.length cb) := by rw [cell_of_row _ _ _ _ _ _ HRP4.out]; rfl
    by_cases hk : k = 0
    · subst hk
      go_wp2_with fail
      have CN : Calls Try.prog 70 #[.pointer (some ⟨w.heap.size + 1, 0, none⟩), .slice (some ⟨w4.heap.size, 0, none⟩) 3 3] (w4.alloc (.cells #[.int .i64 (-1), .int .i64 60, .int .i64 0] 3)).drew (fun e w' => ∃ x : Int, e = .returned (.int .i64 x) ∧ x ∈ [-1, 60, 0] ∧ Dr w' (w.heap.size + 1) ((p2 + 1) + 1) ∧ (w4.alloc (.cells #[.int .i64 (-1), .int .i64 60, .int .i64 0] 3)).drew.grownBy w' (some (w.heap.size + 1))) :=
        num_any (w.heap.size + 1) _ _ [-1, 60, 0] 3 _ (HD4.out.low ((bel_a w4 (.cells #[.int .i64 (-1), .int .i64 60, .int .i64 0] 3)).drew) (by omega)) (by omega) (RowB.new w4 _ _) (by omega) (by simp) (by simp)
      have HCN := Lib.hid CN
      have HWA := Lib.hid (bel_a w4 (.cells #[.int .i64 (-1), .int .i64 60, .int .i64 0] 3)).drew
      have HSW := Lib.hid (show (w4.alloc (.cells #[.int .i64 (-1), .int .i64 60, .int .i64 0] 3)).drew.heap.size = w4.heap.size + 1 by simp)
      clear CN
      go_region_held3 (fun w' => w'.cell? ⟨w2.heap.size, 0, none⟩ = some (.slice At ts.length ct) ∧ w'.cell? ⟨w2.heap.size, 1, none⟩ = some (.slice Ab l.length cb))
        (first | exact ⟨q0, q1⟩ | exact ⟨q07, q17⟩ | exact Q9.out | assumption | go_keep)
        (first
          | (go_at_call 70; (with_reducible refine HCN.out.mono ?_); (rintro e w7 ⟨x, rfl, hx, hd7, hg7⟩); (have hs7 := hg7.size); (rw [HSW.out] at hs7); (have hr7 := row_grown (row_below HR4.out HWA.out) hg7 (by omega)); (have hrp7 := row_grown (row_below HRP4.out HWA.out) hg7 (by omega)); (have q07 : w7.cell? ⟨w2.heap.size, 0, none⟩ = some (.slice At ts.length ct) := by (rw [cell_of_row _ _ _ _ _ _ hrp7]; rfl)); (have q17 : w7.cell? ⟨w2.heap.size, 1, none⟩ = some (.slice Ab l.length cb) := by (rw [cell_of_row _ _ _ _ _ _ hrp7]; rfl)); (have z07 : w7.cell? ⟨w.heap.size, 0, none⟩ = some (.slice none 0 0) := by (rw [cell_of_row _ _ _ _ _ _ hr7]; rfl)); (have z17 : w7.cell? ⟨w.heap.size, 1, none⟩ = some (.slice none 0 0) := by (rw [cell_of_row _ _ _ _ _ _ hr7]; rfl)); (have zf07 := frozen_of_row w7 w.heap.size 0 _ _ hr7); (have zf17 := frozen_of_row w7 w.heap.size 1 _ _ hr7); (have HR9 := Lib.hid hr7); (have HG9 := Lib.hid hg7); (have Q9 := Lib.hid (pl_set (Ne.symm (Nat.ne_of_lt hw2)) q07 q17 (.slice At ts.length ct) (.slice Ab l.length cb))); clear hx hd7 hg7 hr7 hrp7)
          | fail)
      have HB9 := Lib.hid (grown_new (HB4.out.trans (HWA.out.mono HB4.out.size)) (by omega) HG9.out)
      have HIT9 := Lib.hid (((HIT4.out.bel HWA.out).grown HG9.out (by show ¬ (w1.heap.size ≤ w.heap.size + 1); omega)))
      have HST9 := Lib.hid (((HST4.out.bel HWA.out).grown HG9.out (by show ¬ (w1.heap.size ≤ w.heap.size + 1); omega)))
      go_wp2_with fail
      refine bodyPost_ret (res_box (u := 3) rfl _ _ w.heap.size 26 _ (0, 0) _ rfl (box2 HR9.out _ _).1 Try.underlying26 rfl rfl) rfl ?_
      exact (pl_close (a := x) HB9.out (box2 HR9.out _ _).2 HIT9.out HST9.out (by omega) hts hsz)

    · have hk1 : (k == 0) = false := by simpa using hk
      clear hk
      go_wp2_with fail
      have HCN := Lib.hid (pick_any (w.heap.size + 1) (p2 + 1) ((np : Nat) : Int) w4.drew (HD4.out.low (Below.refl _ _).drew (by omega)) (by omega) (by omega) (by omega))
      have HWA := Lib.hid ((Below.refl w4.heap.size w4).drew)
      have HSW := Lib.hid (show w4.drew.heap.size = w4.heap.size by simp)
      go_region_held3 (fun w' => w'.cell? ⟨w2.heap.size, 0, none⟩ = some (.slice At ts.length ct) ∧ w'.cell? ⟨w2.heap.size, 1, none⟩ = some (.slice Ab l.length cb))
        (first | exact ⟨q0, q1⟩ | exact ⟨q07, q17⟩ | exact Q9.out | assumption | go_keep)
        (first
          | (go_at_call 56; (with_reducible refine HCN.out.mono ?_); (rintro e w7 ⟨x, rfl, -, -, hd7, hg7⟩); (have hs7 := hg7.size); (rw [HSW.out] at hs7); (have hr7 := row_grown (row_below HR4.out HWA.out) hg7 (by omega)); (have hrp7 := row_grown (row_below HRP4.out HWA.out) hg7 (by omega)); (have q07 : w7.cell? ⟨w2.heap.size, 0, none⟩ = some (.slice At ts.length ct) := by (rw [cell_of_row _ _ _ _ _ _ hrp7]; rfl)); (have q17 : w7.cell? ⟨w2.heap.size, 1, none⟩ = some (.slice Ab l.length cb) := by (rw [cell_of_row _ _ _ _ _ _ hrp7]; rfl)); (have z07 : w7.cell? ⟨w.heap.size, 0, none⟩ = some (.slice none 0 0) := by (rw [cell_of_row _ _ _ _ _ _ hr7]; rfl)); (have z17 : w7.cell? ⟨w.heap.size, 1, none⟩ = some (.slice none 0 0) := by (rw [cell_of_row _ _ _ _ _ _ hr7]; rfl)); (have zf07 := frozen_of_row w7 w.heap.size 0 _ _ hr7); (have zf17 := frozen_of_row w7 w.heap.size 1 _ _ hr7); (have HR9 := Lib.hid hr7); (have HG9 := Lib.hid hg7); (have Q9 := Lib.hid (pl_set (Ne.symm (Nat.ne_of_lt hw2)) q07 q17 (.slice At ts.length ct) (.slice Ab l.length cb))); clear hd7 hg7 hr7 hrp7)
          | fail)
      have HB9 := Lib.hid (grown_new (HB4.out.trans (HWA.out.mono HB4.out.size)) (by omega) HG9.out)
      have HIT9 := Lib.hid (((HIT4.out.bel HWA.out).grown HG9.out (by show ¬ (w1.heap.size ≤ w.heap.size + 1); omega)))
      have HST9 := Lib.hid (((HST4.out.bel HWA.out).grown HG9.out (by show ¬ (w1.heap.size ≤ w.heap.size + 1); omega)))
      go_wp2_with fail
      refine bodyPost_ret (res_box (u := 3) rfl _ _ w.heap.size 26 _ (0, 0) _ rfl (box2 HR9.out _ _).1 Try.underlying26 rfl rfl) rfl ?_
      exact (pl_close (a := x) HB9.out (box2 HR9.out _ _).2 HIT9.out HST9.out (by omega) hts hsz)

end Go.Proofs.Ytmaaaiccmllnlaa

/- FnTakesOf: the draw, the plain law, the walk. -/
namespace Go.Proofs.Ytmaaaiccmllnlaa
open Go.RowKit


theorem use_two {ts : List Int} {p : Pt} {v : Nat} (hp : PtOk ts p) (h : useP ts p.op p.x p.y (v : Nat) = 2) : typeOfP ts v = 2 ∨ typeOfP ts v = 4 := by
  unfold useP at h
  repeat' split at h
  all_goals first | omega | skip
  · rename_i h8 hv
    rcases hp with h9 | h9 | h9 | h9
    · omega
    · omega
    · omega
    · left
      unfold simpleP at h9
      rw [hv]
      rw [h8] at h9
      simp at h9
      exact h9.2.1
theorem take_mem {ts : List Int} {l : List St} {i : Nat} (hi : i < (takeRes ts l).length) : ∃ v : Nat, (takeRes ts l).getD i 0 = (v : Nat) ∧ v < ts.length ∧ (ts.getD v 0 = 2 ∨ ts.getD v 0 = 4) := by
  have hm : (takeRes ts l).getD i 0 ∈ takeRes ts l := by rw [getD_lt hi]; exact List.getElem_mem hi
  generalize (takeRes ts l).getD i 0 = x at *
  unfold takeRes at hm
  split at hm
  · rename_i hv
    obtain ⟨v, h1, h2, rfl⟩ := lst_mem.1 hm
    obtain ⟨p, hp, hu⟩ := List.any_eq_true.1 h2
    refine ⟨v, rfl, h1, ?_⟩
    have := use_two (ptsP_ok hv p hp) (by simpa using hu)
    unfold typeOfP at this
    rw [if_pos (by omega)] at this
    simpa using this
  · simp at hm
theorem take_len (ts : List Int) (l : List St) : (takeRes ts l).length ≤ ts.length := by
  unfold takeRes
  split
  · exact lst_len _ _
  · simp

def LawRet (w : World) (e : Ending) (w' : World) : Prop := e = .returned (.bool true) ∧ Below w.heap.size w w'

end Go.Proofs.Ytmaaaiccmllnlaa

/- Words for the laws' walks: a drawn program in its box. The plain law of NeedsOpen. -/
namespace Go.Proofs.Ytmaaaiccmllnlaa
open Go.RowKit

/-- the program (vt, vb) lies in the box g and reads as (ts, l); what was in w is as it was -/
structure PgB (w W : World) (g : Nat) (vt vb : Value) (ts : List Int) (l : List St) : Prop where
  bel : Below w.heap.size w W
  row : W.heap[g]? = some (.cells #[vt, vb] 26 (0, 0))
  ht : IntS W W.heap.size vt ts
  hl : StS W W.heap.size vb l
theorem PgB.lt {w W : World} {g : Nat} {vt vb : Value} {ts : List Int} {l : List St} (h : PgB w W g vt vb ts l) : g < W.heap.size := row_lt h.row
theorem PgB.c0 {w W : World} {g : Nat} {vt vb : Value} {ts : List Int} {l : List St} (h : PgB w W g vt vb ts l) : W.cell? ⟨g, 0, none⟩ = some vt := by rw [cell_of_row _ _ _ _ _ _ h.row]; rfl
theorem PgB.c1 {w W : World} {g : Nat} {vt vb : Value} {ts : List Int} {l : List St} (h : PgB w W g vt vb ts l) : W.cell? ⟨g, 1, none⟩ = some vb := by rw [cell_of_row _ _ _ _ _ _ h.row]; rfl
theorem PgB.bels {w W W' : World} {g : Nat} {vt vb : Value} {ts : List Int} {l : List St} (h : PgB w W g vt vb ts l) (hb : Below W.heap.size W W') : PgB w W' g vt vb ts l :=
  ⟨h.bel.trans (hb.mono h.bel.size), row_below h.row hb, (h.ht.low hb (Nat.le_refl _)).more hb.size, (h.hl.low hb (Nat.le_refl _)).more hb.size⟩
theorem PgB.new {w w1 : World} {vt vb : Value} {ts : List Int} {l : List St} {P Q : Nat → Prop} (ht : IntX w1 P vt ts) (hl : StX w1 Q vb l) (hb : Below w.heap.size w w1) : PgB w (w1.alloc (.cells #[vt, vb] 26)) w1.heap.size vt vb ts l := by
  have hA := bel_a w1 (.cells #[vt, vb] 26)
  exact ⟨hb.trans (hA.mono hb.size), heap_alloc_new w1 _, ((ht.toS).low hA (Nat.le_refl _)).more hA.size, ((hl.toS).low hA (Nat.le_refl _)).more hA.size⟩
theorem IntS.bel {w w' : World} {v : Value} {l : List Int} (h : IntS w w.heap.size v l) (hb : Below w.heap.size w w') : IntS w' w'.heap.size v l := (h.low hb (Nat.le_refl _)).more hb.size
theorem PtS.bel {w w' : World} {v : Value} {pts : List Pt} (h : PtS w w.heap.size v pts) (hb : Below w.heap.size w w') : PtS w' w'.heap.size v pts := (h.low hb (Nat.le_refl _)).more hb.size

theorem graphOk_zero {ts : List Int} {l : List St} : graphOk ts l [0] = validP ts l := by
  have := ptsP_pos l
  simp only [graphOk, List.all_cons, List.all_nil, Bool.and_true, withinP]
  cases validP ts l
  · rfl
  · simp; omega
theorem ptAt_zero {l : List St} : ptAt (ptsP l) 0 = (ptsP l)[0]'(ptsP_pos l) := ptAt_nat (k := 0) (ptsP_pos l)
theorem nd_step {ts : List Int} {pts : List Pt} {i v : Nat} {p : Pt} (hp : pts[i]? = some p) (hv : v < ts.length) :
    dec (Nd ts pts i v) = ((useP ts p.op p.x p.y (v : Nat) != 0) || ((setsP p.op p.x != (v : Nat)) && p.next.any fun j => dec (Nd ts pts j v))) := by
  rw [Bool.eq_iff_iff, dec_iff, Bool.or_eq_true, Bool.and_eq_true, List.any_eq_true]
  constructor
  · intro h
    cases h with
    | use hp' _ hu => rw [hp] at hp'; injection hp' with hp'; subst hp'; left; simpa using hu
    | flow hp' hk hd hs => rw [hp] at hp'; injection hp' with hp'; subst hp'; exact .inr ⟨by simpa using hs, _, hk, dec_true hd⟩
  · rintro (h | ⟨hs, k, hk, hd⟩)
    · exact .use hp hv (by simpa using h)
    · exact .flow hp hk (dec_iff.1 hd) (by simpa using hs)
theorem liveAt_has {ts : List Int} {pts : List Pt} {i v : Nat} {p : Pt} (hp : pts[i]? = some p) (hv : v < ts.length) : hasP (liveAt ts pts i) v = p.next.any fun j => dec (Nd ts pts j v) := by
  unfold liveAt
  rw [lst_has, decide_eq_true hv, Bool.true_and, hp]
theorem needs_open (ts : List Int) (l : List St) {v : Nat} (hv : v < ts.length) : hasP (needRes ts l) v = ((useRes ts l 0 v != 0) || ((setRes ts l 0 != v) && hasP (liveRes ts l 0) v)) := by
  unfold needRes useRes setRes liveRes
  rw [graphOk_zero]
  cases hval : validP ts l
  · simp [hasP]
  · have hw : withinP (v : Nat) 0 ((ts.length : Int) - 1) = true := by unfold withinP; simp; omega
    have hp0 := ptsP_pos l
    have hp : (ptsP l)[0]? = some (ptsP l)[0] := List.getElem?_eq_getElem hp0
    simp only [if_true, hw, and_self]
    rw [lst_has, decide_eq_true hv, Bool.true_and, nd_step hp hv, ptAt_zero, show (0 : Int).toNat = 0 from rfl, liveAt_has hp hv]

end Go.Proofs.Ytmaaaiccmllnlaa

/- Rows of bools that a call owns; spec.l3After. -/
namespace Go.Proofs.Ytmaaaiccmllnlaa
open Go.RowKit

def OBools (w : World) (base : Nat) (v : Value) (l : List Bool) : Prop := w.ownsRow base 4 1 v l.length (bv l)
theorem OBools.empty (w : World) (base : Nat) (hb : base ≤ w.heap.size) : OBools (w.alloc (.cells #[] 4)) base (.slice (some ⟨w.heap.size, 0, none⟩) 0 0) [] :=
  World.ownsRow_lit (base := base) (e := 4) (size := 1) w #[] 0 hb (by simp [maxLen]) rfl
theorem OBools.slice {w : World} {base : Nat} {v : Value} {l : List Bool} (h : OBools w base v l) : ∃ A c, v = .slice A l.length c ∧ l.length ≤ c := by
  rcases h.2 with ⟨rfl, h0⟩ | ⟨g, cap, cur, rfl, _, _, hc, _⟩
  · exact ⟨none, 0, by rw [h0], by omega⟩
  · exact ⟨_, cap, rfl, hc⟩
theorem OBools.bel {w w' : World} {base : Nat} {v : Value} {l : List Bool} (h : OBools w base v l) (hb : Below w.heap.size w w') : OBools w' base v l :=
  h.kept (grown_bel hb (Nat.le_refl _) none) (by cases v.ownBlock <;> simp)
theorem OBools.base {w : World} {base base' : Nat} {v : Value} {l : List Bool} (h : OBools w base v l) (hb : base' ≤ base) : OBools w base' v l := by
  refine ⟨h.1, ?_⟩
  rcases h.2 with h' | ⟨g, cap, cur, rfl, hbg, rest⟩
  · exact .inl h'
  · exact .inr ⟨g, cap, cur, rfl, by omega, rest⟩
theorem OBools.at_ {w : World} {base : Nat} {A : Option Addr} {n c : Nat} {l : List Bool} (h : OBools w base (.slice A n c) l) {k : Nat} (hk : k < l.length) :
    ∃ g, A = some ⟨g, 0, none⟩ ∧ base ≤ g ∧ g < w.heap.size ∧ n = l.length ∧ w.cell? ⟨g, k, none⟩ = some (.bool (l.getD k false)) ∧ w.frozen? ⟨g, k, none⟩ = false := by
  obtain ⟨A', c', e, _⟩ := h.slice
  injection e with _ e2 _
  subst e2
  obtain ⟨g, cap, e, hb, hlt⟩ := h.form (by omega)
  injection e with e1 _ e3
  subst e1 e3
  exact ⟨g, rfl, hb, hlt, rfl, by rw [h.cellAt k (by omega), bv_get hk], h.frozenAt k⟩
theorem OBools.toS {w : World} {base : Nat} {v : Value} {l : List Bool} (h : OBools w base v l) (hl : l.length ≤ 4194304) : BoolS w w.heap.size v l := by
  obtain ⟨A, c, rfl, hc⟩ := h.slice
  refine ⟨A, c, rfl, hc, hl, by simp, fun hn => ?_⟩
  obtain ⟨g, cap, e, hb, hlt⟩ := h.form hn
  injection e with e1 _ e2
  subst e1 e2
  refine ⟨g, 0, rfl, hlt, fun j u hu => ?_⟩
  rw [Nat.zero_add, h.cellAt j (by have := (List.getElem?_eq_some_iff.1 hu).1; simp at this; omega)]
  exact hu
theorem OBools.set {w : World} {base g n c : Nat} {l : List Bool} (h : OBools w base (.slice (some ⟨g, 0, none⟩) n c) l) (k : Nat) (b : Bool) : OBools (w.setCell ⟨g, k, none⟩ (.bool b)) base (.slice (some ⟨g, 0, none⟩) n c) (l.set k b) := by
  have hn : n = l.length := by
    obtain ⟨A, c', e, _⟩ := h.slice
    injection e
  subst hn
  have := (World.ownsRow.stored h k (.bool b)).1
  unfold OBools
  rw [List.length_set, ← bv_set]
  exact this
theorem run_appb_nil (w : World) (base : Nat) (ty : TypeId) (v : Value) (l : List Bool) (hP : OBools w base v l) (c : Nat) : (Builtin.append_ #[89, 89] ty #[v, .slice none 0 c]).run Try.prog w = .ok v w := by
  obtain ⟨i0, hi0, hz0, hz1, hz2⟩ := info_parts Try.infoBool
  rcases hP.2 with ⟨rfl, h0⟩ | ⟨g, cap, cur, rfl, _, _, hnc, _⟩
  · simp [Builtin.append_, run_underlying Try.underlying89, sizeOf, typeInfo, hi0, Builtin.lenOf, Builtin.firstCells]
  · simp [Builtin.append_, run_underlying Try.underlying89, sizeOf, typeInfo, hi0, Builtin.lenOf, Builtin.firstCells, hnc, storeCells]
theorem run_app_bools (w : World) (base : Nat) (ty : TypeId) (v : Value) (l : List Bool) (hP : OBools w base v l) (B : Nat) (vs : Value) (ts : List Bool) (hr : BoolS w B vs ts) (hb : base ≤ w.heap.size) (hn : l.length + ts.length ≤ 8388608) :
    ∃ v' w', (Builtin.append_ #[89, 89] ty #[v, vs]).run Try.prog w = .ok v' w' ∧ OBools w' base v' (l ++ ts) ∧ w.grownBy w' v.ownBlock ∧ (v'.ownBlock = v.ownBlock ∨ v'.ownBlock = some w.heap.size) := by
  obtain ⟨A, c, rfl, hc, hm, hrd⟩ := hr
  rcases Nat.eq_zero_or_pos ts.length with h0 | h0
  · have hts : ts = [] := List.length_eq_zero_iff.1 h0
    subst hts
    rcases A with _ | ad
    · exact ⟨v, w, run_appb_nil w base ty v l hP c, by simpa using hP, World.grownBy.refl w _, .inl rfl⟩
    · obtain ⟨i0, hi0, hz0, hz1, hz2⟩ := info_parts Try.infoBool
      obtain ⟨v', w', hrun, h2, h3, _, h5⟩ := run_append_own_at (P := Try.prog) w base 89 ty 4 i0 _ 1 1 Try.underlying89 hi0 hz0 hz1 hz2 rfl (by omega) v l.length _ hP ad 0 c [] rfl (fun j u h => by simp at h) (fun u h => by simp at h) (by simp only [maxLen]; omega) (by omega) hb
      exact ⟨v', w', hrun, by simpa [OBools] using h2, h3, h5⟩
  · obtain ⟨b, off, rfl, hbl, hcell⟩ := hrd.2 h0
    obtain ⟨i0, hi0, hz0, hz1, hz2⟩ := info_parts Try.infoBool
    obtain ⟨v', w', hrun, h2, h3, _, h5⟩ := run_append_own_at (P := Try.prog) w base 89 ty 4 i0 _ 1 1 Try.underlying89 hi0 hz0 hz1 hz2 rfl (by omega) v l.length _ hP ⟨b, off, none⟩ ts.length c (ts.map .bool) (by simp)
      (fun j u h => by
        rcases Nat.eq_zero_or_pos j with hj | hj
        · subst hj; simpa [Addr.add] using hcell 0 u h
        · have := hcell j u h
          have hj0 : j ≠ 0 := by omega
          simpa [Addr.add, hj0] using this)
      (fun u h => by obtain ⟨x, _, rfl⟩ := List.mem_map.1 h; rfl) (by simp only [maxLen]; omega) (by omega) hb
    exact ⟨v', w', hrun, by simpa [OBools, bv] using h2, h3, h5⟩
theorem wpList_app_bools {ops : Array Oper} {rest : List Oper} {o : Oper} {a : Act} {Q : Exit → Act → World → Prop} {w : World} (hgd : o.guard = none) (s x : Operand)
    (ho : o.op = .call { callee := .builtin .append, args := #[s, x], argTypes := #[89, 89] })
    (base : Nat) (v : Value) (l : List Bool) (hs : a.eval s = v) (hP : OBools w base v l) (B : Nat) (vs : Value) (ts : List Bool) (hx : a.eval x = vs) (hr : BoolS w B vs ts) (hb : base ≤ w.heap.size) (hn : l.length + ts.length ≤ 8388608)
    (h : ∀ v' w', OBools w' base v' (l ++ ts) → w.grownBy w' v.ownBlock → (v'.ownBlock = v.ownBlock ∨ v'.ownBlock = some w.heap.size) → wpList Try.prog ops Q rest (a.put o.dst v') w') : wpList Try.prog ops Q (o :: rest) a w := by
  refine wpList_plain hgd fun K hK => ?_
  obtain ⟨v', w', hrun, h2, h3, h4⟩ := run_app_bools w base o.type v l hP B vs ts hr hb hn
  unfold Oper.wp execOp
  simp only [ho, resolve, invoke, builtin, Sem.run_bind, Sem.run_pure, Result.andThen_ok, List.map_toArray, List.map_cons, List.map_nil, hs, hx, hrun]
  exact hK _ _ (h v' w' h2 h3 h4)

/-- what v's place reads behind a point, b being what it read before -/
def vlB (ts : List Int) (p : Pt) (b : Bool) (v : Nat) : Bool := (b && !(useP ts p.op p.x p.y (v : Nat) == 2)) || decide (setsP p.op p.x = (v : Nat))
def AftRet (w : World) (ts : List Int) (p : Pt) (bf : List Bool) (e : Ending) (w' : World) : Prop :=
  ∃ v r, e = .returned v ∧ OBools w' w.heap.size v r ∧ r.length = bf.length ∧ (∀ u, u < bf.length → r.getD u false = vlB ts p (bf.getD u false) u) ∧ Below w.heap.size w w'

set_option maxHeartbeats 4000000
set_option maxRecDepth 100000

end Go.Proofs.Ytmaaaiccmllnlaa

/- spec.l3Join, spec.l3Equal. -/
namespace Go.Proofs.Ytmaaaiccmllnlaa
open Go.RowKit

def jnB (al o a : Bool) : Bool := if al then o && a else o || a
def joinP (al : Bool) (old aft : List Bool) : List Bool := (List.range aft.length).map fun v => if v < old.length then jnB al (old.getD v false) (aft.getD v false) else aft.getD v false
theorem join_len (al : Bool) (old aft : List Bool) : (joinP al old aft).length = aft.length := by simp [joinP]
theorem join_get (al : Bool) (old aft : List Bool) {v : Nat} (hv : v < aft.length) : (joinP al old aft).getD v false = if v < old.length then jnB al (old.getD v false) (aft.getD v false) else aft.getD v false := by
  rw [getD_lt (by rw [join_len]; exact hv)]; simp [joinP]
def JnRet (w : World) (al : Bool) (old aft : List Bool) (e : Ending) (w' : World) : Prop :=
  ∃ v, e = .returned v ∧ OBools w' w.heap.size v (joinP al old aft) ∧ Below w.heap.size w w'
theorem jn_same {al : Bool} {old aft r : List Bool} (hl : r.length = aft.length) (h : ∀ u, u < aft.length → r.getD u false = if u < old.length then jnB al (old.getD u false) (aft.getD u false) else aft.getD u false) : r = joinP al old aft := by
  refine List.ext_getElem (by rw [join_len, hl]) fun i h1 h2 => ?_
  have e1 := h i (by omega)
  rw [← join_get al old aft (by omega), getD_lt h1, getD_lt h2] at e1
  exact e1

set_option maxHeartbeats 4000000
set_option maxRecDepth 100000


end Go.Proofs.Ytmaaaiccmllnlaa

/- Plain: the search forward that walks a queue of points. No program in sight. -/
namespace Go.Proofs.Ytmaaaiccmllnlaa

def acR (ev : Bool) (rows : List (List Bool)) (i v : Nat) : Bool := rget rows i v != ev
theorem jn_acc (ev o a : Bool) : (jnB ev o a != ev) = ((o != ev) || (a != ev)) := by cases ev <;> cases o <;> cases a <;> rfl
theorem vl_acc (ev : Bool) {ts : List Int} {p : Pt} {b : Bool} {v : Nat} (hv : v < ts.length) : (vlB ts p b v != ev) = trB ev ts p (b != ev) v := by
  unfold vlB trB
  have h1 : (takenP ts p.op p.x p.y).testBit v = (useP ts p.op p.x p.y (v : Nat) == 2) := by unfold takenP; rw [bm_bit, decide_eq_true hv, Bool.true_and]
  rw [h1, setBit_bit]
  cases ev <;> cases b <;> cases (useP ts p.op p.x p.y (v : Nat) == 2) <;> cases decide (setsP p.op p.x = (v : Nat)) <;> rfl

def seenAt (seen : List Bool) (i : Nat) : Prop := seen.getD i false = true
instance (seen : List Bool) (i : Nat) : Decidable (seenAt seen i) := by unfold seenAt; infer_instance
structure WkI (ev : Bool) (ts : List Int) (pts : List Pt) (rows : List (List Bool)) (seen : List Bool) (q : List Nat) : Prop where
  len : rows.length = pts.length
  slen : seen.length = pts.length
  row : ∀ i, i < pts.length → seenAt seen i → (rows.getD i []).length = ts.length
  nrow : ∀ i, i < pts.length → ¬ seenAt seen i → rows.getD i [] = []
  sound : ∀ i v, i < pts.length → v < ts.length → seenAt seen i → acR ev rows i v = true → Ac ev ts pts 0 i v
  ini : seenAt seen 0
  inv : ev = true → ∀ v, v < ts.length → acR ev rows 0 v = true
  qs : ∀ i ∈ q, i < pts.length ∧ seenAt seen i
/-- point i's row is closed along its edges -/
def WkC (ev : Bool) (ts : List Int) (pts : List Pt) (rows : List (List Bool)) (seen : List Bool) (r0 : List Bool) (i k : Nat) : Prop :=
  ∀ p, pts[i]? = some p → ∀ n ∈ p.next.take k, seenAt seen n ∧ ∀ v, v < ts.length → (vlB ts p (r0.getD v false) v != ev) = true → acR ev rows n v = true
/-- between two points of the queue -/
structure WkO (ev : Bool) (ts : List Int) (pts : List Pt) (rows : List (List Bool)) (seen : List Bool) (q : List Nat) : Prop where
  i : WkI ev ts pts rows seen q
  c : ∀ i, i < pts.length → seenAt seen i → i ∈ q ∨ ∀ k, WkC ev ts pts rows seen (rows.getD i []) i k
/-- at point a, behind its first k edges; r0 is the row that was there when a was taken -/
structure WkN (ev : Bool) (ts : List Int) (pts : List Pt) (a : Nat) (r0 : List Bool) (k : Nat) (rows : List (List Bool)) (seen : List Bool) (q : List Nat) : Prop where
  i : WkI ev ts pts rows seen q
  c : ∀ i, i < pts.length → seenAt seen i → i ∈ q ∨ i = a ∨ ∀ k, WkC ev ts pts rows seen (rows.getD i []) i k
  e : WkC ev ts pts rows seen r0 a k
  s : a ∈ q ∨ rows.getD a [] = r0
  r : ∀ v, v < ts.length → (r0.getD v false != ev) = true → Ac ev ts pts 0 a v
theorem WkO.pop {ev : Bool} {ts : List Int} {pts : List Pt} {rows : List (List Bool)} {seen : List Bool} {a : Nat} {q : List Nat} (h : WkO ev ts pts rows seen (a :: q)) : WkN ev ts pts a (rows.getD a []) 0 rows seen q := by
  have ha := h.i.qs a (by simp)
  refine ⟨⟨h.i.len, h.i.slen, h.i.row, h.i.nrow, h.i.sound, h.i.ini, h.i.inv, fun i hi => h.i.qs i (by simp [hi])⟩, fun i hi hs => ?_, fun p _ n hn => by simp at hn, .inr rfl, fun v hv => h.i.sound a v ha.1 hv ha.2⟩
  rcases h.c i hi hs with h1 | h1
  · rcases List.mem_cons.1 h1 with h2 | h2
    · exact .inr (.inl h2)
    · exact .inl h2
  · exact .inr (.inr h1)
theorem WkN.out {ev : Bool} {ts : List Int} {pts : List Pt} {rows : List (List Bool)} {seen : List Bool} {a k : Nat} {r0 : List Bool} {q : List Nat} (h : WkN ev ts pts a r0 k rows seen q) (hk : ∀ p, pts[a]? = some p → p.next.length ≤ k) : WkO ev ts pts rows seen q := by
  refine ⟨h.i, fun i hi hs => ?_⟩
  rcases h.c i hi hs with h1 | h1 | h1
  · exact .inl h1
  · subst h1
    rcases h.s with h2 | h2
    · exact .inl h2
    · refine .inr fun j p hp n hn => ?_
      rw [h2]
      exact h.e p hp n (by rw [List.take_of_length_le (hk p hp)]; exact List.mem_of_mem_take hn)
  · exact .inr h1
theorem seen_set {seen : List Bool} {n i : Nat} (hn : n < seen.length) : seenAt (seen.set n true) i ↔ (i = n ∨ seenAt seen i) := by
  unfold seenAt
  rw [getD_setB hn]
  split
  · rename_i h; simp [h]
  · rename_i h; simp [h]
theorem row_set {rows : List (List Bool)} {n i : Nat} {r : List Bool} (hn : n < rows.length) : (rows.set n r).getD i [] = if i = n then r else rows.getD i [] := by
  by_cases h : i = n
  · subst h; simp [List.getD, hn]
  · rw [if_neg h]; simp [List.getD, Ne.symm h]
/-- row n joined -/
theorem WkN.step {ev : Bool} {ts : List Int} {pts : List Pt} {rows : List (List Bool)} {seen : List Bool} {a k n : Nat} {r0 aft : List Bool} {q q' : List Nat} {p : Pt} (h : WkN ev ts pts a r0 k rows seen q)
    (hp : pts[a]? = some p) (hk : k < p.next.length) (hn : n = p.next[k]) (hnl : n < pts.length) (hal : aft.length = ts.length) (haf : ∀ v, v < ts.length → aft.getD v false = vlB ts p (r0.getD v false) v)
    (hq : q' = q ++ [n] ∨ (q' = q ∧ seenAt seen n ∧ rows.getD n [] = joinP ev (rows.getD n []) aft)) :
    WkN ev ts pts a r0 (k + 1) (rows.set n (joinP ev (rows.getD n []) aft)) (seen.set n true) q' := by
  have hnr : n < rows.length := by rw [h.i.len]; exact hnl
  have hns : n < seen.length := by rw [h.i.slen]; exact hnl
  have hold : (rows.getD n []).length ≤ aft.length := by
    by_cases hs : seenAt seen n
    · rw [h.i.row n hnl hs, hal]; exact Nat.le_refl _
    · rw [h.i.nrow n hnl hs]; simp
  have hnew : ∀ v, v < ts.length → acR ev (rows.set n (joinP ev (rows.getD n []) aft)) n v = ((decide (seenAt seen n) && acR ev rows n v) || (vlB ts p (r0.getD v false) v != ev)) := by
    intro v hv
    unfold acR rget
    rw [row_set hnr, if_pos rfl, join_get _ _ _ (by omega)]
    by_cases hs : seenAt seen n
    · rw [if_pos (by rw [h.i.row n hnl hs]; exact hv), jn_acc, haf v hv, decide_eq_true hs, Bool.true_and]
    · rw [if_neg (by rw [h.i.nrow n hnl hs]; simp), haf v hv, decide_eq_false hs, Bool.false_and, Bool.false_or]
  have hoth : ∀ i v, i ≠ n → acR ev (rows.set n (joinP ev (rows.getD n []) aft)) i v = acR ev rows i v := by
    intro i v hi
    unfold acR rget
    rw [row_set hnr, if_neg hi]
  have hmono : ∀ i v, v < ts.length → seenAt seen i → acR ev rows i v = true → acR ev (rows.set n (joinP ev (rows.getD n []) aft)) i v = true := by
    intro i v hv hs ha
    by_cases hi : i = n
    · subst hi; rw [hnew v hv, decide_eq_true hs, ha]; rfl
    · rw [hoth i v hi]; exact ha
  have hqq : ∀ i, i ∈ q → i ∈ q' := by
    intro i hi
    rcases hq with rfl | ⟨rfl, -, -⟩
    · simp [hi]
    · exact hi
  have hsm : ∀ i, seenAt seen i → seenAt (seen.set n true) i := fun i hs => (seen_set hns).2 (.inr hs)
  have hnm : n ∈ p.next := by rw [hn]; exact List.getElem_mem hk
  have hset : n ∈ q' ∨ rows.set n (joinP ev (rows.getD n []) aft) = rows := by
    rcases hq with rfl | ⟨rfl, -, he⟩
    · exact .inl (by simp)
    · refine .inr ?_
      rw [← he]
      rw [getD_lt hnr]
      exact List.set_getElem_self hnr
  have hC : ∀ r i j, WkC ev ts pts rows seen r i j → WkC ev ts pts (rows.set n (joinP ev (rows.getD n []) aft)) (seen.set n true) r i j := fun r i j hc p' hp' m hm =>
    ⟨hsm m (hc p' hp' m hm).1, fun v hv hx => hmono m v hv (hc p' hp' m hm).1 ((hc p' hp' m hm).2 v hv hx)⟩
  have hrc : ∀ i, i ∈ q' ∨ (rows.set n (joinP ev (rows.getD n []) aft)).getD i [] = rows.getD i [] := by
    intro i
    rcases hset with h1 | h1
    · by_cases hi : i = n
      · subst hi; exact .inl h1
      · right; rw [row_set hnr, if_neg hi]
    · right; rw [h1]
  refine ⟨⟨?_, ?_, fun i hi hs => ?_, fun i hi hs => ?_, fun i v hi hv hs ha => ?_, hsm 0 h.i.ini, fun he v hv => hmono 0 v hv h.i.ini (h.i.inv he v hv), fun i hi => ?_⟩, fun i hi hs => ?_, fun p' hp' m hm => ?_, ?_, h.r⟩
  · rw [List.length_set, h.i.len]
  · rw [List.length_set, h.i.slen]
  · rw [row_set hnr]
    split
    · rw [join_len, hal]
    · rename_i hne
      exact h.i.row i hi (((seen_set hns).1 hs).resolve_left hne)
  · rw [row_set hnr, if_neg (fun e => hs ((seen_set hns).2 (.inl e)))]
    exact h.i.nrow i hi fun e => hs (hsm i e)
  · by_cases hin : i = n
    · subst hin
      rw [hnew v hv] at ha
      rcases Bool.or_eq_true_iff.1 ha with h1 | h1
      · have h2 := Bool.and_eq_true_iff.1 h1
        exact h.i.sound i v hi hv (of_decide_eq_true h2.1) h2.2
      · rw [vl_acc ev hv] at h1
        cases hb : (r0.getD v false != ev)
        · rw [hb] at h1; exact .gen hp hnm hv h1
        · rw [hb] at h1; exact .keep hp hnm (h.r v hv hb) h1
    · rw [hoth i v hin] at ha
      exact h.i.sound i v hi hv (((seen_set hns).1 hs).resolve_left hin) ha
  · rcases hq with rfl | ⟨rfl, -, -⟩
    · rcases List.mem_append.1 hi with h1 | h1
      · exact ⟨(h.i.qs i h1).1, hsm i (h.i.qs i h1).2⟩
      · obtain rfl : i = n := by simpa using h1
        exact ⟨hnl, (seen_set hns).2 (.inl rfl)⟩
    · exact ⟨(h.i.qs i hi).1, hsm i (h.i.qs i hi).2⟩
  · rcases (seen_set hns).1 hs with h1 | h1
    · subst h1
      rcases hq with rfl | ⟨rfl, h2, -⟩
      · exact .inl (by simp)
      · rcases h.c i hi h2 with h3 | h3 | h3
        · exact .inl h3
        · exact .inr (.inl h3)
        · rcases hrc i with h4 | h4
          · exact .inl h4
          · exact .inr (.inr fun j => by rw [h4]; exact hC _ _ _ (h3 j))
    · rcases h.c i hi h1 with h3 | h3 | h3
      · exact .inl (hqq i h3)
      · exact .inr (.inl h3)
      · rcases hrc i with h4 | h4
        · exact .inl h4
        · exact .inr (.inr fun j => by rw [h4]; exact hC _ _ _ (h3 j))
  · have hpe : p' = p := by rw [hp] at hp'; exact (Option.some.inj hp').symm
    subst hpe
    rw [List.take_succ_eq_append_getElem hk] at hm
    rcases List.mem_append.1 hm with h1 | h1
    · exact hC _ _ _ h.e p' hp m h1
    · obtain rfl : m = n := by rw [hn]; simpa using h1
      exact ⟨(seen_set hns).2 (.inl rfl), fun v hv hx => by rw [hnew v hv, hx]; simp⟩
  · rcases h.s with h1 | h1
    · exact .inl (hqq a h1)
    · rcases hrc a with h2 | h2
      · exact .inl h2
      · exact .inr (by rw [h2]; exact h1)

/-- at the end the rows are what is gathered -/
theorem WkO.done {ev : Bool} {ts : List Int} {pts : List Pt} {rows : List (List Bool)} {seen : List Bool} (h : WkO ev ts pts rows seen []) (h0 : 0 < pts.length) (hnx : ∀ p ∈ pts, ∀ k ∈ p.next, k < pts.length) (hr : ∀ k, k < pts.length → Rch pts k) {i : Nat} (hi : i < pts.length) :
    (rows.getD i []).length = ts.length ∧ ∀ v, v < ts.length → rget rows i v = (dec (Ac ev ts pts 0 i v) != ev) := by
  have hc : ∀ i, i < pts.length → seenAt seen i → ∀ k, WkC ev ts pts rows seen (rows.getD i []) i k := fun i hi hs => (h.c i hi hs).resolve_left (by simp)
  have hlt : ∀ {i : Nat} {p : Pt}, pts[i]? = some p → i < pts.length := fun {i p} hp => (List.getElem?_eq_some_iff.1 hp).1
  have hall : ∀ k, Rch pts k → seenAt seen k := by
    intro k hk
    induction hk with
    | start => exact h.i.ini
    | @step i k p hk hp hkn ih => exact ((hc i (hlt hp) ih p.next.length) p hp k (by rw [List.take_length]; exact hkn)).1
  have hac : ∀ i v, Ac ev ts pts 0 i v → i < pts.length ∧ acR ev rows i v = true := by
    intro i v ha
    induction ha with
    | @init v hv h1 => exact ⟨h0, h.i.inv (by cases ev <;> simp [accB] at h1 ⊢) v hv⟩
    | @gen i k v p hp hk hv h1 =>
      refine ⟨hnx p (List.mem_of_getElem? hp) k hk, ((hc i (hlt hp) (hall i (hr i (hlt hp))) p.next.length) p hp k (by rw [List.take_length]; exact hk)).2 v hv ?_⟩
      rw [vl_acc ev hv, trB_mono, h1]; rfl
    | @keep i k v p hp hk ha h1 ih =>
      refine ⟨hnx p (List.mem_of_getElem? hp) k hk, ((hc i (hlt hp) (hall i (hr i (hlt hp))) p.next.length) p hp k (by rw [List.take_length]; exact hk)).2 v ha.lt ?_⟩
      have e := ih.2
      unfold acR rget at e
      rw [vl_acc ev ha.lt, trB_mono, e, h1]; simp
  have hs := hall i (hr i hi)
  refine ⟨h.i.row i hi hs, fun v hv => ?_⟩
  have e : dec (Ac ev ts pts 0 i v) = acR ev rows i v := by
    rw [Bool.eq_iff_iff, dec_iff]
    exact ⟨fun ha => (hac i v ha).2, fun ha => h.i.sound i v hi hv hs ha⟩
  rw [e]
  unfold acR
  cases rget rows i v <;> cases ev <;> rfl

theorem sum_mono {f g : Nat → Nat} {l : List Nat} (h : ∀ i ∈ l, f i ≤ g i) : (l.map f).sum ≤ (l.map g).sum := by
  induction l with
  | nil => simp
  | cons a r ih =>
    simp only [List.map_cons, List.sum_cons]
    have := h a (by simp)
    have := ih fun i hi => h i (by simp [hi])
    omega
theorem sum_less {f g : Nat → Nat} {l : List Nat} (h : ∀ i ∈ l, f i ≤ g i) {n : Nat} (hn : n ∈ l) (hl : f n < g n) : (l.map f).sum < (l.map g).sum := by
  induction l with
  | nil => simp at hn
  | cons a r ih =>
    simp only [List.map_cons, List.sum_cons]
    have h1 := h a (by simp)
    have h2 := sum_mono (f := f) (g := g) (l := r) fun i hi => h i (by simp [hi])
    rcases List.mem_cons.1 hn with e | e
    · subst e; omega
    · have := ih (fun i hi => h i (by simp [hi])) e; omega
/-- what can still turn -/
def muW (ev : Bool) (nt np : Nat) (rows : List (List Bool)) (seen : List Bool) : Nat :=
  ((List.range np).map fun i => if seenAt seen i then ((List.range nt).map fun v => if acR ev rows i v then 0 else 1).sum else nt + 1).sum
theorem sum_le_len {f : Nat → Nat} {l : List Nat} {c : Nat} (h : ∀ i ∈ l, f i ≤ c) : (l.map f).sum ≤ l.length * c := by
  induction l with
  | nil => simp
  | cons a r ih =>
    simp only [List.map_cons, List.sum_cons, List.length_cons, Nat.succ_mul]
    have := h a (by simp)
    have := ih fun i hi => h i (by simp [hi])
    omega
theorem row_le (ev : Bool) (nt : Nat) (rows : List (List Bool)) (i : Nat) : ((List.range nt).map fun v => if acR ev rows i v then 0 else 1).sum ≤ nt := by
  have := sum_le_len (f := fun v => if acR ev rows i v then 0 else 1) (l := List.range nt) (c := 1) fun v _ => by split <;> omega
  simpa using this
theorem muW_le (ev : Bool) (nt np : Nat) (rows : List (List Bool)) (seen : List Bool) : muW ev nt np rows seen ≤ np * (nt + 1) := by
  have := sum_le_len (f := fun i => if seenAt seen i then ((List.range nt).map fun v => if acR ev rows i v then 0 else 1).sum else nt + 1) (l := List.range np) (c := nt + 1) fun v _ => by
    split
    · have := row_le ev nt rows v; omega
    · omega
  simpa [muW] using this
theorem WkI.less {ev : Bool} {ts : List Int} {pts : List Pt} {rows : List (List Bool)} {seen : List Bool} {n : Nat} {aft : List Bool} {q : List Nat} (h : WkI ev ts pts rows seen q) (hnl : n < pts.length) (hal : aft.length = ts.length)
    (hc : ¬ seenAt seen n ∨ rows.getD n [] ≠ joinP ev (rows.getD n []) aft) : muW ev ts.length pts.length (rows.set n (joinP ev (rows.getD n []) aft)) (seen.set n true) < muW ev ts.length pts.length rows seen := by
  have hnr : n < rows.length := by rw [h.len]; exact hnl
  have hns : n < seen.length := by rw [h.slen]; exact hnl
  have hoth : ∀ i v, i ≠ n → acR ev (rows.set n (joinP ev (rows.getD n []) aft)) i v = acR ev rows i v := by
    intro i v hi
    unfold acR rget
    rw [row_set hnr, if_neg hi]
  have hown : (if seenAt (seen.set n true) n then ((List.range ts.length).map fun v => if acR ev (rows.set n (joinP ev (rows.getD n []) aft)) n v then 0 else 1).sum else ts.length + 1) < (if seenAt seen n then ((List.range ts.length).map fun v => if acR ev rows n v then 0 else 1).sum else ts.length + 1) := by
    rw [if_pos ((seen_set hns).2 (.inl rfl))]
    by_cases hs : seenAt seen n
    · rw [if_pos hs]
      have hne := hc.resolve_left (fun hn => hn hs)
      have hrl := h.row n hnl hs
      have hacc : ∀ v, v < ts.length → acR ev (rows.set n (joinP ev (rows.getD n []) aft)) n v = (acR ev rows n v || (aft.getD v false != ev)) := by
        intro v hv
        unfold acR rget
        rw [row_set hnr, if_pos rfl, join_get _ _ _ (by omega), if_pos (by omega), jn_acc]
      have hex : ∃ v, v < ts.length ∧ acR ev rows n v = false ∧ (aft.getD v false != ev) = true := by
        apply Classical.byContradiction
        intro hno
        apply hne
        refine List.ext_getElem (by rw [join_len]; omega) fun v h1 h2 => ?_
        have hv : v < ts.length := by omega
        have e1 := join_get ev (rows.getD n []) aft (v := v) (by omega)
        rw [if_pos h1, getD_lt h2] at e1
        rw [e1, ← getD_lt (d := false) h1]
        have h3 : ¬ (acR ev rows n v = false ∧ (aft.getD v false != ev) = true) := fun hh => hno ⟨v, hv, hh⟩
        unfold acR rget at h3
        revert h3
        cases (rows.getD n []).getD v false <;> cases aft.getD v false <;> cases ev <;> simp [jnB]
      obtain ⟨v, hv, hv1, hv2⟩ := hex
      refine sum_less (fun u hu => ?_) (n := v) (List.mem_range.2 hv) ?_
      · rw [hacc u (List.mem_range.1 hu)]
        cases acR ev rows n u <;> cases (aft.getD u false != ev) <;> simp
      · rw [hacc v hv, hv1, hv2]; simp
    · rw [if_neg hs]
      have := row_le ev ts.length (rows.set n (joinP ev (rows.getD n []) aft)) n
      omega
  unfold muW
  refine sum_less (fun i hi => ?_) (n := n) (List.mem_range.2 hnl) hown
  by_cases hin : i = n
  · subst hin; exact Nat.le_of_lt hown
  · have e : seenAt (seen.set n true) i ↔ seenAt seen i := by rw [seen_set hns]; simp [hin]
    by_cases hs : seenAt seen i
    · rw [if_pos hs, if_pos (e.2 hs)]
      exact sum_mono fun v _ => by rw [hoth i v hin]; exact Nat.le_refl _
    · rw [if_neg hs, if_neg (fun hh => hs (e.1 hh))]
      exact Nat.le_refl _

end Go.Proofs.Ytmaaaiccmllnlaa
