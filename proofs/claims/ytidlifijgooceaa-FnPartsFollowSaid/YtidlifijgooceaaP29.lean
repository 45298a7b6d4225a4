import Derived.Test.YtidlifijgooceaaP28
import Derived.Test.YtidlifijgooceaaP23
import Derived.Deep.RegionLaw
import Derived.Test.YtidlifijgooceaaP01
import Derived.Deep.CutBlock
import Derived.Deep.DeepCutAuto
import Derived.Test.YtidlifijgooceaaP07
set_option linter.unusedVariables false

/- DrawNeedsOf, DrawTakesOf. -/
namespace Go.Proofs.Ytidlifijgooceaa
open Go.RowKit

theorem grown_new {w a b : World} {g : Nat} (h : Below w.heap.size w a) (hg : w.heap.size ≤ g) (k : a.grownBy b (some g)) : Below w.heap.size w b :=
  ⟨k.os.trans h.os, k.tape.trans h.tape, k.output.trans h.output, Nat.le_trans h.size k.size, fun i hi => (k.block i (Nat.lt_of_lt_of_le hi h.size) (fun e => by injection e with e; omega)).trans (h.block i hi)⟩
end Go.Proofs.Ytidlifijgooceaa

/- spec.l2Branch, l3Place, the draws of the flow laws. -/
namespace Go.Proofs.Ytidlifijgooceaa
open Go.RowKit

set_option maxHeartbeats 4000000
set_option maxRecDepth 100000

def PlRet (w : World) (e : Ending) (w' : World) : Prop :=
  ∃ (vt vb : Value) (ts : List Int) (l : List St) (a : Int), e = .returned (.tuple #[.agg #[vt, vb], .int .i64 a]) ∧ IntX w' (fun b => w.heap.size ≤ b) vt ts ∧ StX w' (fun b => w.heap.size ≤ b) vb l ∧ ts.length ≤ 700 ∧ szL l ≤ 100000 ∧ Below w.heap.size w w'

theorem pl_set {w : World} {b g : Nat} {u0 u1 : Value} (hne : b ≠ g) (h0 : w.cell? ⟨b, 0, none⟩ = some u0) (h1 : w.cell? ⟨b, 1, none⟩ = some u1) (x y : Value) :
    ((w.setCell ⟨g, 0, none⟩ x).setCell ⟨g, 1, none⟩ y).cell? ⟨b, 0, none⟩ = some u0 ∧ ((w.setCell ⟨g, 0, none⟩ x).setCell ⟨g, 1, none⟩ y).cell? ⟨b, 1, none⟩ = some u1 := by
  have e := (heap_setCell_other (w.setCell ⟨g, 0, none⟩ x) ⟨g, 1, none⟩ b y hne).trans (heap_setCell_other w ⟨g, 0, none⟩ b x hne)
  exact ⟨(World.cell?_of_block (a := ⟨b, 0, none⟩) e).trans h0, (World.cell?_of_block (a := ⟨b, 1, none⟩) e).trans h1⟩
theorem pl_close {w w3 W : World} {vt vb : Value} {ts : List Int} {l : List St} {a : Int} {lo : Nat} (h3 : Below w.heap.size w w3) (hW : w3.grownBy W (some w.heap.size)) (hT : IntX w3 (fun b => lo ≤ b) vt ts) (hB : StX w3 (fun b => lo ≤ b) vb l) (hlo : w.heap.size < lo) (ht : ts.length ≤ 700) (hl : szL l ≤ 100000) :
    PlRet w (.returned (.tuple #[.agg #[vt, vb], .int .i64 a])) W := by
  have hk : ∀ b, lo ≤ b → b < w3.heap.size → w.heap.size ≤ b ∧ W.heap[b]? = w3.heap[b]? := fun b hb hl => ⟨by omega, hW.block b hl (fun e => by injection e with e; omega)⟩
  exact ⟨vt, vb, ts, l, a, rfl, hT.frame hW.size hk, hB.frame hW.size hk, ht, hl, grown_new h3 (Nat.le_refl _) hW⟩

end Go.Proofs.Ytidlifijgooceaa

/- FnTakesOf: the draw, the plain law, the walk. -/
namespace Go.Proofs.Ytidlifijgooceaa
open Go.RowKit

def LawRet (w : World) (e : Ending) (w' : World) : Prop := e = .returned (.bool true) ∧ Below w.heap.size w w'

end Go.Proofs.Ytidlifijgooceaa

/- Words for the laws' walks: a drawn program in its box. The plain law of NeedsOpen. -/
namespace Go.Proofs.Ytidlifijgooceaa
open Go.RowKit

/-- the program (vt, vb) lies in the box g and reads as (ts, l); what was in w is as it was -/
structure PgB (w W : World) (g : Nat) (vt vb : Value) (ts : List Int) (l : List St) : Prop where
  bel : Below w.heap.size w W
  row : W.heap[g]? = some (.cells #[vt, vb] 26 (0, 0))
  ht : IntS W W.heap.size vt ts
  hl : StS W W.heap.size vb l
theorem PgB.lt {w W : World} {g : Nat} {vt vb : Value} {ts : List Int} {l : List St} (h : PgB w W g vt vb ts l) : g < W.heap.size := row_lt h.row
theorem PgB.c0 {w W : World} {g : Nat} {vt vb : Value} {ts : List Int} {l : List St} (h : PgB w W g vt vb ts l) : W.cell? ⟨g, 0, none⟩ = some vt := by rw [cell_of_row _ _ _ _ _ _ h.row]; rfl
theorem PgB.c1 {w W : World} {g : Nat} {vt vb : Value} {ts : List Int} {l : List St} (h : PgB w W g vt vb ts l) : W.cell? ⟨g, 1, none⟩ = some vb := by rw [cell_of_row _ _ _ _ _ _ h.row]; rfl
theorem PgB.bels {w W W' : World} {g : Nat} {vt vb : Value} {ts : List Int} {l : List St} (h : PgB w W g vt vb ts l) (hb : Below W.heap.size W W') : PgB w W' g vt vb ts l :=
  ⟨h.bel.trans (hb.mono h.bel.size), row_below h.row hb, (h.ht.low hb (Nat.le_refl _)).more hb.size, (h.hl.low hb (Nat.le_refl _)).more hb.size⟩
theorem PgB.new {w w1 : World} {vt vb : Value} {ts : List Int} {l : List St} {P Q : Nat → Prop} (ht : IntX w1 P vt ts) (hl : StX w1 Q vb l) (hb : Below w.heap.size w w1) : PgB w (w1.alloc (.cells #[vt, vb] 26)) w1.heap.size vt vb ts l := by
  have hA := bel_a w1 (.cells #[vt, vb] 26)
  exact ⟨hb.trans (hA.mono hb.size), heap_alloc_new w1 _, ((ht.toS).low hA (Nat.le_refl _)).more hA.size, ((hl.toS).low hA (Nat.le_refl _)).more hA.size⟩
theorem IntS.bel {w w' : World} {v : Value} {l : List Int} (h : IntS w w.heap.size v l) (hb : Below w.heap.size w w') : IntS w' w'.heap.size v l := (h.low hb (Nat.le_refl _)).more hb.size
theorem PtS.bel {w w' : World} {v : Value} {pts : List Pt} (h : PtS w w.heap.size v pts) (hb : Below w.heap.size w w') : PtS w' w'.heap.size v pts := (h.low hb (Nat.le_refl _)).more hb.size

end Go.Proofs.Ytidlifijgooceaa

/- spec.l14Case and the draws that hand it on. -/
namespace Go.Proofs.Ytidlifijgooceaa
open Go.RowKit

/-- below 'base' only block g has turned -/
structure Gb (base g : Nat) (W w : World) : Prop where
  os : w.os = W.os
  tape : w.tape = W.tape
  output : w.output = W.output
  size : W.heap.size ≤ w.heap.size
  block : ∀ b, b < base → b ≠ g → w.heap[b]? = W.heap[b]?
theorem Gb.refl (base g : Nat) (W : World) : Gb base g W W := ⟨rfl, rfl, rfl, Nat.le_refl _, fun _ _ _ => rfl⟩
theorem Gb.bel {base g : Nat} {W a b : World} (h : Gb base g W a) (k : Below base a b) : Gb base g W b :=
  ⟨k.os.trans h.os, k.tape.trans h.tape, k.output.trans h.output, Nat.le_trans h.size k.size, fun i hi hne => (k.block i hi).trans (h.block i hi hne)⟩
set_option maxHeartbeats 4000000
set_option maxRecDepth 100000

end Go.Proofs.Ytidlifijgooceaa

/- the draws of a program and small numbers (spec.l10Case and what stands on it). -/
namespace Go.Proofs.Ytidlifijgooceaa
open Go.RowKit

/-- what the ends of these draws need -/
structure DsE (w W : World) (vt vb : Value) (ts : List Int) (l : List St) : Prop where
  ht : IntX W (fun b => w.heap.size ≤ b) vt ts
  hl : StX W (fun b => w.heap.size ≤ b) vb l
  bel : Below w.heap.size w W
theorem DsE.mk' {w w3 W : World} {vt vb : Value} {ts : List Int} {l : List St} {lo : Nat} (h3 : Below w.heap.size w w3) (hW : w3.grownBy W (some w.heap.size)) (hT : IntX w3 (fun b => lo ≤ b) vt ts) (hB : StX w3 (fun b => lo ≤ b) vb l) (hlo : w.heap.size < lo) : DsE w W vt vb ts l := by
  have hk : ∀ b, lo ≤ b → b < w3.heap.size → w.heap.size ≤ b ∧ W.heap[b]? = w3.heap[b]? := fun b hb hl => ⟨by omega, hW.block b hl (fun e => by injection e with e; omega)⟩
  exact ⟨hT.frame hW.size hk, hB.frame hW.size hk, grown_new h3 (Nat.le_refl _) hW⟩

end Go.Proofs.Ytidlifijgooceaa

/- the draws of run paths, and of a program with loans and a point. -/
namespace Go.Proofs.Ytidlifijgooceaa
open Go.RowKit

set_option maxHeartbeats 4000000
set_option maxRecDepth 100000

end Go.Proofs.Ytidlifijgooceaa

/- l11Place, DrawSplitProgram. -/
namespace Go.Proofs.Ytidlifijgooceaa
open Go.RowKit

set_option maxHeartbeats 4000000
set_option maxRecDepth 100000
theorem l11Place_any (A : Option Addr) (n c : Nat) (w : World) (hb : Byt w w.heap.size A n) (hn : n ≤ 1048576) (hc : n ≤ c) :
    Calls Try.prog 46 #[.slice A n c] w (PlRet w) := by
  have HB := Lib.hid hb
  clear hb
  go_enter Try.func46, Try.ntmps46
  go_wp2_with fail
  have hA := bel_a w (.cells #[.slice none 0 0, .slice none 0 0] 26)
  have hsA : (w.alloc (.cells #[.slice none 0 0, .slice none 0 0] 26)).heap.size = w.heap.size + 1 := by simp
  refine (l17Open_any A n c _ (by rw [hsA]; exact (HB.out.keep fun b o hb => hA.cell (p := ⟨b, o, none⟩) hb).more (by omega)) hn hc).mono ?_
  rw [hsA]
  rintro e w1 ⟨rfl, hd1, hb1⟩
  have hb1' : Below (w.alloc (.cells #[.slice none 0 0, .slice none 0 0] 26)).heap.size (w.alloc (.cells #[.slice none 0 0, .slice none 0 0] 26)) w1 := by rw [hsA]; exact hb1
  have hs1 : w.heap.size + 1 < w1.heap.size := hd1.lt
  have HR1 := Lib.hid (row_below (heap_alloc_new w (.cells #[.slice none 0 0, .slice none 0 0] 26)) hb1')
  have HB1 := Lib.hid (hA.trans (hb1.mono (by omega)))
  have HD1 := Lib.hid hd1
  clear hb1 hb1' hd1 hA hsA
  go_wp2_with fail
  refine (l1Draw_any (w.heap.size + 1) 0 _ HD1.out (by omega)).mono ?_
  rintro e wd ⟨vt0, vb0, ts0, l0, p0, rfl, hit0, hst0, hts0, hsz0, hp0, hd0, hg0⟩
  have hs0 := hg0.size
  have HD0 := Lib.hid hd0
  have HG0 := Lib.hid hg0
  have HIT0 := Lib.hid hit0
  have HST0 := Lib.hid hst0
  clear hit0 hst0 hd0 hg0
  go_wp2_with fail
  refine (mutate_any (w.heap.size + 1) p0 _ _ ts0 l0 _ _ HIT0.out.toS HST0.out.toS (Nat.le_refl _) hts0 hsz0 HD0.out (by omega)).mono ?_
  rintro e w2 ⟨vt, vb, ts, l, p2, rfl, hit', hst', hts, hsz, hp2, hd2, hg2'⟩
  have hg2 := grown_tr HG0.out hg2'
  have hit := hit'.frame (P' := fun b => w1.heap.size ≤ b) (Nat.le_refl _) fun b hb _ => ⟨by have hb' : wd.heap.size ≤ b := hb; show w1.heap.size ≤ b; omega, rfl⟩
  have hst := hst'.frame (P' := fun b => w1.heap.size ≤ b) (Nat.le_refl _) fun b hb _ => ⟨by have hb' : wd.heap.size ≤ b := hb; show w1.heap.size ≤ b; omega, rfl⟩
  clear hit' hst' hg2'
  have hs2 := hg2.size
  have hA2 := bel_a w2 (.cells #[vt, vb] 26)
  have hsW : (w2.alloc (.cells #[vt, vb] 26)).heap.size = w2.heap.size + 1 := by simp
  have HR2 := Lib.hid (row_below (row_grown HR1.out hg2 (by omega)) hA2)
  have HRP := Lib.hid (heap_alloc_new w2 (.cells #[vt, vb] 26))
  have HD2 := Lib.hid (hd2.low hA2 (by omega))
  have HB2 := Lib.hid ((grown_new HB1.out (by omega) hg2).trans (hA2.mono (by omega)))
  have HIT := Lib.hid (hit.bel hA2)
  have HST := Lib.hid (hst.bel hA2)
  obtain ⟨At, ct, rfl, -⟩ := hit.slice
  obtain ⟨Ab, cb, rfl, -⟩ := hst.slice
  clear hit hst hd2 hg2 hA2
  have hll := len_le_szL l
  generalize l.length = np at *
  have hnp61 : np ≤ 100000 := by omega
  obtain ⟨w3, hw3⟩ : ∃ w3, w3 = w2.alloc (.cells #[.slice At ts.length ct, .slice Ab np cb] 26) := ⟨_, rfl⟩
  rw [← hw3] at HR2 HRP HD2 HB2 HIT HST hsW
  have HW3 := Lib.hid hw3
  clear hw3
  have hs3 : w2.heap.size + 1 ≤ w3.heap.size := by omega
  clear hsW
  have HR3 := HR2
  have HRP3 := HRP
  have HD3 := HD2
  have HB3 := HB2
  have HIT3 := HIT
  have HST3 := HST
  have hw2 : w.heap.size < w2.heap.size := by omega
  have q0 : w3.cell? ⟨w2.heap.size, 0, none⟩ = some (.slice At ts.length ct) := by rw [cell_of_row _ _ _ _ _ _ HRP3.out]; rfl
  have q1 : w3.cell? ⟨w2.heap.size, 1, none⟩ = some (.slice Ab np cb) := by rw [cell_of_row _ _ _ _ _ _ HRP3.out]; rfl
  by_cases hz : np = 0
  · have hz1 : ((np : Int) == 0) = true := by simp [hz]
    clear hz
    go_wp2_with fail
    rw [← HW3.out]
    have CN : Calls Try.prog 63 #[.pointer (some ⟨w.heap.size + 1, 0, none⟩), .slice (some ⟨w3.heap.size, 0, none⟩) 3 3] (w3.alloc (.cells #[.int .i64 0, .int .i64 (-1), .int .i64 40] 3)).drew (fun e w' => ∃ x : Int, e = .returned (.int .i64 x) ∧ x ∈ [0, -1, 40] ∧ Dr w' (w.heap.size + 1) (p2 + 1) ∧ (w3.alloc (.cells #[.int .i64 0, .int .i64 (-1), .int .i64 40] 3)).drew.grownBy w' (some (w.heap.size + 1))) :=
      num_any (w.heap.size + 1) _ _ [0, -1, 40] 3 _ (HD3.out.low ((bel_a w3 (.cells #[.int .i64 0, .int .i64 (-1), .int .i64 40] 3)).drew) (by omega)) (by omega) (RowB.new w3 _ _) (by omega) (by simp) (by simp)
    have HCN := Lib.hid CN
    have HWA := Lib.hid (bel_a w3 (.cells #[.int .i64 0, .int .i64 (-1), .int .i64 40] 3)).drew
    have HSW := Lib.hid (show (w3.alloc (.cells #[.int .i64 0, .int .i64 (-1), .int .i64 40] 3)).drew.heap.size = w3.heap.size + 1 by simp)
    clear CN
    go_region_held3 (fun w' => w'.cell? ⟨w2.heap.size, 0, none⟩ = some (.slice At ts.length ct) ∧ w'.cell? ⟨w2.heap.size, 1, none⟩ = some (.slice Ab np cb))
      (first | exact ⟨q0, q1⟩ | exact ⟨q07, q17⟩ | exact Q9.out | assumption | go_keep)
      (first
        | (go_at_call 63; (with_reducible refine HCN.out.mono ?_); (rintro e w7 ⟨x, rfl, hx, hd7, hg7⟩); (have hs7 := hg7.size); (rw [HSW.out] at hs7); (have hr7 := row_grown (row_below HR3.out HWA.out) hg7 (by omega)); (have hrp7 := row_grown (row_below HRP3.out HWA.out) hg7 (by omega)); (have q07 : w7.cell? ⟨w2.heap.size, 0, none⟩ = some (.slice At ts.length ct) := by (rw [cell_of_row _ _ _ _ _ _ hrp7]; rfl)); (have q17 : w7.cell? ⟨w2.heap.size, 1, none⟩ = some (.slice Ab np cb) := by (rw [cell_of_row _ _ _ _ _ _ hrp7]; rfl)); (have z07 : w7.cell? ⟨w.heap.size, 0, none⟩ = some (.slice none 0 0) := by (rw [cell_of_row _ _ _ _ _ _ hr7]; rfl)); (have z17 : w7.cell? ⟨w.heap.size, 1, none⟩ = some (.slice none 0 0) := by (rw [cell_of_row _ _ _ _ _ _ hr7]; rfl)); (have zf07 := frozen_of_row w7 w.heap.size 0 _ _ hr7); (have zf17 := frozen_of_row w7 w.heap.size 1 _ _ hr7); (have HR9 := Lib.hid hr7); (have HG9 := Lib.hid hg7); (have Q9 := Lib.hid (pl_set (Ne.symm (Nat.ne_of_lt hw2)) q07 q17 (.slice At ts.length ct) (.slice Ab np cb))); clear hx hd7 hg7 hr7 hrp7)
        | fail)
    have HB9 := Lib.hid (grown_new (HB3.out.trans (HWA.out.mono HB3.out.size)) (by omega) HG9.out)
    have HIT9 := Lib.hid (((HIT3.out.bel HWA.out).grown HG9.out (by show ¬ (w1.heap.size ≤ w.heap.size + 1); omega)))
    have HST9 := Lib.hid (((HST3.out.bel HWA.out).grown HG9.out (by show ¬ (w1.heap.size ≤ w.heap.size + 1); omega)))
    go_wp2_with fail
    refine bodyPost_ret (res_box (u := 3) rfl _ _ w.heap.size 26 _ (0, 0) _ rfl (box2 HR9.out _ _).1 Try.underlying26 rfl rfl) rfl ?_
    exact (pl_close (a := x) HB9.out (box2 HR9.out _ _).2 HIT9.out HST9.out (by omega) hts hsz)

  · have hz1 : ((np : Int) == 0) = false := by simpa using hz
    have hz2 : 0 < np := by omega
    clear hz
    go_wp2_with fail
    rw [← HW3.out]
    refine (pick_any (w.heap.size + 1) p2 _ _ HD3.out (by omega) (by omega) (by omega)).mono ?_
    rintro e w4 ⟨k, rfl, -, -, hd4, hg4⟩
    have hs4 := hg4.size
    have HR4 := Lib.hid (row_grown HR3.out hg4 (by omega))
    have HRP4 := Lib.hid (row_grown HRP3.out hg4 (by omega))
    have HD4 := Lib.hid hd4
    have HB4 := Lib.hid (grown_new HB3.out (by omega) hg4)
    have HIT4 := Lib.hid (HIT3.out.grown hg4 (by show ¬ (w1.heap.size ≤ w.heap.size + 1); omega))
    have HST4 := Lib.hid (HST3.out.grown hg4 (by show ¬ (w1.heap.size ≤ w.heap.size + 1); omega))
    clear hd4 hg4 q0 q1
    have q0 : w4.cell? ⟨w2.heap.size, 0, none⟩ = some (.slice At ts.length ct) := by rw [cell_of_row _ _ _ _ _ _ HRP4.out]; rfl
    have q1 : w4.cell? ⟨w2.heap.size, 1, none⟩ = some (.slice Ab np cb) := by rw [cell_of_row _ _ _ _ _ _ HRP4.out]; rfl
    by_cases hk : k = 0
    · subst hk
      go_wp2_with fail
      have CN : Calls Try.prog 63 #[.pointer (some ⟨w.heap.size + 1, 0, none⟩), .slice (some ⟨w4.heap.size, 0, none⟩) 3 3] (w4.alloc (.cells #[.int .i64 0, .int .i64 (-1), .int .i64 40] 3)).drew (fun e w' => ∃ x : Int, e = .returned (.int .i64 x) ∧ x ∈ [0, -1, 40] ∧ Dr w' (w.heap.size + 1) ((p2 + 1) + 1) ∧ (w4.alloc (.cells #[.int .i64 0, .int .i64 (-1), .int .i64 40] 3)).drew.grownBy w' (some (w.heap.size + 1))) :=
        num_any (w.heap.size + 1) _ _ [0, -1, 40] 3 _ (HD4.out.low ((bel_a w4 (.cells #[.int .i64 0, .int .i64 (-1), .int .i64 40] 3)).drew) (by omega)) (by omega) (RowB.new w4 _ _) (by omega) (by simp) (by simp)
      have HCN := Lib.hid CN
      have HWA := Lib.hid (bel_a w4 (.cells #[.int .i64 0, .int .i64 (-1), .int .i64 40] 3)).drew
      have HSW := Lib.hid (show (w4.alloc (.cells #[.int .i64 0, .int .i64 (-1), .int .i64 40] 3)).drew.heap.size = w4.heap.size + 1 by simp)
      clear CN
      go_region_held3 (fun w' => w'.cell? ⟨w2.heap.size, 0, none⟩ = some (.slice At ts.length ct) ∧ w'.cell? ⟨w2.heap.size, 1, none⟩ = some (.slice Ab np cb))
        (first | exact ⟨q0, q1⟩ | exact ⟨q07, q17⟩ | exact Q9.out | assumption | go_keep)
        (first
          | (go_at_call 63; (with_reducible refine HCN.out.mono ?_); (rintro e w7 ⟨x, rfl, hx, hd7, hg7⟩); (have hs7 := hg7.size); (rw [HSW.out] at hs7); (have hr7 := row_grown (row_below HR4.out HWA.out) hg7 (by omega)); (have hrp7 := row_grown (row_below HRP4.out HWA.out) hg7 (by omega)); (have q07 : w7.cell? ⟨w2.heap.size, 0, none⟩ = some (.slice At ts.length ct) := by (rw [cell_of_row _ _ _ _ _ _ hrp7]; rfl)); (have q17 : w7.cell? ⟨w2.heap.size, 1, none⟩ = some (.slice Ab np cb) := by (rw [cell_of_row _ _ _ _ _ _ hrp7]; rfl)); (have z07 : w7.cell? ⟨w.heap.size, 0, none⟩ = some (.slice none 0 0) := by (rw [cell_of_row _ _ _ _ _ _ hr7]; rfl)); (have z17 : w7.cell? ⟨w.heap.size, 1, none⟩ = some (.slice none 0 0) := by (rw [cell_of_row _ _ _ _ _ _ hr7]; rfl)); (have zf07 := frozen_of_row w7 w.heap.size 0 _ _ hr7); (have zf17 := frozen_of_row w7 w.heap.size 1 _ _ hr7); (have HR9 := Lib.hid hr7); (have HG9 := Lib.hid hg7); (have Q9 := Lib.hid (pl_set (Ne.symm (Nat.ne_of_lt hw2)) q07 q17 (.slice At ts.length ct) (.slice Ab np cb))); clear hx hd7 hg7 hr7 hrp7)
          | fail)
      have HB9 := Lib.hid (grown_new (HB4.out.trans (HWA.out.mono HB4.out.size)) (by omega) HG9.out)
      have HIT9 := Lib.hid (((HIT4.out.bel HWA.out).grown HG9.out (by show ¬ (w1.heap.size ≤ w.heap.size + 1); omega)))
      have HST9 := Lib.hid (((HST4.out.bel HWA.out).grown HG9.out (by show ¬ (w1.heap.size ≤ w.heap.size + 1); omega)))
      go_wp2_with fail
      refine bodyPost_ret (res_box (u := 3) rfl _ _ w.heap.size 26 _ (0, 0) _ rfl (box2 HR9.out _ _).1 Try.underlying26 rfl rfl) rfl ?_
      exact (pl_close (a := x) HB9.out (box2 HR9.out _ _).2 HIT9.out HST9.out (by omega) hts hsz)

    · have hk1 : (k == 0) = false := by simpa using hk
      clear hk
      go_wp2_with fail
      have HCN := Lib.hid (pick_any (w.heap.size + 1) (p2 + 1) ((np : Nat) : Int) w4.drew (HD4.out.low (Below.refl _ _).drew (by omega)) (by omega) (by omega) (by omega))
      have HWA := Lib.hid ((Below.refl w4.heap.size w4).drew)
      have HSW := Lib.hid (show w4.drew.heap.size = w4.heap.size by simp)
      go_region_held3 (fun w' => w'.cell? ⟨w2.heap.size, 0, none⟩ = some (.slice At ts.length ct) ∧ w'.cell? ⟨w2.heap.size, 1, none⟩ = some (.slice Ab np cb))
        (first | exact ⟨q0, q1⟩ | exact ⟨q07, q17⟩ | exact Q9.out | assumption | go_keep)
        (first
          | (go_at_call 48; (with_reducible refine HCN.out.mono ?_); (rintro e w7 ⟨x, rfl, -, -, hd7, hg7⟩); (have hs7 := hg7.size); (rw [HSW.out] at hs7); (have hr7 := row_grown (row_below HR4.out HWA.out) hg7 (by omega)); (have hrp7 := row_grown (row_below HRP4.out HWA.out) hg7 (by omega)); (have q07 : w7.cell? ⟨w2.heap.size, 0, none⟩ = some (.slice At ts.length ct) := by (rw [cell_of_row _ _ _ _ _ _ hrp7]; rfl)); (have q17 : w7.cell? ⟨w2.heap.size, 1, none⟩ = some (.slice Ab np cb) := by (rw [cell_of_row _ _ _ _ _ _ hrp7]; rfl)); (have z07 : w7.cell? ⟨w.heap.size, 0, none⟩ = some (.slice none 0 0) := by (rw [cell_of_row _ _ _ _ _ _ hr7]; rfl)); (have z17 : w7.cell? ⟨w.heap.size, 1, none⟩ = some (.slice none 0 0) := by (rw [cell_of_row _ _ _ _ _ _ hr7]; rfl)); (have zf07 := frozen_of_row w7 w.heap.size 0 _ _ hr7); (have zf17 := frozen_of_row w7 w.heap.size 1 _ _ hr7); (have HR9 := Lib.hid hr7); (have HG9 := Lib.hid hg7); (have Q9 := Lib.hid (pl_set (Ne.symm (Nat.ne_of_lt hw2)) q07 q17 (.slice At ts.length ct) (.slice Ab np cb))); clear hd7 hg7 hr7 hrp7)
          | fail)
      have HB9 := Lib.hid (grown_new (HB4.out.trans (HWA.out.mono HB4.out.size)) (by omega) HG9.out)
      have HIT9 := Lib.hid (((HIT4.out.bel HWA.out).grown HG9.out (by show ¬ (w1.heap.size ≤ w.heap.size + 1); omega)))
      have HST9 := Lib.hid (((HST4.out.bel HWA.out).grown HG9.out (by show ¬ (w1.heap.size ≤ w.heap.size + 1); omega)))
      go_wp2_with fail
      refine bodyPost_ret (res_box (u := 3) rfl _ _ w.heap.size 26 _ (0, 0) _ rfl (box2 HR9.out _ _).1 Try.underlying26 rfl rfl) rfl ?_
      exact (pl_close (a := x) HB9.out (box2 HR9.out _ _).2 HIT9.out HST9.out (by omega) hts hsz)

theorem drawSplitProgram_any (A : Option Addr) (n c : Nat) (w : World) (hb : Byt w w.heap.size A n) (hn : n ≤ 1048576) (hc : n ≤ c) :
    Calls Try.prog 11 #[.slice A n c] w (PlRet w) := by
  have HB := Lib.hid hb
  clear hb
  go_enter Try.func11, Try.ntmps11
  go_wp2_with fail
  have hA := bel_a w (.cells #[.slice none 0 0, .slice none 0 0] 26)
  have hsA : (w.alloc (.cells #[.slice none 0 0, .slice none 0 0] 26)).heap.size = w.heap.size + 1 := by simp
  refine (l11Place_any A n c _ (by rw [hsA]; exact (HB.out.keep fun b o hb => hA.cell (p := ⟨b, o, none⟩) hb).more (by omega)) hn hc).mono ?_
  rintro e w1 ⟨vt, vb, ts, l, a, rfl, hit, hst, hts, hsz, hb1⟩
  rw [hsA] at hit hst
  have hs1 : w.heap.size + 1 ≤ w1.heap.size := by have := hb1.size; rw [hsA] at this; exact this
  have HB1 := Lib.hid (hA.trans (hb1.mono (by omega)))
  have HR1 := Lib.hid (row_below (heap_alloc_new w (.cells #[.slice none 0 0, .slice none 0 0] 26)) hb1)
  obtain ⟨At, ct, rfl, -⟩ := hit.slice
  obtain ⟨Ab, cb, rfl, -⟩ := hst.slice
  have HIT := Lib.hid hit
  have HST := Lib.hid hst
  clear hit hst hb1 hA hsA
  go_wp2_with fail
  have hA1 := bel_a w1 (.cells #[.slice At ts.length ct, .slice Ab l.length cb] 26)
  have hsA1 : (w1.alloc (.cells #[.slice At ts.length ct, .slice Ab l.length cb] 26)).heap.size = w1.heap.size + 1 := by simp
  refine (l17Open_any A n c _ (by rw [hsA1]; exact (HB.out.keep fun b o hb => ((HB1.out.trans (hA1.mono (by omega))).cell (p := ⟨b, o, none⟩) hb)).more (by omega)) hn hc).mono ?_
  rw [hsA1]
  rintro e w2 ⟨rfl, hd2, hb2⟩
  have hs2 : w1.heap.size + 1 < w2.heap.size := hd2.lt
  have HRP2 := Lib.hid (row_below (heap_alloc_new w1 (.cells #[.slice At ts.length ct, .slice Ab l.length cb] 26)) (by rw [hsA1]; exact hb2))
  have HR2 := Lib.hid (row_below (row_below HR1.out hA1) (by rw [hsA1]; exact hb2))
  have HB2 := Lib.hid (HB1.out.trans ((hA1.mono (by omega)).trans (hb2.mono (by omega))))
  have HK2 : Hid (∀ b, b < w1.heap.size → w2.heap[b]? = w1.heap[b]?) := Lib.hid fun b hb => (hb2.block b (by omega)).trans (hA1.block b hb)
  have HD2 := Lib.hid hd2
  clear hd2 hb2 hA1 hsA1
  go_wp2_with fail
  refine (pick_any (w1.heap.size + 1) 0 _ _ HD2.out (by omega) (by omega) (by omega)).mono ?_
  rintro e w3 ⟨k, rfl, -, -, hd3, hg3⟩
  have hs3 := hg3.size
  have HR3 := Lib.hid (row_grown HR2.out hg3 (by omega))
  have HRP3 := Lib.hid (row_grown HRP2.out hg3 (by omega))
  have HB3 := Lib.hid (grown_new HB2.out (by omega) hg3)
  have HK3 : Hid (∀ b, b < w1.heap.size → w3.heap[b]? = w1.heap[b]?) := Lib.hid fun b hb => (hg3.block b (by omega) (fun e => by injection e with e; omega)).trans (HK2.out b hb)
  have HIT3 : Hid (IntX w3 (fun b => w.heap.size + 1 ≤ b) (.slice At ts.length ct) ts) := Lib.hid (HIT.out.frame (by omega) fun b hb hl => ⟨hb, HK3.out b hl⟩)
  have HST3 : Hid (StX w3 (fun b => w.heap.size + 1 ≤ b) (.slice Ab l.length cb) l) := Lib.hid (HST.out.frame (by omega) fun b hb hl => ⟨hb, HK3.out b hl⟩)
  clear hd3 hg3
  have q0 : w3.cell? ⟨w1.heap.size, 0, none⟩ = some (.slice At ts.length ct) := by rw [cell_of_row _ _ _ _ _ _ HRP3.out]; rfl
  have q1 : w3.cell? ⟨w1.heap.size, 1, none⟩ = some (.slice Ab l.length cb) := by rw [cell_of_row _ _ _ _ _ _ HRP3.out]; rfl
  have z0 : w3.cell? ⟨w.heap.size, 0, none⟩ = some (.slice none 0 0) := by rw [cell_of_row _ _ _ _ _ _ HR3.out]; rfl
  have z1 : w3.cell? ⟨w.heap.size, 1, none⟩ = some (.slice none 0 0) := by rw [cell_of_row _ _ _ _ _ _ HR3.out]; rfl
  have zf0 := frozen_of_row w3 w.heap.size 0 _ _ HR3.out
  have zf1 := frozen_of_row w3 w.heap.size 1 _ _ HR3.out
  have hne : w1.heap.size ≠ w.heap.size := by omega
  by_cases hk : k = 0
  · subst hk
    go_wp2_with fail
    go_region_law (fail)
    all_goals
      go_wp2_with fail
      refine bodyPost_ret (res_box (u := 3) rfl _ _ w.heap.size 26 _ (0, 0) _ rfl (box2 HR3.out _ _).1 Try.underlying26 rfl rfl) rfl ?_
      exact (pl_close (a := (l.length : Nat)) HB3.out (grown_tr (box2 HR3.out _ _).2 (grown_bel (Below.refl _ _).drew (Nat.le_refl _) _)) HIT3.out HST3.out (by omega) hts hsz)
  · have hk1 : (k == 0) = false := by simpa using hk
    clear hk
    go_wp2_with fail
    refine bodyPost_ret (res_box (u := 3) rfl _ _ w.heap.size 26 _ (0, 0) _ rfl (box2 HR3.out _ _).1 Try.underlying26 rfl rfl) rfl ?_
    exact (pl_close (a := a) HB3.out (box2 HR3.out _ _).2 HIT3.out HST3.out (by omega) hts hsz)

end Go.Proofs.Ytidlifijgooceaa

/- slices.Equal; impl.sameStmts of equal statements; impl.ProgramSame of equal programs. -/
namespace Go.Proofs.Ytidlifijgooceaa
open Go.RowKit

set_option maxHeartbeats 400000 in
theorem equal_any (va vb : Value) (la lb : List Int) (B : Nat) (w : World) (ha : IntS w B va la) (hb : IntS w B vb lb) :
    Calls Try.prog 53 #[va, vb] w fun e w' => e = .returned (.bool (eqP la lb)) ∧ ∃ n, w' = w.drewN n := by
  obtain ⟨A, c, rfl, hc, hm, hr⟩ := ha
  obtain ⟨A', c', rfl, hc', hm', hr'⟩ := hb
  by_cases hl : la.length = lb.length
  · have hle : ((la.length : Int) != (lb.length : Int)) = false := by simp [hl]
    have HL := Lib.hid hl
    clear hl
    go_enter Try.func53, Try.ntmps53
    go_wp2
    go_loopw [13] (fun i wr => ∃ k : Nat, k ≤ la.length ∧ i = .int .i64 k ∧ la.take k = lb.take k ∧ ∃ n, wr = w.drewN n) (fun i _ => la.length - (intOf i).toNat)
    case atStart => exact ⟨0, Nat.zero_le _, rfl, by simp, 0, rfl⟩
    case round =>
      obtain ⟨k, hk, rfl, hn, n0, rfl⟩ := hrel
      have H := Lib.hid hn
      clear hn
      by_cases hlt : k < la.length
      · have hlt2 : k < lb.length := by rw [← HL.out]; exact hlt
        obtain ⟨b, off, rfl, hb, hcell⟩ := hr.int_at hlt
        have hck := hcell k hlt
        obtain ⟨b', off', rfl, hb', hcell'⟩ := hr'.int_at hlt2
        have hck' := hcell' k hlt2
        clear hcell hcell'
        go_wp2
        go_quiet (fail)
        go_wp2
        · have hx : (la[k] != lb[k]) = true := by assumption
          go_ret
          refine ⟨ret_bool ?_, drewN_two _ _ _⟩
          unfold eqP
          rw [eq_comm, decide_eq_false_iff_not]
          rintro rfl
          simp at hx
        · have hx : (la[k] != lb[k]) = false := by assumption
          refine ⟨⟨k + 1, by omega, by go_num, ?_, ⟨_, rfl⟩⟩, by simp [intOf]; omega⟩
          rw [take_succ_get la k hlt, take_succ_get lb k hlt2, H.out]
          simp at hx
          rw [hx]
      · obtain rfl : k = la.length := by omega
        go_wp2
        go_ret
        refine ⟨ret_bool ?_, n0, rfl⟩
        have h := H.out
        rw [List.take_length, HL.out, List.take_length] at h
        unfold eqP
        rw [eq_comm]
        exact decide_eq_true h
  · have hle : ((la.length : Int) != (lb.length : Int)) = true := by simp; omega
    have HL := Lib.hid hl
    clear hl
    go_enter Try.func53, Try.ntmps53
    go_wp2
    go_ret
    refine ⟨ret_bool ?_, 0, rfl⟩
    unfold eqP
    rw [eq_comm, decide_eq_false_iff_not]
    exact fun h => HL.out (by rw [h])
def TruRet (w : World) (e : Ending) (w' : World) : Prop := e = .returned (.bool true) ∧ Below w.heap.size w w'
def SameOk (m : Nat) : Prop := ∀ (va vb : Value) (l : List St) (B : Nat) (w : World), szL l ≤ m → StS w B va l → StS w B vb l → B ≤ w.heap.size → Calls Try.prog 54 #[va, vb] w (TruRet w)
set_option maxHeartbeats 2000000 in
set_option maxRecDepth 100000 in
theorem same_clo (m : Nat) (ih : ∀ j, j < m → SameOk j) (op x y n : Int) (tv ev tv' ev' : Value) (th el : List St) (B : Nat) (w : World) (hm : szL th + szL el < m) (h1 : StS w B tv th) (h2 : StS w B tv' th) (h3 : StS w B ev el) (h4 : StS w B ev' el) (hB : B ≤ w.heap.size) :
    Calls Try.prog 109 #[.agg #[.int .i64 op, .int .i64 x, .int .i64 y, .int .i64 n, tv, ev], .agg #[.int .i64 op, .int .i64 x, .int .i64 y, .int .i64 n, tv', ev']] w (TruRet w) := by
  obtain ⟨A1, c1, rfl, -⟩ := h1.slice
  obtain ⟨A2, c2, rfl, -⟩ := h2.slice
  obtain ⟨A3, c3, rfl, -⟩ := h3.slice
  obtain ⟨A4, c4, rfl, -⟩ := h4.slice
  have H1 := Lib.hid h1
  have H2 := Lib.hid h2
  have H3 := Lib.hid h3
  have H4 := Lib.hid h4
  have IH := Lib.hid ih
  clear h1 h2 h3 h4 ih
  have HR := Lib.hid (RowB.new w [.int .i64 op, .int .i64 x, .int .i64 y, .int .i64 n, .slice A1 th.length c1, .slice A3 el.length c3] 87)
  have HB1 := Lib.hid (bel_a w (.cells #[.int .i64 op, .int .i64 x, .int .i64 y, .int .i64 n, .slice A1 th.length c1, .slice A3 el.length c3] 87))
  have hs1 : (w.alloc (.cells #[.int .i64 op, .int .i64 x, .int .i64 y, .int .i64 n, .slice A1 th.length c1, .slice A3 el.length c3] 87)).heap.size = w.heap.size + 1 := by simp
  have HR2 := Lib.hid (RowB.new (w.alloc (.cells #[.int .i64 op, .int .i64 x, .int .i64 y, .int .i64 n, .slice A1 th.length c1, .slice A3 el.length c3] 87)) [.int .i64 op, .int .i64 x, .int .i64 y, .int .i64 n, .slice A2 th.length c2, .slice A4 el.length c4] 87)
  have HB2 := Lib.hid (bel_a (w.alloc (.cells #[.int .i64 op, .int .i64 x, .int .i64 y, .int .i64 n, .slice A1 th.length c1, .slice A3 el.length c3] 87)) (.cells #[.int .i64 op, .int .i64 x, .int .i64 y, .int .i64 n, .slice A2 th.length c2, .slice A4 el.length c4] 87))
  have HS1 := Lib.hid hs1
  clear hs1
  have he : ∀ z : Int, (z == z) = true := fun z => by simp
  have he1 := he op
  have he2 := he x
  have he3 := he y
  have he4 := he n
  clear he
  go_enter Try.func109, Try.ntmps109
  go_upto_region 1 with (at_builtin; fail)
  generalize w.alloc (.cells #[.int .i64 op, .int .i64 x, .int .i64 y, .int .i64 n, .slice A1 th.length c1, .slice A3 el.length c3] 87) = w1 at *
  generalize w1.alloc (.cells #[.int .i64 op, .int .i64 x, .int .i64 y, .int .i64 n, .slice A2 th.length c2, .slice A4 el.length c4] 87) = w2 at *
  have hs1 := HS1.out
  rw [hs1] at HR2
  have HS1 := Lib.hid hs1
  clear hs1
  have HRA := Lib.hid (HR.out.low HB2.out HR.out.lt)
  have HBA := Lib.hid (HB1.out.trans (HB2.out.mono HB1.out.size))
  have hsz := HBA.out.size
  have a0 := HRA.out.cell 0
  have a1 := HRA.out.cell 1
  have a2 := HRA.out.cell 2
  have a3 := HRA.out.cell 3
  have a4 := HRA.out.cell 4
  have a5 := HRA.out.cell 5
  have b0 := HR2.out.cell 0
  have b1 := HR2.out.cell 1
  have b2 := HR2.out.cell 2
  have b3 := HR2.out.cell 3
  have b4 := HR2.out.cell 4
  have b5 := HR2.out.cell 5
  simp only [List.getElem?_cons_zero, List.getElem?_cons_succ] at a0 a1 a2 a3 a4 a5 b0 b1 b2 b3 b4 b5
  go_wp2_with (at_builtin; fail)
  refine (IH.out (szL th) (by omega) _ _ th B w2 (Nat.le_refl _) (H1.out.low HBA.out hB) (H2.out.low HBA.out hB) (by omega)).mono ?_
  rintro e w3 ⟨rfl, hb3⟩
  have HB3 := Lib.hid (HBA.out.trans (hb3.mono hsz))
  have hs3 := HB3.out.size
  have HRA3 := Lib.hid (HRA.out.low hb3 HRA.out.lt)
  have HR23 := Lib.hid (HR2.out.low hb3 HR2.out.lt)
  clear a0 a1 a2 a3 a4 a5 b0 b1 b2 b3 b4 b5 hb3
  have a5 := HRA3.out.cell 5
  have b5 := HR23.out.cell 5
  simp only [List.getElem?_cons_zero, List.getElem?_cons_succ] at a5 b5
  go_wp2_with (at_builtin; fail)
  refine (IH.out (szL el) (by omega) _ _ el B w3 (Nat.le_refl _) (H3.out.low HB3.out hB) (H4.out.low HB3.out hB) (by omega)).mono ?_
  rintro e w4 ⟨rfl, hb4⟩
  go_wp2_with (at_builtin; fail)
  go_ret
  exact ⟨rfl, HB3.out.trans (hb4.mono hs3)⟩

set_option maxHeartbeats 2000000 in
set_option maxRecDepth 100000 in
theorem same_fun (m : Nat) (ih : ∀ j, j < m → SameOk j) (va vb : Value) (l : List St) (B : Nat) (w : World) (hm : szL l ≤ m) (hM : m ≤ 4194304) (h1 : StS w B va l) (h2 : StS w B vb l) (hB : B ≤ w.heap.size) :
    Calls Try.prog 108 #[va, vb, .func (.func 109) #[] #[]] w (TruRet w) := by
  have hll := len_le_szL l
  have H1 := Lib.hid h1
  have H2 := Lib.hid h2
  have IH := Lib.hid ih
  obtain ⟨A1, c1, rfl, hc1⟩ := h1.slice
  obtain ⟨A2, c2, rfl, hc2⟩ := h2.slice
  have hle : ((l.length : Int) != (l.length : Int)) = false := by simp
  clear h1 h2 ih
  go_enter Try.func108, Try.ntmps108
  go_wp2_with (at_builtin; fail)
  clear hle
  go_loopw [17] (fun i wr => ∃ k : Nat, k ≤ l.length ∧ i = .int .i64 k ∧ Below w.heap.size w wr) (fun i _ => l.length - (intOf i).toNat)
  case atStart => exact ⟨0, Nat.zero_le _, rfl, Below.refl _ _⟩
  case round =>
    obtain ⟨k, hk, rfl, hbw⟩ := hrel
    have HBW := Lib.hid hbw
    have hsw := hbw.size
    clear hbw
    by_cases hlt : k < l.length
    · have hsz := szL_mem hlt
      rw [l[k].sz_eq] at hsz
      obtain ⟨b1, o1, t1, e1, rfl, hb1, ht1, he1, p0, p1, p2, p3, p4, p5⟩ := (H1.out.low HBW.out hB).get hlt
      obtain ⟨b2, o2, t2, e2, rfl, hb2, ht2, he2, q0, q1, q2, q3, q4, q5⟩ := (H2.out.low HBW.out hB).get hlt
      obtain ⟨A3, c3, rfl, -⟩ := ht1.slice
      obtain ⟨A4, c4, rfl, -⟩ := he1.slice
      obtain ⟨A5, c5, rfl, -⟩ := ht2.slice
      obtain ⟨A6, c6, rfl, -⟩ := he2.slice
      have HT1 := Lib.hid ht1
      have HE1 := Lib.hid he1
      have HT2 := Lib.hid ht2
      have HE2 := Lib.hid he2
      generalize l[k]'hlt = s at *
      clear ht1 he1 ht2 he2
      have hb2r : b2 < wr.heap.size := by omega
      have r0 := fun o => ((bel_a wr o).cell (p := ⟨b2, o2 + k * 6, none⟩) hb2r).trans q0
      have r1 := fun o => ((bel_a wr o).cell (p := ⟨b2, o2 + k * 6 + 1, none⟩) hb2r).trans q1
      have r2 := fun o => ((bel_a wr o).cell (p := ⟨b2, o2 + k * 6 + 2, none⟩) hb2r).trans q2
      have r3 := fun o => ((bel_a wr o).cell (p := ⟨b2, o2 + k * 6 + 3, none⟩) hb2r).trans q3
      have r4 := fun o => ((bel_a wr o).cell (p := ⟨b2, o2 + k * 6 + 4, none⟩) hb2r).trans q4
      have r5 := fun o => ((bel_a wr o).cell (p := ⟨b2, o2 + k * 6 + 5, none⟩) hb2r).trans q5
      have HC := Lib.hid (fun (wz : World) (hz : Below wr.heap.size wr wz) => same_clo m IH.out s.op s.x s.y s.n (.slice A3 s.th.length c3) (.slice A4 s.el.length c4) (.slice A5 s.th.length c5) (.slice A6 s.el.length c6) s.th s.el B wz (by omega) (HT1.out.low hz (by omega)) (HT2.out.low hz (by omega)) (HE1.out.low hz (by omega)) (HE2.out.low hz (by omega)) (by have := hz.size; omega))
      have HB2 := Lib.hid ((bel_a wr (.cells #[.int .i64 s.op, .int .i64 s.x, .int .i64 s.y, .int .i64 s.n, .slice A3 s.th.length c3, .slice A4 s.el.length c4] 87)).alloc (by simp) (.cells #[.int .i64 s.op, .int .i64 s.x, .int .i64 s.y, .int .i64 s.n, .slice A5 s.th.length c5, .slice A6 s.el.length c6] 87))
      go_wp2_with (at_builtin; fail)
      refine (HC.out _ HB2.out).mono ?_
      rintro e w3 ⟨rfl, hb3⟩
      have HB3 := Lib.hid (HBW.out.trans ((HB2.out.trans (hb3.mono HB2.out.size)).mono hsw))
      clear hb3
      go_wp2_with (at_builtin; fail)
      exact ⟨⟨k + 1, by omega, by go_num, HB3.out⟩, by simp [intOf] <;> omega⟩
    · go_wp2_with (at_builtin; fail)
      go_ret
      exact ⟨rfl, HBW.out⟩
theorem same_of (m : Nat) (hM : m ≤ 4194304) (ih : ∀ j, j < m → SameOk j) : SameOk m := by
  intro va vb l B w hm h1 h2 hB
  have HC := Lib.hid (same_fun m ih va vb l B w hm hM h1 h2 hB)
  go_enter Try.func54, Try.ntmps54
  go_wp2_with (at_builtin; fail)
  refine HC.out.mono ?_
  rintro e w1 ⟨rfl, hb1⟩
  go_wp2_with (at_builtin; fail)
  go_ret
  exact ⟨rfl, hb1⟩
theorem same_any (m : Nat) (hM : m ≤ 4194304) : SameOk m := by
  induction m using Nat.strongRecOn with
  | _ m ih => exact same_of m hM fun j hj => ih j hj (by omega)
set_option maxHeartbeats 1000000 in
set_option maxRecDepth 100000 in
/-- equal programs are the same -/
theorem iProgramSame_same (vt vb vt' vb' : Value) (ts : List Int) (l : List St) (B : Nat) (w : World) (ht : IntS w B vt ts) (hl : StS w B vb l) (ht' : IntS w B vt' ts) (hl' : StS w B vb' l) (hB : B ≤ w.heap.size) (hsz : szL l ≤ 4194304) :
    Calls Try.prog 14 #[.agg #[vt, vb], .agg #[vt', vb']] w (TruRet w) := by
  have hb2 : Below w.heap.size w ((w.alloc (.cells #[vt, vb] 26)).alloc (.cells #[vt', vb'] 26)) := (bel_a w _).alloc (by simp) _
  have HB2 := Lib.hid hb2
  have HT := Lib.hid (ht.low hb2 hB)
  have HT' := Lib.hid (ht'.low hb2 hB)
  have HL := Lib.hid (hl.low hb2 hB)
  have HL' := Lib.hid (hl'.low hb2 hB)
  have HR1 := Lib.hid ((RowB.new w [vt, vb] 26).alloc (.cells #[vt', vb'] 26))
  have HR2 := Lib.hid (RowB.new (w.alloc (.cells #[vt, vb] 26)) [vt', vb'] 26)
  have hs1 : (w.alloc (.cells #[vt, vb] 26)).heap.size = w.heap.size + 1 := by simp
  rw [hs1] at HR2
  obtain ⟨A1, c1, rfl, -⟩ := ht
  obtain ⟨A2, c2, rfl, -⟩ := ht'
  obtain ⟨A3, c3, rfl, -⟩ := hl.slice
  obtain ⟨A4, c4, rfl, -⟩ := hl'.slice
  clear hb2 hs1 hl hl'
  go_enter Try.func14, Try.ntmps14
  go_upto_region 1 with (at_builtin; fail)
  generalize (w.alloc (.cells #[.slice A1 ts.length c1, .slice A3 l.length c3] 26)).alloc (.cells #[.slice A2 ts.length c2, .slice A4 l.length c4] 26) = w2 at *
  have a0 := HR1.out.cell 0
  have a1 := HR1.out.cell 1
  have b0 := HR2.out.cell 0
  have b1 := HR2.out.cell 1
  simp only [List.getElem?_cons_zero, List.getElem?_cons_succ] at a0 a1 b0 b1
  have hs2 := HB2.out.size
  go_wp2_with (at_builtin; fail)
  refine (equal_any _ _ ts ts B w2 HT.out HT'.out).mono ?_
  rintro e w3 ⟨rfl, n, rfl⟩
  rw [show eqP ts ts = true by simp [eqP]]
  have hb3 := below_of_drewN (w := w2) ⟨n, rfl⟩ w2.heap.size
  have HB3 := Lib.hid (HB2.out.trans (hb3.mono hs2))
  have HL3 := Lib.hid (HL.out.low hb3 (by omega))
  have HL3' := Lib.hid (HL'.out.low hb3 (by omega))
  have c1' := (hb3.cell (p := ⟨w.heap.size, 1, none⟩) HR1.out.lt).trans a1
  have d1' := (hb3.cell (p := ⟨w.heap.size + 1, 1, none⟩) HR2.out.lt).trans b1
  have hs3 := HB3.out.size
  clear a0 a1 b0 b1 hb3
  generalize w2.drewN n = w3 at *
  go_wp2_with (at_builtin; fail)
  refine (same_any (szL l) hsz _ _ l B w3 (Nat.le_refl _) HL3.out HL3'.out (by omega)).mono ?_
  rintro e w4 ⟨rfl, hb4⟩
  go_wp2_with (at_builtin; fail)
  go_ret
  exact ⟨rfl, HB3.out.trans (hb4.mono hs3)⟩

end Go.Proofs.Ytidlifijgooceaa
