import Derived.Test.YtidlifijgooceaaE33
import Derived.Test.YtidlifijgooceaaE21
set_option linter.unusedVariables false

/- DrawNeedsOf, DrawTakesOf. -/
namespace Go.Proofs.Ytidlifijgooceaa
open Go.RowKit

theorem grown_new {w a b : World} {g : Nat} (h : Below w.heap.size w a) (hg : w.heap.size ≤ g) (k : a.grownBy b (some g)) : Below w.heap.size w b :=
  ⟨k.os.trans h.os, k.tape.trans h.tape, k.output.trans h.output, Nat.le_trans h.size k.size, fun i hi => (k.block i (Nat.lt_of_lt_of_le hi h.size) (fun e => by injection e with e; omega)).trans (h.block i hi)⟩
/-- statements without the first -/
theorem StX.tail {w : World} {P : Nat → Prop} {b off n c : Nat} {l : List St} (h : StX w P (.slice (some ⟨b, off, none⟩) n c) l) (hn : 0 < l.length) : StX w P (.slice (some ⟨b, off + 6, none⟩) (n - 1) (c - 1)) l.tail := by
  cases h with
  | mk A c l tv ev hc hr ht he =>
    obtain ⟨b', off', e, hb, hlt, hcell⟩ := hr hn
    injection e with e
    injection e with e1 e2
    subst e1 e2
    have hlen : l.length - 1 = l.tail.length := by simp
    rw [hlen]
    have hget : ∀ i (hi : i < l.tail.length), l.tail[i] = l[i + 1]'(by simp at hi; omega) := fun i hi => by simp
    refine .mk _ _ _ (fun i => tv (i + 1)) (fun i => ev (i + 1)) (by simp; omega) (fun _ => ⟨b, off + 6, rfl, hb, hlt, fun i hi => ?_⟩) (fun i hi => ?_) (fun i hi => ?_)
    · have := hcell (i + 1) (by simp at hi; omega)
      rw [hget]
      have e : off + (i + 1) * 6 = off + 6 + i * 6 := by omega
      rw [e] at this
      exact this
    · rw [hget]; exact ht (i + 1) (by simp at hi; omega)
    · rw [hget]; exact he (i + 1) (by simp at hi; omega)
end Go.Proofs.Ytidlifijgooceaa

/- spec.l2Branch, l3Place, the draws of the flow laws. -/
namespace Go.Proofs.Ytidlifijgooceaa
open Go.RowKit

set_option maxHeartbeats 4000000
set_option maxRecDepth 100000

end Go.Proofs.Ytidlifijgooceaa

/- FnTakesOf: the draw, the plain law, the walk. -/
namespace Go.Proofs.Ytidlifijgooceaa
open Go.RowKit

end Go.Proofs.Ytidlifijgooceaa

/- Words for the laws' walks: a drawn program in its box. The plain law of NeedsOpen. -/
namespace Go.Proofs.Ytidlifijgooceaa
open Go.RowKit

/-- the program (vt, vb) lies in the box g and reads as (ts, l); what was in w is as it was -/
structure PgB (w W : World) (g : Nat) (vt vb : Value) (ts : List Int) (l : List St) : Prop where
  bel : Below w.heap.size w W
  row : W.heap[g]? = some (.cells #[vt, vb] 26 (0, 0))
  ht : IntS W W.heap.size vt ts
  hl : StS W W.heap.size vb l
theorem PgB.lt {w W : World} {g : Nat} {vt vb : Value} {ts : List Int} {l : List St} (h : PgB w W g vt vb ts l) : g < W.heap.size := row_lt h.row
theorem PgB.c0 {w W : World} {g : Nat} {vt vb : Value} {ts : List Int} {l : List St} (h : PgB w W g vt vb ts l) : W.cell? ⟨g, 0, none⟩ = some vt := by rw [cell_of_row _ _ _ _ _ _ h.row]; rfl
theorem PgB.c1 {w W : World} {g : Nat} {vt vb : Value} {ts : List Int} {l : List St} (h : PgB w W g vt vb ts l) : W.cell? ⟨g, 1, none⟩ = some vb := by rw [cell_of_row _ _ _ _ _ _ h.row]; rfl
theorem PgB.bels {w W W' : World} {g : Nat} {vt vb : Value} {ts : List Int} {l : List St} (h : PgB w W g vt vb ts l) (hb : Below W.heap.size W W') : PgB w W' g vt vb ts l :=
  ⟨h.bel.trans (hb.mono h.bel.size), row_below h.row hb, (h.ht.low hb (Nat.le_refl _)).more hb.size, (h.hl.low hb (Nat.le_refl _)).more hb.size⟩
theorem PgB.new {w w1 : World} {vt vb : Value} {ts : List Int} {l : List St} {P Q : Nat → Prop} (ht : IntX w1 P vt ts) (hl : StX w1 Q vb l) (hb : Below w.heap.size w w1) : PgB w (w1.alloc (.cells #[vt, vb] 26)) w1.heap.size vt vb ts l := by
  have hA := bel_a w1 (.cells #[vt, vb] 26)
  exact ⟨hb.trans (hA.mono hb.size), heap_alloc_new w1 _, ((ht.toS).low hA (Nat.le_refl _)).more hA.size, ((hl.toS).low hA (Nat.le_refl _)).more hA.size⟩
theorem IntS.bel {w w' : World} {v : Value} {l : List Int} (h : IntS w w.heap.size v l) (hb : Below w.heap.size w w') : IntS w' w'.heap.size v l := (h.low hb (Nat.le_refl _)).more hb.size
theorem PtS.bel {w w' : World} {v : Value} {pts : List Pt} (h : PtS w w.heap.size v pts) (hb : Below w.heap.size w w') : PtS w' w'.heap.size v pts := (h.low hb (Nat.le_refl _)).more hb.size

end Go.Proofs.Ytidlifijgooceaa

/- spec.l14Case and the draws that hand it on. -/
namespace Go.Proofs.Ytidlifijgooceaa
open Go.RowKit

/-- below 'base' only block g has turned -/
structure Gb (base g : Nat) (W w : World) : Prop where
  os : w.os = W.os
  tape : w.tape = W.tape
  output : w.output = W.output
  size : W.heap.size ≤ w.heap.size
  block : ∀ b, b < base → b ≠ g → w.heap[b]? = W.heap[b]?
theorem Gb.refl (base g : Nat) (W : World) : Gb base g W W := ⟨rfl, rfl, rfl, Nat.le_refl _, fun _ _ _ => rfl⟩
theorem Gb.bel {base g : Nat} {W a b : World} (h : Gb base g W a) (k : Below base a b) : Gb base g W b :=
  ⟨k.os.trans h.os, k.tape.trans h.tape, k.output.trans h.output, Nat.le_trans h.size k.size, fun i hi hne => (k.block i hi).trans (h.block i hi hne)⟩
set_option maxHeartbeats 4000000
set_option maxRecDepth 100000

end Go.Proofs.Ytidlifijgooceaa

/- the draws of a program and small numbers (spec.l10Case and what stands on it). -/
namespace Go.Proofs.Ytidlifijgooceaa
open Go.RowKit

/-- what the ends of these draws need -/
structure DsE (w W : World) (vt vb : Value) (ts : List Int) (l : List St) : Prop where
  ht : IntX W (fun b => w.heap.size ≤ b) vt ts
  hl : StX W (fun b => w.heap.size ≤ b) vb l
  bel : Below w.heap.size w W
theorem DsE.mk' {w w3 W : World} {vt vb : Value} {ts : List Int} {l : List St} {lo : Nat} (h3 : Below w.heap.size w w3) (hW : w3.grownBy W (some w.heap.size)) (hT : IntX w3 (fun b => lo ≤ b) vt ts) (hB : StX w3 (fun b => lo ≤ b) vb l) (hlo : w.heap.size < lo) : DsE w W vt vb ts l := by
  have hk : ∀ b, lo ≤ b → b < w3.heap.size → w.heap.size ≤ b ∧ W.heap[b]? = w3.heap[b]? := fun b hb hl => ⟨by omega, hW.block b hl (fun e => by injection e with e; omega)⟩
  exact ⟨hT.frame hW.size hk, hB.frame hW.size hk, grown_new h3 (Nat.le_refl _) hW⟩

theorem belC {B : Nat} {w w' : World} {b o : Nat} {x : Option Value} (h : Below B w w') (e : w.cell? ⟨b, o, none⟩ = x) (hb : b < B) : w'.cell? ⟨b, o, none⟩ = x := (h.cell (p := ⟨b, o, none⟩) hb).trans e

end Go.Proofs.Ytidlifijgooceaa
