import Derived.Test.YtidlifijgooceaaJ15
set_option linter.unusedVariables false

/- l1Copy, l1CopyOf. -/
namespace Go.Proofs.Ytidlifijgooceaa
open Go.RowKit

/-- the box of a copied statement -/
def CpB (wr X : World) (op x y n : Int) (tv ev : Value) (th el : List St) : Prop :=
  X.heap[wr.heap.size]? = some (.cells #[.int .i64 op, .int .i64 x, .int .i64 y, .int .i64 n, tv, ev] 87 (0, 0)) ∧ StX X (fun b => wr.heap.size + 1 ≤ b) tv th ∧ StX X (fun b => wr.heap.size + 1 ≤ b) ev el ∧ Below wr.heap.size wr X
theorem CpB.th {wr X w2 : World} {op x y n : Int} {tv ev v' : Value} {th el th' : List St} (h : CpB wr X op x y n tv ev th el) (hb : Below X.heap.size X w2) (hx : OSt w2 X.heap.size v' th') : CpB wr (w2.setCell ⟨wr.heap.size, 4, none⟩ v') op x y n v' ev th' el := by
  obtain ⟨h1, h2, h3, h4⟩ := h
  have hlt := row_lt h1
  have hg := grown_set w2 wr.heap.size 4 v'
  refine ⟨(heap_setCell_same w2 wr.heap.size 4 _ _ v' (row_below h1 hb)).trans (by simp), ?_, ?_, ?_⟩
  · exact (hx.toX.grown hg (by show ¬ (X.heap.size ≤ wr.heap.size); omega)).frame (Nat.le_refl _) fun b hb _ => ⟨by have : X.heap.size ≤ b := hb; show wr.heap.size + 1 ≤ b; omega, rfl⟩
  · exact (h3.bel hb).grown hg (by show ¬ (wr.heap.size + 1 ≤ wr.heap.size); omega)
  · exact (h4.trans (hb.mono h4.size)).setCell (p := ⟨wr.heap.size, 4, none⟩) (Nat.le_refl _) _
theorem CpB.el {wr X w2 : World} {op x y n : Int} {tv ev v' : Value} {th el el' : List St} (h : CpB wr X op x y n tv ev th el) (hb : Below X.heap.size X w2) (hx : OSt w2 X.heap.size v' el') : CpB wr (w2.setCell ⟨wr.heap.size, 5, none⟩ v') op x y n tv v' th el' := by
  obtain ⟨h1, h2, h3, h4⟩ := h
  have hlt := row_lt h1
  have hg := grown_set w2 wr.heap.size 5 v'
  refine ⟨(heap_setCell_same w2 wr.heap.size 5 _ _ v' (row_below h1 hb)).trans (by simp), ?_, ?_, ?_⟩
  · exact (h2.bel hb).grown hg (by show ¬ (wr.heap.size + 1 ≤ wr.heap.size); omega)
  · exact (hx.toX.grown hg (by show ¬ (X.heap.size ≤ wr.heap.size); omega)).frame (Nat.le_refl _) fun b hb _ => ⟨by have : X.heap.size ≤ b := hb; show wr.heap.size + 1 ≤ b; omega, rfl⟩
  · exact (h4.trans (hb.mono h4.size)).setCell (p := ⟨wr.heap.size, 5, none⟩) (Nat.le_refl _) _
theorem StX.up {wr X : World} {v : Value} {l : List St} (h : StX X (fun b => wr.heap.size + 1 ≤ b) v l) : StX X (fun b => wr.heap.size ≤ b) v l :=
  h.frame (Nat.le_refl _) fun b hb _ => ⟨by have : wr.heap.size + 1 ≤ b := hb; show wr.heap.size ≤ b; omega, rfl⟩

end Go.Proofs.Ytidlifijgooceaa
