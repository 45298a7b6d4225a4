import Derived.Test.YtidlifijgooceaaJ18
import Derived.Test.YtidlifijgooceaaJ09
import Derived.Test.YtidlifijgooceaaJ17
import Derived.Test.YtidlifijgooceaaJ19
set_option linter.unusedVariables false

/- spec.LiveAfter, spec.NeedsOf. -/
namespace Go.Proofs.Ytidlifijgooceaa
open Go.RowKit

theorem IntS.nil' (w : World) (B : Nat) (A : Option Addr) (c : Nat) : IntS w B (.slice A 0 c) [] := ⟨A, c, rfl, Nat.zero_le _, by simp, Rd.nil⟩
/-- the box of a program's two slices, in a world behind it -/
structure Boxed (w W : World) (B : Nat) (vt vb : Value) (ts : List Int) (l : List St) : Prop where
  bel : Below w.heap.size w W
  lt : w.heap.size < W.heap.size
  c0 : W.cell? ⟨w.heap.size, 0, none⟩ = some vt
  c1 : W.cell? ⟨w.heap.size, 1, none⟩ = some vb
  ht : IntS W B vt ts
  hl : StS W B vb l
theorem Boxed.new {w : World} {B : Nat} {vt vb : Value} {ts : List Int} {l : List St} (ht : IntS w B vt ts) (hl : StS w B vb l) (hB : B ≤ w.heap.size) (t : TypeId) : Boxed w (w.alloc (.cells #[vt, vb] t)) B vt vb ts l := by
  have hb := bel_a w (.cells #[vt, vb] t)
  have hr := heap_alloc_new w (.cells #[vt, vb] t)
  exact ⟨hb, by simp, (cell_of_row _ _ _ _ _ _ hr).trans rfl, (cell_of_row _ _ _ _ _ _ hr).trans rfl, ht.low hb hB, hl.low hb hB⟩
theorem Boxed.bels {w W W' : World} {B : Nat} {vt vb : Value} {ts : List Int} {l : List St} (h : Boxed w W B vt vb ts l) (hb : Below W.heap.size W W') (hB : B ≤ w.heap.size) : Boxed w W' B vt vb ts l :=
  have hlt := h.lt
  ⟨h.bel.trans (hb.mono h.bel.size), Nat.lt_of_lt_of_le h.lt hb.size, (hb.cell (p := ⟨w.heap.size, 0, none⟩) h.lt).trans h.c0, (hb.cell (p := ⟨w.heap.size, 1, none⟩) h.lt).trans h.c1, h.ht.low hb (by omega), h.hl.low hb (by omega)⟩
theorem graphOk_yes {ts : List Int} {l : List St} {a : Int} (h0 : 0 ≤ a) (h : a < (pointsP ts l).length) : validP ts l = true ∧ pointsP ts l = ptsP l ∧ graphOk ts l [a] = true := by
  unfold pointsP at h ⊢
  cases hv : validP ts l
  · rw [hv] at h; simp at h; omega
  · rw [hv] at h
    simp only [if_true] at h ⊢
    refine ⟨trivial, trivial, ?_⟩
    simp only [graphOk, hv, Bool.true_and, List.all_cons, List.all_nil, Bool.and_true, withinP, Bool.and_eq_true, decide_eq_true_eq]
    omega

theorem OInts.bel {w w' : World} {base : Nat} {v : Value} {l : List Int} (h : OInts w base v l) (hb : Below w.heap.size w w') : OInts w' base v l := h.move (Nat.le_refl _) fun b _ hl => hb.block b hl

set_option maxHeartbeats 4000000

set_option maxRecDepth 100000

end Go.Proofs.Ytidlifijgooceaa
