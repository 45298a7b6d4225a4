import Derived.Test.YtidlifijgooceaaW12
import Derived.Test.YtidlifijgooceaaW09
import Derived.RegionTactic
import Derived.Laws.OwnMore
set_option linter.unusedVariables false

/- Rows of sets of 64 bits; impl.graph.tracked. -/
namespace Go.Proofs.Ytidlifijgooceaa
open Go.RowKit

theorem RowB.grown {w w' : World} {g g' : Nat} {t : TypeId} {l : List Value} (h : RowB w g t l) (k : w.grownBy w' (some g')) (hne : g ≠ g') : RowB w' g t l :=
  (k.block g h.lt (fun e => hne (by injection e))).trans h
theorem OInts.oth {w w' : World} {base g : Nat} {v : Value} {l : List Int} (h : OInts w base v l) (hg : g < base) (k : w.grownBy w' (some g)) : OInts w' base v l :=
  World.ownsRow.kept h k (.inr (by
    cases e : v.ownBlock with
    | none => simp
    | some k => intro e'; injection e' with e'; have := (World.ownsRow.lt h k e).1; omega))
theorem OInts.at_ {w : World} {base : Nat} {A : Option Addr} {n c : Nat} {l : List Int} (h : OInts w base (.slice A n c) l) {k : Nat} (hk : k < l.length) :
    ∃ g, A = some ⟨g, 0, none⟩ ∧ base ≤ g ∧ g < w.heap.size ∧ n = l.length ∧ w.cell? ⟨g, k, none⟩ = some (.int .i64 (l.getD k 0)) := by
  obtain ⟨A', c', e, _⟩ := h.slice
  injection e with _ e2 _
  subst e2
  obtain ⟨g, cap, e, hb, hlt⟩ := World.ownsRow.form h (by omega)
  injection e with e1 _ e3
  subst e1 e3
  refine ⟨g, rfl, hb, hlt, rfl, ?_⟩
  rw [World.ownsRow.cellAt h k (by omega), List.getElem?_map, List.getElem?_eq_getElem hk, getD_lt hk]; rfl
set_option maxHeartbeats 8000000
set_option maxRecDepth 100000

end Go.Proofs.Ytidlifijgooceaa
