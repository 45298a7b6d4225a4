import Derived.Test.YtidlifijgooceaaJ29
import Derived.Deep.RegionLaw
set_option linter.unusedVariables false

/- l1Mutate. -/
namespace Go.Proofs.Ytidlifijgooceaa
open Go.RowKit

theorem ints_one (w : World) (x : Int) : IntS (w.alloc (.cells #[.int .i64 x] 3)) (w.heap.size + 1) (.slice (some ⟨w.heap.size, 0, none⟩) 1 1) [x] := by
  refine ⟨_, 1, rfl, by simp, by simp, by simp, fun _ => ⟨w.heap.size, 0, rfl, by omega, fun j u hj => ?_⟩⟩
  have hj0 : j = 0 := by
    rcases Nat.eq_zero_or_pos j with h | h
    · exact h
    · rw [List.getElem?_eq_none (by simp; omega)] at hj; cases hj
  subst hj0
  rw [cell_of_row _ _ _ _ _ _ (heap_alloc_new w _)]
  simpa using hj
end Go.Proofs.Ytidlifijgooceaa
