import Derived.Test.YtidlifijgooceaaGreatG10
set_option linter.unusedVariables false

namespace Go.Proofs.YtidlifijgooceaaGreat
open Go.RowKit

def takeB (ts : List Int) (pts : List Pt) (v : Nat) : Bool := pts.any fun p => useP ts p.op p.x p.y (v : Nat) == 2
theorem takeB_succ (ts : List Int) (pts : List Pt) (k v : Nat) (hk : k < pts.length) : takeB ts (pts.take (k + 1)) v = (takeB ts (pts.take k) v || (useP ts pts[k].op pts[k].x pts[k].y (v : Nat) == 2)) := by
  unfold takeB; rw [take_succ_get pts k hk, List.any_append]; simp


end Go.Proofs.YtidlifijgooceaaGreat
