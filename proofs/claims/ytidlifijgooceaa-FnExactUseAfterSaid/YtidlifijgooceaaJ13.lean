import Derived.Test.YtidlifijgooceaaJ12
import Derived.Test.YtidlifijgooceaaJ01
import Derived.Laws.Concat
import Derived.Laws.IdiomStrings
set_option linter.unusedVariables false

/- Texts: l1At, l1Var, l1Digit. -/
namespace Go.Proofs.Ytidlifijgooceaa
open Go.RowKit

end Go.Proofs.Ytidlifijgooceaa

/- l1Braces, l1ParseList: what they return, and how far they come. -/
namespace Go.Proofs.Ytidlifijgooceaa
open Go.RowKit

theorem StX.alloc {w : World} {P : Nat → Prop} {v : Value} {l : List St} (h : StX w P v l) (o : Obj) : StX (w.alloc o) P v l :=
  h.frame (bel_a w o).size fun b hb hl => ⟨hb, (bel_a w o).block b hl⟩

end Go.Proofs.Ytidlifijgooceaa

/- l1Letter, l17Dec. -/
namespace Go.Proofs.Ytidlifijgooceaa
open Go.RowKit

def StrRet (n : Nat) (w : World) (e : Ending) (w' : World) : Prop := ∃ s : ByteArray, e = .returned (.string s) ∧ s.size ≤ n ∧ Below w.heap.size w w'
end Go.Proofs.Ytidlifijgooceaa
