import Derived.Test.YtfioaohadanjmaaGreatU01
import Derived.Deep.CutBlock
import Derived.Deep.DeepCutAuto
import Derived.Test.YtfioaohadanjmaaGreatU06
set_option linter.unusedVariables false

/- slices.Equal; impl.sameStmts of equal statements; impl.ProgramSame of equal programs. -/
namespace Go.Proofs.YtfioaohadanjmaaGreat
open Go.RowKit

def TruRet (w : World) (e : Ending) (w' : World) : Prop := e = .returned (.bool true) ∧ Below w.heap.size w w'

end Go.Proofs.YtfioaohadanjmaaGreat
