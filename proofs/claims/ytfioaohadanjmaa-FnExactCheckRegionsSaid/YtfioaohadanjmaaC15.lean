import Derived.Test.YtfioaohadanjmaaC01
import Derived.Deep.CutBlock
import Derived.Deep.DeepCutAuto
import Derived.Test.YtfioaohadanjmaaC07
set_option linter.unusedVariables false

/- slices.Equal; impl.sameStmts of equal statements; impl.ProgramSame of equal programs. -/
namespace Go.Proofs.Ytfioaohadanjmaa
open Go.RowKit

def TruRet (w : World) (e : Ending) (w' : World) : Prop := e = .returned (.bool true) ∧ Below w.heap.size w w'

end Go.Proofs.Ytfioaohadanjmaa
