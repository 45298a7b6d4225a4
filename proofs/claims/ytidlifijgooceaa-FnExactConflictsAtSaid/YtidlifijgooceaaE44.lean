import Derived.Test.YtidlifijgooceaaE39
import Derived.StillTailTactics
set_option linter.unusedVariables false

/- spec.l10Flow. -/
namespace Go.Proofs.Ytidlifijgooceaa
open Go.RowKit

end Go.Proofs.Ytidlifijgooceaa
