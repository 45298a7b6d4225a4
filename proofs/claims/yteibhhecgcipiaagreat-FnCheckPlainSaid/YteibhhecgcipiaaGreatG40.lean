import Derived.Test.YteibhhecgcipiaaGreatG35
import Derived.StillTailTactics
set_option linter.unusedVariables false

/- spec.l10Flow. -/
namespace Go.Proofs.YteibhhecgcipiaaGreat
open Go.RowKit

end Go.Proofs.YteibhhecgcipiaaGreat
