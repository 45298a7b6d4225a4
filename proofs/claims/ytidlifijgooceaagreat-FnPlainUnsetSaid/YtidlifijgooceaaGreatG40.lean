import Derived.Test.YtidlifijgooceaaGreatG35
import Derived.StillTailTactics
set_option linter.unusedVariables false

/- spec.l10Flow. -/
namespace Go.Proofs.YtidlifijgooceaaGreat
open Go.RowKit

end Go.Proofs.YtidlifijgooceaaGreat
