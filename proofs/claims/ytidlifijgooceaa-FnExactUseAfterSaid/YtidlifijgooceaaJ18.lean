import Derived.Test.YtidlifijgooceaaJ17
import Derived.Deep.RegionHeld3
set_option linter.unusedVariables false

/- spec.l3Live. -/
namespace Go.Proofs.Ytidlifijgooceaa
open Go.RowKit

set_option maxHeartbeats 8000000
set_option maxRecDepth 100000
end Go.Proofs.Ytidlifijgooceaa
