import Derived.Test.YtidlifijgooceaaE32
import Derived.Deep.RegionLaw
set_option linter.unusedVariables false

/- l1Mutate. -/
namespace Go.Proofs.Ytidlifijgooceaa
open Go.RowKit

end Go.Proofs.Ytidlifijgooceaa
