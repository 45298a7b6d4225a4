import Derived.Test.YtidlifijgooceaaW34
import Derived.Deep.RegionLaw
set_option linter.unusedVariables false

/- l1Mutate. -/
namespace Go.Proofs.Ytidlifijgooceaa
open Go.RowKit

end Go.Proofs.Ytidlifijgooceaa
