import Derived.Test.YtidlifijgooceaaE10
set_option linter.unusedVariables false

namespace Go.Proofs.Ytidlifijgooceaa
open Go.RowKit

end Go.Proofs.Ytidlifijgooceaa
