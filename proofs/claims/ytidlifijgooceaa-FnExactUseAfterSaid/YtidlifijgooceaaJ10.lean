import Derived.Test.YtidlifijgooceaaJ09
set_option linter.unusedVariables false

namespace Go.Proofs.Ytidlifijgooceaa
open Go.RowKit

end Go.Proofs.Ytidlifijgooceaa
