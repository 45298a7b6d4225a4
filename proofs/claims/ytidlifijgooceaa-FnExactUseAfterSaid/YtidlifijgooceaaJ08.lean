import Derived.Test.YtidlifijgooceaaJ06
import Derived.Test.YtidlifijgooceaaJ07
set_option linter.unusedVariables false

namespace Go.Proofs.Ytidlifijgooceaa
open Go.RowKit

end Go.Proofs.Ytidlifijgooceaa

namespace Go.Proofs.Ytidlifijgooceaa
open Go.RowKit

end Go.Proofs.Ytidlifijgooceaa
