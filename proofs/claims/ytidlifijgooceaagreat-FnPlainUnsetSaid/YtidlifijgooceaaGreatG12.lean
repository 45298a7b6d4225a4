import Derived.Test.YtidlifijgooceaaGreatG11
set_option linter.unusedVariables false

namespace Go.Proofs.YtidlifijgooceaaGreat
open Go.RowKit

end Go.Proofs.YtidlifijgooceaaGreat
