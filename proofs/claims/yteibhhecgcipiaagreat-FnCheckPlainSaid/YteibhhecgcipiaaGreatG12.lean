import Derived.Test.YteibhhecgcipiaaGreatG11
set_option linter.unusedVariables false

namespace Go.Proofs.YteibhhecgcipiaaGreat
open Go.RowKit

end Go.Proofs.YteibhhecgcipiaaGreat
