import Derived.Test.YteibhhecgcipiaaGreatG43
import Derived.Test.YteibhhecgcipiaaGreatG44
import Derived.Test.YteibhhecgcipiaaGreatG45
import Derived.Test.YteibhhecgcipiaaGreatG46
set_option linter.unusedVariables false

/- spec.ConflictsAt. -/
namespace Go.Proofs.YteibhhecgcipiaaGreat
open Go.RowKit

end Go.Proofs.YteibhhecgcipiaaGreat
