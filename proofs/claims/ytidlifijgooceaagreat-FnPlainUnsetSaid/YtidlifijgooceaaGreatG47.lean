import Derived.Test.YtidlifijgooceaaGreatG43
import Derived.Test.YtidlifijgooceaaGreatG44
import Derived.Test.YtidlifijgooceaaGreatG45
import Derived.Test.YtidlifijgooceaaGreatG46
set_option linter.unusedVariables false

/- spec.ConflictsAt. -/
namespace Go.Proofs.YtidlifijgooceaaGreat
open Go.RowKit

end Go.Proofs.YtidlifijgooceaaGreat
