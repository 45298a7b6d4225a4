import Derived.Test.YteibhhecgcipiaaGreatG06
set_option linter.unusedVariables false

/- impl.graphOf once more: without a graph it answers nil. -/
namespace Go.Proofs.YteibhhecgcipiaaGreat
open Go.RowKit

end Go.Proofs.YteibhhecgcipiaaGreat
