import Derived.Test.YtidlifijgooceaaGreatG06
set_option linter.unusedVariables false

/- impl.graphOf once more: without a graph it answers nil. -/
namespace Go.Proofs.YtidlifijgooceaaGreat
open Go.RowKit

end Go.Proofs.YtidlifijgooceaaGreat
