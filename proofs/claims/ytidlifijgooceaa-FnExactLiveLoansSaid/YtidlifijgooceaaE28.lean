import Derived.Test.YtidlifijgooceaaE06
set_option linter.unusedVariables false

/- impl.graphOf once more: without a graph it answers nil. -/
namespace Go.Proofs.Ytidlifijgooceaa
open Go.RowKit

end Go.Proofs.Ytidlifijgooceaa
