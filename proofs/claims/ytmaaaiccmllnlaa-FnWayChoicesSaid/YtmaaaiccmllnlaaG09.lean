import Derived.Test.YtmaaaiccmllnlaaG08
set_option linter.unusedVariables false

namespace Go.Proofs.Ytmaaaiccmllnlaa
open Go.RowKit


end Go.Proofs.Ytmaaaiccmllnlaa

namespace Go.Proofs.Ytmaaaiccmllnlaa
open Go.RowKit



end Go.Proofs.Ytmaaaiccmllnlaa
