import Derived.Test.YtmaaaiccmllnlaaG31
import Derived.StillTailTactics
set_option linter.unusedVariables false

/- spec.l10Flow. -/
namespace Go.Proofs.Ytmaaaiccmllnlaa
open Go.RowKit


end Go.Proofs.Ytmaaaiccmllnlaa
