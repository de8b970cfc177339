/- page: the reference's Read. -/
import Derived.Test.YtogpdmpefdafnaaDoorPageF
namespace Go.Proofs.YtogpdmpefdafnaaDoor
open Go Go.RowKit
set_option linter.unusedVariables false

end Go.Proofs.YtogpdmpefdafnaaDoor
