/- ecc: EccRowMends, whatever the lengths. -/
import Derived.Test.YtogpdmpefdafnaaDoorEccAD
namespace Go.Proofs.YtogpdmpefdafnaaDoor
open Go Go.RowKit
set_option linter.unusedVariables false

end Go.Proofs.YtogpdmpefdafnaaDoor
