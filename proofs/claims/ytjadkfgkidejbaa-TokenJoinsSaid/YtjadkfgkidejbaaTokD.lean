/- token: the reference's Lay and the two Answers. -/
import Derived.Test.YtjadkfgkidejbaaTokA
import Derived.Test.YtjadkfgkidejbaaCrcS
namespace Go.Proofs.Ytjadkfgkidejbaa
open Go.RowKit
set_option linter.unusedVariables false

def answerN (e : Int) : Int := if e = 0 then 229 else if e = 25 then 235 else 237

end Go.Proofs.Ytjadkfgkidejbaa
