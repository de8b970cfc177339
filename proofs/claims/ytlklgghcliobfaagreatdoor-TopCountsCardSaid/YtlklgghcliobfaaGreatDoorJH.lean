/- Facts. -/
import Derived.Test.YtlklgghcliobfaaGreatDoorLK
import Derived.Test.YtlklgghcliobfaaGreatDoorJB
import Derived.Test.YtlklgghcliobfaaGreatDoorJE
import Derived.Test.YtlklgghcliobfaaGreatDoorJF
import Derived.Test.YtlklgghcliobfaaGreatDoorJG
namespace Go.Proofs.YtlklgghcliobfaaGreatDoor.topCounts
open Go Go.ChangeShapes Go.WideShapes Go.ChangeAt Go.RowKit
set_option linter.all false
theorem a2 {a b : Bool} (h : a = true) (k : b = true) : (a && b) = true := by rw [h, k]; rfl
set_option maxRecDepth 100000 in
theorem jf : joinedFacts G 3 B S R = true := by
  unfold joinedFacts
  exact (a2 (a2 (a2 (a2 (a2 (a2 (a2 (a2 (a2 (a2 (a2 (a2 (a2 (a2 (a2 (a2 (a2 (a2 (a2 (a2 (a2 (a2 (a2 (a2 (a2 (a2 (a2 (a2 (a2 (a2 (a2 j1 laidOut) j3) j4) j5) j6) j7) j8) j9) j10) j11) j12) j13) j14) j15) j16) j17) j18) j19) j20) j21) j22) j23) j24) j25) j26) j27) j28) j29) j30) j31) j32)
