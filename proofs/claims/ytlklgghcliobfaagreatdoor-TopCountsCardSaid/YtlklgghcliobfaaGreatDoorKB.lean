/- Facts. -/
import Derived.Test.YtlklgghcliobfaaGreatDoorLZ
namespace Go.Proofs.YtlklgghcliobfaaGreatDoor.topCounts
open Go
theorem ins : decide (B.isInstance G R.origin R.targs) = true := by kernel_rfl
theorem pr1 : G.inits.idxOf? 3 = none := by kernel_rfl
