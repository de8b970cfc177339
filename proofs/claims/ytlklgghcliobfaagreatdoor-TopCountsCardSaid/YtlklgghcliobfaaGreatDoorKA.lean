/- Facts. -/
import Derived.Test.YtlklgghcliobfaaGreatDoorLZ
namespace Go.Proofs.YtlklgghcliobfaaGreatDoor.topCounts
open Go
theorem fnm : G.funcNamed "locket/lockettop.TopCounts" = some 3 := by kernel_rfl
theorem lks : G.looks [] = true := by kernel_rfl
theorem wsi : ([3, 3, 3, 3].all fun u => !G.wantsStandIn u) = true := by kernel_rfl
theorem wft : R.wfByText (OpenSpec.ofChange S) = true := by kernel_rfl
