/- Facts. -/
import Derived.Test.YtlklgghcliobfaaGreatDoorLZ
namespace Go.Proofs.YtlklgghcliobfaaGreatDoor.topCounts
open Go
theorem lo6 : ((List.range' 600 100).all (rowFine G)) = true := by kernel_rfl
theorem lo7 : ((List.range' 700 49).all (rowFine G)) = true := by kernel_rfl
