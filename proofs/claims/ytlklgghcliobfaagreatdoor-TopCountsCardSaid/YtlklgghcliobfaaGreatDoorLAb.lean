/- Facts. -/
import Derived.Test.YtlklgghcliobfaaGreatDoorLZ
namespace Go.Proofs.YtlklgghcliobfaaGreatDoor.topCounts
open Go
theorem lo2 : ((List.range' 200 100).all (rowFine G)) = true := by kernel_rfl
theorem lo3 : ((List.range' 300 100).all (rowFine G)) = true := by kernel_rfl
