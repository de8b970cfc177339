/- Facts. -/
import Derived.Test.YtlklgghcliobfaaGreatDoorLZ
namespace Go.Proofs.YtlklgghcliobfaaGreatDoor.topCounts
open Go
theorem lo4 : ((List.range' 400 100).all (rowFine G)) = true := by kernel_rfl
theorem lo5 : ((List.range' 500 100).all (rowFine G)) = true := by kernel_rfl
