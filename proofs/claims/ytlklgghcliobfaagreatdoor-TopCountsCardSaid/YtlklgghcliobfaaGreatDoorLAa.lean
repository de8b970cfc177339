/- Facts. -/
import Derived.Test.YtlklgghcliobfaaGreatDoorLZ
namespace Go.Proofs.YtlklgghcliobfaaGreatDoor.topCounts
open Go
theorem lo0 : ((List.range' 0 100).all (rowFine G)) = true := by kernel_rfl
theorem lo1 : ((List.range' 100 100).all (rowFine G)) = true := by kernel_rfl
