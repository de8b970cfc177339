/- Facts. -/
import Derived.Test.YtlklgghcliobfaaGreatDoorLZ
namespace Go.Proofs.YtlklgghcliobfaaGreatDoor.topCounts
open Go
theorem j7 : (G.stops == []) = true := by kernel_rfl
theorem j9 : (G.stopKnobs == []) = true := by kernel_rfl
theorem j25 : G.stopsHeard = true := by kernel_rfl
