/- Facts. -/
import Derived.Test.YtlklgghcliobfaaGreatDoorLZ
namespace Go.Proofs.YtlklgghcliobfaaGreatDoor.topCounts
open Go
theorem j3 : mapsRowed G = true := by kernel_rfl
theorem j23 : (R.plainKeys == G.plainKeys) = true := by kernel_rfl
