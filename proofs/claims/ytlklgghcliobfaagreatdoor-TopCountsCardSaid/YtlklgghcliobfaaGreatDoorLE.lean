/- Facts. -/
import Derived.Test.YtlklgghcliobfaaGreatDoorLZ
namespace Go.Proofs.YtlklgghcliobfaaGreatDoor.topCounts
open Go
theorem met3 (os : Os) : (LT.filter fun x => x.2.handleName?.isSome && x.2.funcsIn?.isNone).all (handleAtB G (M os)) = true := by kernel_rfl
theorem met4 (os : Os) : funcsRun G (M os) 8 ((funcsListed LT).map fun x => x.1) = some ((funcsListed LT).map fun x => x.2.funcsOut) := by kernel_rfl
