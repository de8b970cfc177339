/- Facts. -/
import Derived.Test.YtlklgghcliobfaaGreatDoorLZ
namespace Go.Proofs.YtlklgghcliobfaaGreatDoor.topCounts
open Go
theorem met1 (os : Os) : (DataW.laidRun G (M os) 8 ((LT.filter fun x => x.2.handleName?.isNone).map (fun x => x.1))).map (fun x => x.1) = some (LT.filter fun x => x.2.handleName?.isNone) := by kernel_rfl
