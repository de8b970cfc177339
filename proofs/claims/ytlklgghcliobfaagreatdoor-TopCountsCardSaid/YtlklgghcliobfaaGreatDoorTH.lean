/- Facts. -/
import Derived.Test.YtlklgghcliobfaaGreatDoorLZ
namespace Go.Proofs.YtlklgghcliobfaaGreatDoor.topCounts
open Go
theorem tieH1 (os tape) : (DataW.laidRun G (varsWorld G 400 (varsId G) os tape).memory 8 ((LT.filter fun x => x.2.handleName?.isNone).map (·.1))).map (·.1) = some (LT.filter fun x => x.2.handleName?.isNone) := by kernel_rfl
