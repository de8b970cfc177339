/- Facts. -/
import Derived.Test.YtlklgghcliobfaaGreatDoorLZ
namespace Go.Proofs.YtlklgghcliobfaaGreatDoor.topCounts
open Go
theorem tieH3 (os tape) : (LT.filter fun x => x.2.handleName?.isSome).all (handleAtB G (varsWorld G 400 (varsId G) os tape).memory) = true := by kernel_rfl
