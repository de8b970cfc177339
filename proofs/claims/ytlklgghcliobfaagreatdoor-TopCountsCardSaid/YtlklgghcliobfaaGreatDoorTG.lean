/- Facts. -/
import Derived.Test.YtlklgghcliobfaaGreatDoorLZ
namespace Go.Proofs.YtlklgghcliobfaaGreatDoor.topCounts
open Go
theorem tieHd (os tape) : varsDone G 400 (varsId G) os tape = true := by kernel_rfl
