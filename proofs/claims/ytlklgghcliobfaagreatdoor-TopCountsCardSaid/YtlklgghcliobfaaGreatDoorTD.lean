/- Facts. -/
import Derived.Test.YtlklgghcliobfaaGreatDoorLZ
namespace Go.Proofs.YtlklgghcliobfaaGreatDoor.topCounts
open Go
theorem tieHk : LT.map (fun x => G.kindOfLater x.1) = [LaidKind.data, .handle].map some := by kernel_rfl
