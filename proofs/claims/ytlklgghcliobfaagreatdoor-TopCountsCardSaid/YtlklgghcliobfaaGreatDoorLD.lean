/- Facts. -/
import Derived.Test.YtlklgghcliobfaaGreatDoorLZ
namespace Go.Proofs.YtlklgghcliobfaaGreatDoor.topCounts
open Go
theorem met2 (os : Os) : (DataW.laidRun G (M os) 8 ((LT.filter fun x => x.2.handleName?.isNone).map (fun x => x.1))).map (fun x => decide x.2.Nodup && laidRowsB G (M os) x.2) = some true := by kernel_rfl
