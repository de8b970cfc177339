/- Facts. -/
import Derived.Test.YtlklgghcliobfaaGreatDoorLZ
namespace Go.Proofs.YtlklgghcliobfaaGreatDoor.topCounts
open Go
theorem tieH2 (os tape) : (DataW.laidRun G (varsWorld G 400 (varsId G) os tape).memory 8 ((LT.filter fun x => x.2.handleName?.isNone).map (·.1))).map (fun x => decide x.2.Nodup && laidRowsB G (varsWorld G 400 (varsId G) os tape).memory x.2) = some true := by kernel_rfl
