/- Facts. -/
import Derived.Test.YtlklgghcliobfaaGreatDoorLZ
namespace Go.Proofs.YtlklgghcliobfaaGreatDoor.topCounts
open Go
theorem tieHw : G.worded (varsWordLater true) = true := by kernel_rfl
theorem tieHv : G.worded (varsWordLater !true) = false := by kernel_rfl
theorem tieHr : G.worded rootWordLater = true := by kernel_rfl
theorem tieHg : (G.funcNamed "gosem.cut.vars").isSome = true := by kernel_rfl
theorem tieOwn : Tryz.pinned.checked.prog.headLifts.contains "ownunsafe" = false := by kernel_rfl
