/- Facts. -/
import Derived.Test.YtlklgghcliobfaaGreatDoorJA
namespace Go.Proofs.YtlklgghcliobfaaGreatDoor.topCounts
open Go
set_option linter.all false
theorem j10 : (R.inPlace == G.inPlace 3) = true := by unfold Program.inPlace; rw [cl]; kernel_rfl
theorem j11 : (R.unfollowed == G.unfollowed 3) = true := by unfold Program.unfollowed; rw [cl]; kernel_rfl
theorem j12 : (R.recurses == G.recurses 3) = true := by unfold Program.recurses Program.unfollowed; rw [cl]; kernel_rfl
theorem j13 : (R.named == G.varsNamed 3) = true := by unfold Program.varsNamed; rw [cl]; kernel_rfl
