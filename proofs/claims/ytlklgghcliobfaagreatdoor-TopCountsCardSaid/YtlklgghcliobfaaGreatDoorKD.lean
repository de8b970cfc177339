/- Facts. -/
import Derived.Test.YtlklgghcliobfaaGreatDoorJA
import Derived.Test.YtlklgghcliobfaaGreatDoorKA
import Derived.Test.YtlklgghcliobfaaGreatDoorKC
namespace Go.Proofs.YtlklgghcliobfaaGreatDoor.topCounts
open Go
set_option linter.all false
theorem go1 : (G.closure 3).any (fun g => (G.funcs[g]?).any Func.goes) = false := by rw [cl]; kernel_rfl
theorem gby : false = R.goesBy G := by
  have g : G.goes 3 = false := by unfold Program.goes; rw [go1, go2, Bool.and_false]; rfl
  show false = (((G.funcNamed "locket/lockettop.TopCounts").any G.goes) || false)
  rw [fnm, Option.any_some, g]
  rfl
