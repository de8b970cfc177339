/- Facts. -/
import Derived.Test.YtlklgghcliobfaaGreatDoorLZ
namespace Go.Proofs.YtlklgghcliobfaaGreatDoor.topCounts
open Go
theorem own : ownKnob G.godebug = none := by kernel_rfl
theorem nty : G.types.size = 749 := by kernel_rfl
theorem glo : G.globals.all (fun g => decide (g.type < G.types.size)) = true := by kernel_rfl
theorem fus : G.funcs.all (fun f => f.params.all fun t => decide (t < G.types.size)) = true := by kernel_rfl
