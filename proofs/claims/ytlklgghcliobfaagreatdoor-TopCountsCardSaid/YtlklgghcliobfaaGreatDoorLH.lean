/- Facts. -/
import Derived.Test.YtlklgghcliobfaaGreatDoorLZ
namespace Go.Proofs.YtlklgghcliobfaaGreatDoor.topCounts
open Go
theorem wit2 (os : Os) : List.take ((begin G (fun _ _ => 0) default).world.heap.size - G.globals.size) (List.drop G.globals.size ((W os).forCall (fun _ _ => 0) ⟨#[], #[.int .i64 0, .int .i64 0, .int .i64 0, .int .i64 0], []⟩).heap.toList) = List.drop G.globals.size (begin G (fun _ _ => 0) default).world.heap.toList := by kernel_rfl
