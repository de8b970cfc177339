/- The start of a call. -/
import Derived.Test.YtlklgghcliobfaaGreatDoorRows
import Derived.LaidByTextLater
import Derived.LaidHandle
import Derived.LaidMore
import Derived.JoinedOf
import Derived.Deep.DeepWitnessRowRef
import Derived.Deep.DeepHandedRow
import Derived.SevenTiedAt
import Derived.KernelRfl
namespace Go.Proofs.YtlklgghcliobfaaGreatDoor.topCounts
open Go
abbrev R := Rows.topCountsRow
abbrev S := (OpenSpec.ofChange Rows.topCountsSpec).bare
noncomputable abbrev G := Tryz.prog
noncomputable abbrev B := Tryz.f3
abbrev LT : List (String × DataW Unit) := [("math/bits.deBruijn64tab", Rows.laid_math_bits_deBruijn64tab), ("errors.errorType", Rows.laid_errors_errorType)]
noncomputable def W (os : Os) : World := (World.doorLaid Tryz.prog 4000 os)
noncomputable def M (os : Os) := ((W os).forCall (fun _ _ => 0) ⟨#[], #[.int .i64 0, .int .i64 0, .int .i64 0, .int .i64 0], []⟩).memory
