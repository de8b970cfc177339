/- Facts. -/
import Derived.Test.YtlklgghcliobfaaGreatDoorLZ
namespace Go.Proofs.YtlklgghcliobfaaGreatDoor.topCounts
open Go
theorem reads (os : Os) {H : Type} (enc : TypeId × Value → H) : DataW.whole enc G (M os) Tryz.f3.params.toList Rows.topCountsSpec.vars false [.int .i64 0, .int .i64 0, .int .i64 0, .int .i64 0] 8 = some ([.lit (.int .i64 0), .lit (.int .i64 0), .lit (.int .i64 0), .lit (.int .i64 0)], [], []) := by kernel_rfl
