/- Facts. -/
import Derived.Test.YtlklgghcliobfaaGreatDoorLZ
namespace Go.Proofs.YtlklgghcliobfaaGreatDoor.topCounts
open Go
theorem j1 : R.wf (OpenSpec.ofChange S) = true := by kernel_rfl
theorem j4 : B.params.all (G.readableRec ·) = true := by kernel_rfl
theorem j5 : namedTie G R.named S.vars = true := by kernel_rfl
theorem j6 : (R.stops == []) = true := by kernel_rfl
theorem j8 : (R.knobs == []) = true := by kernel_rfl
theorem j14 : (R.maps == (B.params.toList ++ S.plain.varTypes G).any (G.mapsRec ·)) = true := by kernel_rfl
theorem j15 : (R.ifaces == (B.params.toList ++ S.plain.varTypes G).any (G.ifacesRec ·)) = true := by kernel_rfl
theorem j16 : (R.mapsOut == G.mapsAmong B.resultTypes.toList) = true := by kernel_rfl
theorem j17 : (R.loops == (B.params.toList ++ S.plain.varTypes G).any (G.loopsFrom ·)) = true := by kernel_rfl
theorem j18 : (R.wideKeys == (B.params.toList ++ S.plain.varTypes G ++ B.resultTypes.toList).any (G.wideKeysFrom ·)) = true := by kernel_rfl
theorem j19 : S.vars.all (G.varReadable ·) = true := by kernel_rfl
theorem j20 : B.resultTypes.all (fun t => G.readableRec t && decide (t < G.types.size)) = true := by kernel_rfl
theorem j21 : (R.ifacesOut == B.resultTypes.toList.any (G.ifacesRec ·)) = true := by kernel_rfl
theorem j22 : (R.loopsOut == B.resultTypes.toList.any (G.loopsFrom ·)) = true := by kernel_rfl
theorem j24 : R.shortTexts.isNone = true := by kernel_rfl
theorem j26 : G.mayEnter = true := by kernel_rfl
theorem j27 : (R.lifted == G.liftsFinal) = true := by kernel_rfl
theorem j28 : (G.make == some R.make) = true := by kernel_rfl
theorem j29 : (R.kinds == (if R.domain.isEmpty then [] else B.params.toList.map fun t => match G.underlying t with | some (.int k) => some k | _ => none)) = true := by kernel_rfl
theorem j30 : (R.pinned == R.pinnedBy) = true := by kernel_rfl
theorem j31 : (R.veiled == (B.params.toList ++ S.plain.varTypes G ++ B.resultTypes.toList).any (G.veiledRec ·)) = true := by kernel_rfl
theorem j32 : R.veiledFits G B.params.toList (B.params.toList ++ S.plain.varTypes G ++ B.resultTypes.toList) = true := by kernel_rfl
