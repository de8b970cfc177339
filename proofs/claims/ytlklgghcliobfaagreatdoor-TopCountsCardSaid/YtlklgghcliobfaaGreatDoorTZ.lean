/- Facts. -/
import Derived.Test.YtlklgghcliobfaaGreatDoorTA
import Derived.Test.YtlklgghcliobfaaGreatDoorTD
import Derived.Test.YtlklgghcliobfaaGreatDoorTF
import Derived.Test.YtlklgghcliobfaaGreatDoorTG
import Derived.Test.YtlklgghcliobfaaGreatDoorTH
import Derived.Test.YtlklgghcliobfaaGreatDoorTI
import Derived.Test.YtlklgghcliobfaaGreatDoorTJ
namespace Go.Proofs.YtlklgghcliobfaaGreatDoor.topCounts
open Go
set_option linter.all false
theorem tie : G.laidByTextLater LT [.data, .handle] true :=
  Program.laidByTextLater_by_run_h 400 8 tieHw tieHv tieHr tieHk tieHg tieHn tieHd tieH1 tieH2 tieH3
theorem topCounts_row_tie : R.laidByTextAt .later Tryz.pinned [.data, .handle] true :=
  OpenClaim.laidByTextAt_later rfl rfl tie tieOwn
