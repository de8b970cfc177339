/-
  No cell of these rows narrows 'for every input' (looked for: loops, veiled, ifaces, maps, wideKeys, modest, calm, conditions, laid).
  DERIVED. THE GIVEN ROWS OF THIS SEAT. 5 by the template 'for every input the law returns true; each argument reads behind the call as it read before'; 0 by the template 'total and deterministic' (their statements: YtdbnadhmkfhdkaaTotals.lean).
  GIVEN WITH THE SEED: the statements are not yours to turn. If you find one false, say at which input.
  Laid BY PROGRAM, IN A SANDBOX (cutbox-rows.mjs): the forced cells as the released guide's own fill.sh prints them over the translation af3b872875fca060… (all of the seat's roots in one cut). By AI agents, Wed Nov 11 2026. No macro, syntax, notation, axiom, sorry.
-/
import Derived.Test.YtdbnadhmkfhdkaaChecked
import GoSem.Claim
import GoSem.ClaimJoined
import GoSem.ClaimMapViews
import Derived.JoinedTies
import Derived.KernelRfl
namespace Go.Proofs.Ytdbnadhmkfhdkaa
/- THE CELL 'sum', in the pinned program and in every row, IS THE sha256 OF THE DUMP (.gsa) THAT YtdbnadhmkfhdkaaProg.lean LOADS. Nothing in Lean hashes anything: it is a label: what it is worth is what the hold of that sum in a sandbox is worth. -/
noncomputable def Try.pinned : Pinned := { name := "ytdbnadhmkfhdkaa", sum := "af3b872875fca0608bacf59fc09d6bd00b3ff74f49050b0b45962fe64be70a5f", checked := Try.checked }
namespace Rows
def none {H : Type} : Left H := { results := [], args := [] }

/-- 'locketlaw7.GeomBytes': WHATEVER THE INPUT: true; the input reads as it did. -/
def geomBytesSpec : ChangeSpec := { name := "geomBytes", fn := fun _ => fun
  | [d1, d2] => { results := [.lit (.bool true)], args := [d1, d2] }
  | _ => none }
def geomBytesRow : OpenClaim := { program := "ytdbnadhmkfhdkaa", sum := "af3b872875fca0608bacf59fc09d6bd00b3ff74f49050b0b45962fe64be70a5f", func := "locket/locketlaw7.GeomBytes", spec := "geomBytes", unfollowed := true, recurses := true, apart := false }
def GeomBytesSaid : Prop := geomBytesRow.holds Try.pinned (OpenSpec.ofChange geomBytesSpec)

/-- ITS FALSE NEIGHBOUR: 'it returns false'. Refute it at one input. -/
def geomBytesWrong : ChangeSpec := { name := "geomBytes", fn := fun _ => fun
  | [d1, d2] => { results := [.lit (.bool false)], args := [d1, d2] }
  | _ => none }
def GeomBytesWrongFalsely : Prop := geomBytesRow.holds Try.pinned (OpenSpec.ofChange geomBytesWrong)

/-- 'locketlaw13.AreasOnce': WHATEVER THE INPUT: true; the input reads as it did. -/
def areasOnceSpec : ChangeSpec := { name := "areasOnce", fn := fun _ => fun
  | [d1, d2, d3] => { results := [.lit (.bool true)], args := [d1, d2, d3] }
  | _ => none }
def areasOnceRow : OpenClaim := { program := "ytdbnadhmkfhdkaa", sum := "af3b872875fca0608bacf59fc09d6bd00b3ff74f49050b0b45962fe64be70a5f", func := "locket/locketlaw13.AreasOnce", spec := "areasOnce", inPlace := ["sync/atomic.LoadUint32", "(*internal/sync.Mutex).Lock", "internal/race.Disable", "sync/atomic.CompareAndSwapInt32", "internal/race.Enable", "internal/race.Acquire", "(*internal/sync.Mutex).lockSlow", "internal/sync.runtime_canSpin", "internal/sync.runtime_doSpin", "internal/sync.throw", "internal/sync.runtime_nanotime", "internal/sync.runtime_SemacquireMutex", "sync/atomic.AddInt32", "(*internal/sync.Mutex).Unlock", "internal/race.ReleaseMerge", "(*internal/sync.Mutex).unlockSlow", "internal/sync.fatal", "internal/sync.runtime_Semrelease", "sync/atomic.StoreUint32"], unfollowed := true, recurses := true, apart := false }
def AreasOnceSaid : Prop := areasOnceRow.holds Try.pinned (OpenSpec.ofChange areasOnceSpec)

/-- ITS FALSE NEIGHBOUR: 'it returns false'. Refute it at one input. -/
def areasOnceWrong : ChangeSpec := { name := "areasOnce", fn := fun _ => fun
  | [d1, d2, d3] => { results := [.lit (.bool false)], args := [d1, d2, d3] }
  | _ => none }
def AreasOnceWrongFalsely : Prop := areasOnceRow.holds Try.pinned (OpenSpec.ofChange areasOnceWrong)

/-- 'locketlaw13.AreasTile': WHATEVER THE INPUT: true; the input reads as it did. -/
def areasTileSpec : ChangeSpec := { name := "areasTile", fn := fun _ => fun
  | [d1, d2] => { results := [.lit (.bool true)], args := [d1, d2] }
  | _ => none }
def areasTileRow : OpenClaim := { program := "ytdbnadhmkfhdkaa", sum := "af3b872875fca0608bacf59fc09d6bd00b3ff74f49050b0b45962fe64be70a5f", func := "locket/locketlaw13.AreasTile", spec := "areasTile", inPlace := ["sync/atomic.LoadUint32", "(*internal/sync.Mutex).Lock", "internal/race.Disable", "sync/atomic.CompareAndSwapInt32", "internal/race.Enable", "internal/race.Acquire", "(*internal/sync.Mutex).lockSlow", "internal/sync.runtime_canSpin", "internal/sync.runtime_doSpin", "internal/sync.throw", "internal/sync.runtime_nanotime", "internal/sync.runtime_SemacquireMutex", "sync/atomic.AddInt32", "(*internal/sync.Mutex).Unlock", "internal/race.ReleaseMerge", "(*internal/sync.Mutex).unlockSlow", "internal/sync.fatal", "internal/sync.runtime_Semrelease", "sync/atomic.StoreUint32"], unfollowed := true, recurses := true, apart := false }
def AreasTileSaid : Prop := areasTileRow.holds Try.pinned (OpenSpec.ofChange areasTileSpec)

/-- ITS FALSE NEIGHBOUR: 'it returns false'. Refute it at one input. -/
def areasTileWrong : ChangeSpec := { name := "areasTile", fn := fun _ => fun
  | [d1, d2] => { results := [.lit (.bool false)], args := [d1, d2] }
  | _ => none }
def AreasTileWrongFalsely : Prop := areasTileRow.holds Try.pinned (OpenSpec.ofChange areasTileWrong)

/-- 'locketlaw13.AreasPlays': WHATEVER THE INPUT: true; the input reads as it did. -/
def areasPlaysSpec : ChangeSpec := { name := "areasPlays", fn := fun _ => fun
  | [d1, d2, d3, d4, d5, d6, d7] => { results := [.lit (.bool true)], args := [d1, d2, d3, d4, d5, d6, d7] }
  | _ => none }
def areasPlaysRow : OpenClaim := { program := "ytdbnadhmkfhdkaa", sum := "af3b872875fca0608bacf59fc09d6bd00b3ff74f49050b0b45962fe64be70a5f", func := "locket/locketlaw13.AreasPlays", spec := "areasPlays", inPlace := ["sync/atomic.LoadUint32", "(*internal/sync.Mutex).Lock", "internal/race.Disable", "sync/atomic.CompareAndSwapInt32", "internal/race.Enable", "internal/race.Acquire", "(*internal/sync.Mutex).lockSlow", "internal/sync.runtime_canSpin", "internal/sync.runtime_doSpin", "internal/sync.throw", "internal/sync.runtime_nanotime", "internal/sync.runtime_SemacquireMutex", "sync/atomic.AddInt32", "(*internal/sync.Mutex).Unlock", "internal/race.ReleaseMerge", "(*internal/sync.Mutex).unlockSlow", "internal/sync.fatal", "internal/sync.runtime_Semrelease", "sync/atomic.StoreUint32"], unfollowed := true, recurses := true, apart := false }
def AreasPlaysSaid : Prop := areasPlaysRow.holds Try.pinned (OpenSpec.ofChange areasPlaysSpec)

/-- ITS FALSE NEIGHBOUR: 'it returns false'. Refute it at one input. -/
def areasPlaysWrong : ChangeSpec := { name := "areasPlays", fn := fun _ => fun
  | [d1, d2, d3, d4, d5, d6, d7] => { results := [.lit (.bool false)], args := [d1, d2, d3, d4, d5, d6, d7] }
  | _ => none }
def AreasPlaysWrongFalsely : Prop := areasPlaysRow.holds Try.pinned (OpenSpec.ofChange areasPlaysWrong)

/-- 'locketlaw13.AreasBytes': WHATEVER THE INPUT: true; the input reads as it did. -/
def areasBytesSpec : ChangeSpec := { name := "areasBytes", fn := fun _ => fun
  | [d1, d2] => { results := [.lit (.bool true)], args := [d1, d2] }
  | _ => none }
def areasBytesRow : OpenClaim := { program := "ytdbnadhmkfhdkaa", sum := "af3b872875fca0608bacf59fc09d6bd00b3ff74f49050b0b45962fe64be70a5f", func := "locket/locketlaw13.AreasBytes", spec := "areasBytes", inPlace := ["sync/atomic.LoadUint32", "(*internal/sync.Mutex).Lock", "internal/race.Disable", "sync/atomic.CompareAndSwapInt32", "internal/race.Enable", "internal/race.Acquire", "(*internal/sync.Mutex).lockSlow", "internal/sync.runtime_canSpin", "internal/sync.runtime_doSpin", "internal/sync.throw", "internal/sync.runtime_nanotime", "internal/sync.runtime_SemacquireMutex", "sync/atomic.AddInt32", "(*internal/sync.Mutex).Unlock", "internal/race.ReleaseMerge", "(*internal/sync.Mutex).unlockSlow", "internal/sync.fatal", "internal/sync.runtime_Semrelease", "sync/atomic.StoreUint32"], unfollowed := true, recurses := true, apart := false }
def AreasBytesSaid : Prop := areasBytesRow.holds Try.pinned (OpenSpec.ofChange areasBytesSpec)

/-- ITS FALSE NEIGHBOUR: 'it returns false'. Refute it at one input. -/
def areasBytesWrong : ChangeSpec := { name := "areasBytes", fn := fun _ => fun
  | [d1, d2] => { results := [.lit (.bool false)], args := [d1, d2] }
  | _ => none }
def AreasBytesWrongFalsely : Prop := areasBytesRow.holds Try.pinned (OpenSpec.ofChange areasBytesWrong)

/- THE SECOND FORM. 'bulk': how many values and letters a reading holds, each counted each time it is reached (what is shared counts as often as it is met; a slice's spare places count too). A statement '..UptoSaid' is the law's where the arguments, and the package variables that the reading takes, are together of bulk at most 1048576: NARROWER than '..Said'. Prove '..Said' where nothing that the law and all that it calls make is longer than what came in: it says more and counts as full. Else prove '..UptoSaid'. A law counts once. -/
mutual
def uptoBulk {H : Type} : DataW H → Nat
  | .lit (.string bytes) => bytes.length + 1
  | .lit _ => 1
  | .nil => 1
  | .ptr d => uptoBulk d + 1
  | .slice elems spare => uptoBulkAll elems + uptoBulkAll spare + 1
  | .agg parts => uptoBulkAll parts + 1
  | .iface _ d => uptoBulk d + 1
  | .map entries => uptoBulkEntries entries + 1
  | .held _ => 1
def uptoBulkAll {H : Type} : List (DataW H) → Nat
  | [] => 0
  | d :: r => uptoBulk d + uptoBulkAll r
def uptoBulkEntries {H : Type} : List (Lit × DataW H) → Nat
  | [] => 0
  | x :: r => uptoBulkEntry x + uptoBulkEntries r
def uptoBulkEntry {H : Type} : Lit × DataW H → Nat
  | (.string bytes, d) => bytes.length + uptoBulk d + 1
  | (_, d) => uptoBulk d + 1
 end
def uptoSmall : (H : Type) → List (DataW H) → Bool := fun _ ds => decide (uptoBulkAll ds ≤ 1048576)
def OpenSpec.upto (s : _root_.Go.ChangeSpec) : _root_.Go.OpenSpec := { _root_.Go.OpenSpec.ofChange s with cond := some uptoSmall }

/-- 'locketlaw7.GeomBytes', WHERE WHAT IT READS IS OF BULK AT MOST 1048576: true; the input reads as it did. -/
def geomBytesUptoRow : OpenClaim := { program := "ytdbnadhmkfhdkaa", sum := "af3b872875fca0608bacf59fc09d6bd00b3ff74f49050b0b45962fe64be70a5f", func := "locket/locketlaw7.GeomBytes", spec := "geomBytes", unfollowed := true, recurses := true, apart := false, narrowed := true }
def GeomBytesUptoSaid : Prop := geomBytesUptoRow.holds Try.pinned (OpenSpec.upto geomBytesSpec)

/-- 'locketlaw13.AreasOnce', WHERE WHAT IT READS IS OF BULK AT MOST 1048576: true; the input reads as it did. -/
def areasOnceUptoRow : OpenClaim := { program := "ytdbnadhmkfhdkaa", sum := "af3b872875fca0608bacf59fc09d6bd00b3ff74f49050b0b45962fe64be70a5f", func := "locket/locketlaw13.AreasOnce", spec := "areasOnce", inPlace := ["sync/atomic.LoadUint32", "(*internal/sync.Mutex).Lock", "internal/race.Disable", "sync/atomic.CompareAndSwapInt32", "internal/race.Enable", "internal/race.Acquire", "(*internal/sync.Mutex).lockSlow", "internal/sync.runtime_canSpin", "internal/sync.runtime_doSpin", "internal/sync.throw", "internal/sync.runtime_nanotime", "internal/sync.runtime_SemacquireMutex", "sync/atomic.AddInt32", "(*internal/sync.Mutex).Unlock", "internal/race.ReleaseMerge", "(*internal/sync.Mutex).unlockSlow", "internal/sync.fatal", "internal/sync.runtime_Semrelease", "sync/atomic.StoreUint32"], unfollowed := true, recurses := true, apart := false, narrowed := true }
def AreasOnceUptoSaid : Prop := areasOnceUptoRow.holds Try.pinned (OpenSpec.upto areasOnceSpec)

/-- 'locketlaw13.AreasTile', WHERE WHAT IT READS IS OF BULK AT MOST 1048576: true; the input reads as it did. -/
def areasTileUptoRow : OpenClaim := { program := "ytdbnadhmkfhdkaa", sum := "af3b872875fca0608bacf59fc09d6bd00b3ff74f49050b0b45962fe64be70a5f", func := "locket/locketlaw13.AreasTile", spec := "areasTile", inPlace := ["sync/atomic.LoadUint32", "(*internal/sync.Mutex).Lock", "internal/race.Disable", "sync/atomic.CompareAndSwapInt32", "internal/race.Enable", "internal/race.Acquire", "(*internal/sync.Mutex).lockSlow", "internal/sync.runtime_canSpin", "internal/sync.runtime_doSpin", "internal/sync.throw", "internal/sync.runtime_nanotime", "internal/sync.runtime_SemacquireMutex", "sync/atomic.AddInt32", "(*internal/sync.Mutex).Unlock", "internal/race.ReleaseMerge", "(*internal/sync.Mutex).unlockSlow", "internal/sync.fatal", "internal/sync.runtime_Semrelease", "sync/atomic.StoreUint32"], unfollowed := true, recurses := true, apart := false, narrowed := true }
def AreasTileUptoSaid : Prop := areasTileUptoRow.holds Try.pinned (OpenSpec.upto areasTileSpec)

/-- 'locketlaw13.AreasPlays', WHERE WHAT IT READS IS OF BULK AT MOST 1048576: true; the input reads as it did. -/
def areasPlaysUptoRow : OpenClaim := { program := "ytdbnadhmkfhdkaa", sum := "af3b872875fca0608bacf59fc09d6bd00b3ff74f49050b0b45962fe64be70a5f", func := "locket/locketlaw13.AreasPlays", spec := "areasPlays", inPlace := ["sync/atomic.LoadUint32", "(*internal/sync.Mutex).Lock", "internal/race.Disable", "sync/atomic.CompareAndSwapInt32", "internal/race.Enable", "internal/race.Acquire", "(*internal/sync.Mutex).lockSlow", "internal/sync.runtime_canSpin", "internal/sync.runtime_doSpin", "internal/sync.throw", "internal/sync.runtime_nanotime", "internal/sync.runtime_SemacquireMutex", "sync/atomic.AddInt32", "(*internal/sync.Mutex).Unlock", "internal/race.ReleaseMerge", "(*internal/sync.Mutex).unlockSlow", "internal/sync.fatal", "internal/sync.runtime_Semrelease", "sync/atomic.StoreUint32"], unfollowed := true, recurses := true, apart := false, narrowed := true }
def AreasPlaysUptoSaid : Prop := areasPlaysUptoRow.holds Try.pinned (OpenSpec.upto areasPlaysSpec)

/-- 'locketlaw13.AreasBytes', WHERE WHAT IT READS IS OF BULK AT MOST 1048576: true; the input reads as it did. -/
def areasBytesUptoRow : OpenClaim := { program := "ytdbnadhmkfhdkaa", sum := "af3b872875fca0608bacf59fc09d6bd00b3ff74f49050b0b45962fe64be70a5f", func := "locket/locketlaw13.AreasBytes", spec := "areasBytes", inPlace := ["sync/atomic.LoadUint32", "(*internal/sync.Mutex).Lock", "internal/race.Disable", "sync/atomic.CompareAndSwapInt32", "internal/race.Enable", "internal/race.Acquire", "(*internal/sync.Mutex).lockSlow", "internal/sync.runtime_canSpin", "internal/sync.runtime_doSpin", "internal/sync.throw", "internal/sync.runtime_nanotime", "internal/sync.runtime_SemacquireMutex", "sync/atomic.AddInt32", "(*internal/sync.Mutex).Unlock", "internal/race.ReleaseMerge", "(*internal/sync.Mutex).unlockSlow", "internal/sync.fatal", "internal/sync.runtime_Semrelease", "sync/atomic.StoreUint32"], unfollowed := true, recurses := true, apart := false, narrowed := true }
def AreasBytesUptoSaid : Prop := areasBytesUptoRow.holds Try.pinned (OpenSpec.upto areasBytesSpec)

end Rows
end Go.Proofs.Ytdbnadhmkfhdkaa
