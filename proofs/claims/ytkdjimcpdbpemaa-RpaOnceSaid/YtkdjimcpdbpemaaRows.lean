/-
  No cell of these rows narrows 'for every input' (looked for: loops, veiled, ifaces, maps, wideKeys, modest, calm, conditions, laid).
  DERIVED. THE GIVEN ROWS OF THIS SEAT. 5 by the template 'for every input the law returns true; each argument reads behind the call as it read before'; 0 by the template 'total and deterministic' (their statements: YtkdjimcpdbpemaaTotals.lean).
  GIVEN WITH THE SEED: the statements are not yours to turn. If you find one false, say at which input.
  Laid BY PROGRAM, IN A SANDBOX (cutbox-rows.mjs): the forced cells as the released guide's own fill.sh prints them over the translation fae1a111942839b5… (all of the seat's roots in one cut). By AI agents, Wed Nov 11 2026. No macro, syntax, notation, axiom, sorry.
-/
import Derived.Test.YtkdjimcpdbpemaaChecked
import GoSem.Claim
import GoSem.ClaimJoined
import GoSem.ClaimMapViews
import Derived.JoinedTies
import Derived.KernelRfl
namespace Go.Proofs.Ytkdjimcpdbpemaa
/- THE CELL 'sum', in the pinned program and in every row, IS THE sha256 OF THE DUMP (.gsa) THAT YtkdjimcpdbpemaaProg.lean LOADS. Nothing in Lean hashes anything: it is a label: what it is worth is what the hold of that sum in a sandbox is worth. -/
noncomputable def Try.pinned : Pinned := { name := "ytkdjimcpdbpemaa", sum := "fae1a111942839b50f60f998946987ac3f83b67b5c31a7130b97adce9685f3a8", checked := Try.checked }
namespace Rows
def none {H : Type} : Left H := { results := [], args := [] }

/-- 'locketlaw16.RpaOnce': WHATEVER THE INPUT: true; the input reads as it did. -/
def rpaOnceSpec : ChangeSpec := { name := "rpaOnce", fn := fun _ => fun
  | [d1, d2, d3] => { results := [.lit (.bool true)], args := [d1, d2, d3] }
  | _ => none }
def rpaOnceRow : OpenClaim := { program := "ytkdjimcpdbpemaa", sum := "fae1a111942839b50f60f998946987ac3f83b67b5c31a7130b97adce9685f3a8", func := "locket/locketlaw16.RpaOnce", spec := "rpaOnce", unfollowed := true, recurses := true, plainKeys := false, apart := false }
def RpaOnceSaid : Prop := rpaOnceRow.holds Try.pinned (OpenSpec.ofChange rpaOnceSpec)

/-- ITS FALSE NEIGHBOUR: 'it returns false'. Refute it at one input. -/
def rpaOnceWrong : ChangeSpec := { name := "rpaOnce", fn := fun _ => fun
  | [d1, d2, d3] => { results := [.lit (.bool false)], args := [d1, d2, d3] }
  | _ => none }
def RpaOnceWrongFalsely : Prop := rpaOnceRow.holds Try.pinned (OpenSpec.ofChange rpaOnceWrong)

/-- 'locketlaw16.RpaFrames': WHATEVER THE INPUT: true; the input reads as it did. -/
def rpaFramesSpec : ChangeSpec := { name := "rpaFrames", fn := fun _ => fun
  | [d1, d2, d3] => { results := [.lit (.bool true)], args := [d1, d2, d3] }
  | _ => none }
def rpaFramesRow : OpenClaim := { program := "ytkdjimcpdbpemaa", sum := "fae1a111942839b50f60f998946987ac3f83b67b5c31a7130b97adce9685f3a8", func := "locket/locketlaw16.RpaFrames", spec := "rpaFrames", unfollowed := true, recurses := true, plainKeys := false, apart := false }
def RpaFramesSaid : Prop := rpaFramesRow.holds Try.pinned (OpenSpec.ofChange rpaFramesSpec)

/-- ITS FALSE NEIGHBOUR: 'it returns false'. Refute it at one input. -/
def rpaFramesWrong : ChangeSpec := { name := "rpaFrames", fn := fun _ => fun
  | [d1, d2, d3] => { results := [.lit (.bool false)], args := [d1, d2, d3] }
  | _ => none }
def RpaFramesWrongFalsely : Prop := rpaFramesRow.holds Try.pinned (OpenSpec.ofChange rpaFramesWrong)

/-- 'locketlaw16.RpaSpent': WHATEVER THE INPUT: true; the input reads as it did. -/
def rpaSpentSpec : ChangeSpec := { name := "rpaSpent", fn := fun _ => fun
  | [d1, d2] => { results := [.lit (.bool true)], args := [d1, d2] }
  | _ => none }
def rpaSpentRow : OpenClaim := { program := "ytkdjimcpdbpemaa", sum := "fae1a111942839b50f60f998946987ac3f83b67b5c31a7130b97adce9685f3a8", func := "locket/locketlaw16.RpaSpent", spec := "rpaSpent", unfollowed := true, recurses := true, plainKeys := false, apart := false }
def RpaSpentSaid : Prop := rpaSpentRow.holds Try.pinned (OpenSpec.ofChange rpaSpentSpec)

/-- ITS FALSE NEIGHBOUR: 'it returns false'. Refute it at one input. -/
def rpaSpentWrong : ChangeSpec := { name := "rpaSpent", fn := fun _ => fun
  | [d1, d2] => { results := [.lit (.bool false)], args := [d1, d2] }
  | _ => none }
def RpaSpentWrongFalsely : Prop := rpaSpentRow.holds Try.pinned (OpenSpec.ofChange rpaSpentWrong)

/-- 'locketlaw16.RpaTells': WHATEVER THE INPUT: true; the input reads as it did. -/
def rpaTellsSpec : ChangeSpec := { name := "rpaTells", fn := fun _ => fun
  | [d1, d2, d3, d4, d5] => { results := [.lit (.bool true)], args := [d1, d2, d3, d4, d5] }
  | _ => none }
def rpaTellsRow : OpenClaim := { program := "ytkdjimcpdbpemaa", sum := "fae1a111942839b50f60f998946987ac3f83b67b5c31a7130b97adce9685f3a8", func := "locket/locketlaw16.RpaTells", spec := "rpaTells", unfollowed := true, recurses := true, plainKeys := false, apart := false }
def RpaTellsSaid : Prop := rpaTellsRow.holds Try.pinned (OpenSpec.ofChange rpaTellsSpec)

/-- ITS FALSE NEIGHBOUR: 'it returns false'. Refute it at one input. -/
def rpaTellsWrong : ChangeSpec := { name := "rpaTells", fn := fun _ => fun
  | [d1, d2, d3, d4, d5] => { results := [.lit (.bool false)], args := [d1, d2, d3, d4, d5] }
  | _ => none }
def RpaTellsWrongFalsely : Prop := rpaTellsRow.holds Try.pinned (OpenSpec.ofChange rpaTellsWrong)

/-- 'locketlaw16.RpaKeys': WHATEVER THE INPUT: true; the input reads as it did. -/
def rpaKeysSpec : ChangeSpec := { name := "rpaKeys", fn := fun _ => fun
  | [d] => { results := [.lit (.bool true)], args := [d] }
  | _ => none }
def rpaKeysRow : OpenClaim := { program := "ytkdjimcpdbpemaa", sum := "fae1a111942839b50f60f998946987ac3f83b67b5c31a7130b97adce9685f3a8", func := "locket/locketlaw16.RpaKeys", spec := "rpaKeys", unfollowed := true, recurses := true, plainKeys := false, apart := false }
def RpaKeysSaid : Prop := rpaKeysRow.holds Try.pinned (OpenSpec.ofChange rpaKeysSpec)

/-- ITS FALSE NEIGHBOUR: 'it returns false'. Refute it at one input. -/
def rpaKeysWrong : ChangeSpec := { name := "rpaKeys", fn := fun _ => fun
  | [d] => { results := [.lit (.bool false)], args := [d] }
  | _ => none }
def RpaKeysWrongFalsely : Prop := rpaKeysRow.holds Try.pinned (OpenSpec.ofChange rpaKeysWrong)

/- THE SECOND FORM. 'bulk': how many values and letters a reading holds, each counted each time it is reached (what is shared counts as often as it is met; a slice's spare places count too). A statement '..UptoSaid' is the law's where the arguments, and the package variables that the reading takes, are together of bulk at most 1048576: NARROWER than '..Said'. Prove '..Said' where nothing that the law and all that it calls make is longer than what came in: it says more and counts as full. Else prove '..UptoSaid'. A law counts once. -/
mutual
def uptoBulk {H : Type} : DataW H → Nat
  | .lit (.string bytes) => bytes.length + 1
  | .lit _ => 1
  | .nil => 1
  | .ptr d => uptoBulk d + 1
  | .slice elems spare => uptoBulkAll elems + uptoBulkAll spare + 1
  | .agg parts => uptoBulkAll parts + 1
  | .iface _ d => uptoBulk d + 1
  | .map entries => uptoBulkEntries entries + 1
  | .held _ => 1
def uptoBulkAll {H : Type} : List (DataW H) → Nat
  | [] => 0
  | d :: r => uptoBulk d + uptoBulkAll r
def uptoBulkEntries {H : Type} : List (Lit × DataW H) → Nat
  | [] => 0
  | x :: r => uptoBulkEntry x + uptoBulkEntries r
def uptoBulkEntry {H : Type} : Lit × DataW H → Nat
  | (.string bytes, d) => bytes.length + uptoBulk d + 1
  | (_, d) => uptoBulk d + 1
 end
def uptoSmall : (H : Type) → List (DataW H) → Bool := fun _ ds => decide (uptoBulkAll ds ≤ 1048576)
def OpenSpec.upto (s : _root_.Go.ChangeSpec) : _root_.Go.OpenSpec := { _root_.Go.OpenSpec.ofChange s with cond := some uptoSmall }

/-- 'locketlaw16.RpaOnce', WHERE WHAT IT READS IS OF BULK AT MOST 1048576: true; the input reads as it did. -/
def rpaOnceUptoRow : OpenClaim := { program := "ytkdjimcpdbpemaa", sum := "fae1a111942839b50f60f998946987ac3f83b67b5c31a7130b97adce9685f3a8", func := "locket/locketlaw16.RpaOnce", spec := "rpaOnce", unfollowed := true, recurses := true, plainKeys := false, apart := false, narrowed := true }
def RpaOnceUptoSaid : Prop := rpaOnceUptoRow.holds Try.pinned (OpenSpec.upto rpaOnceSpec)

/-- 'locketlaw16.RpaFrames', WHERE WHAT IT READS IS OF BULK AT MOST 1048576: true; the input reads as it did. -/
def rpaFramesUptoRow : OpenClaim := { program := "ytkdjimcpdbpemaa", sum := "fae1a111942839b50f60f998946987ac3f83b67b5c31a7130b97adce9685f3a8", func := "locket/locketlaw16.RpaFrames", spec := "rpaFrames", unfollowed := true, recurses := true, plainKeys := false, apart := false, narrowed := true }
def RpaFramesUptoSaid : Prop := rpaFramesUptoRow.holds Try.pinned (OpenSpec.upto rpaFramesSpec)

/-- 'locketlaw16.RpaSpent', WHERE WHAT IT READS IS OF BULK AT MOST 1048576: true; the input reads as it did. -/
def rpaSpentUptoRow : OpenClaim := { program := "ytkdjimcpdbpemaa", sum := "fae1a111942839b50f60f998946987ac3f83b67b5c31a7130b97adce9685f3a8", func := "locket/locketlaw16.RpaSpent", spec := "rpaSpent", unfollowed := true, recurses := true, plainKeys := false, apart := false, narrowed := true }
def RpaSpentUptoSaid : Prop := rpaSpentUptoRow.holds Try.pinned (OpenSpec.upto rpaSpentSpec)

/-- 'locketlaw16.RpaTells', WHERE WHAT IT READS IS OF BULK AT MOST 1048576: true; the input reads as it did. -/
def rpaTellsUptoRow : OpenClaim := { program := "ytkdjimcpdbpemaa", sum := "fae1a111942839b50f60f998946987ac3f83b67b5c31a7130b97adce9685f3a8", func := "locket/locketlaw16.RpaTells", spec := "rpaTells", unfollowed := true, recurses := true, plainKeys := false, apart := false, narrowed := true }
def RpaTellsUptoSaid : Prop := rpaTellsUptoRow.holds Try.pinned (OpenSpec.upto rpaTellsSpec)

/-- 'locketlaw16.RpaKeys', WHERE WHAT IT READS IS OF BULK AT MOST 1048576: true; the input reads as it did. -/
def rpaKeysUptoRow : OpenClaim := { program := "ytkdjimcpdbpemaa", sum := "fae1a111942839b50f60f998946987ac3f83b67b5c31a7130b97adce9685f3a8", func := "locket/locketlaw16.RpaKeys", spec := "rpaKeys", unfollowed := true, recurses := true, plainKeys := false, apart := false, narrowed := true }
def RpaKeysUptoSaid : Prop := rpaKeysUptoRow.holds Try.pinned (OpenSpec.upto rpaKeysSpec)

end Rows
end Go.Proofs.Ytkdjimcpdbpemaa
