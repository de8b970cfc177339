/-
  No cell of these rows narrows 'for every input' (looked for: loops, veiled, ifaces, maps, wideKeys, modest, calm, conditions, laid).
  DERIVED. THE GIVEN ROWS OF THIS SEAT. 5 by the template 'for every input the law returns true; each argument reads behind the call as it read before'; 0 by the template 'total and deterministic' (their statements: YthpmmbboaeneeaaTotals.lean).
  GIVEN WITH THE SEED: the statements are not yours to turn. If you find one false, say at which input.
  Laid BY PROGRAM, IN A SANDBOX (cutbox-rows.mjs): the forced cells as the released guide's own fill.sh prints them over the translation 2ffc359eb31ae953… (all of the seat's roots in one cut). By AI agents, Wed Nov 11 2026. No macro, syntax, notation, axiom, sorry.
-/
import Derived.Test.YthpmmbboaeneeaaChecked
import GoSem.Claim
import GoSem.ClaimJoined
import GoSem.ClaimMapViews
import Derived.JoinedTies
import Derived.KernelRfl
namespace Go.Proofs.Ythpmmbboaeneeaa
/- THE CELL 'sum', in the pinned program and in every row, IS THE sha256 OF THE DUMP (.gsa) THAT YthpmmbboaeneeaaProg.lean LOADS. Nothing in Lean hashes anything: it is a label: what it is worth is what the hold of that sum in a sandbox is worth. -/
noncomputable def Try.pinned : Pinned := { name := "ythpmmbboaeneeaa", sum := "2ffc359eb31ae953861f3fc2a6daa312e0db68810c4a1937ef57b4bb2b7a2723", checked := Try.checked }
namespace Rows
def none {H : Type} : Left H := { results := [], args := [] }

/-- 'locketlaw8.WearNumbers': WHATEVER THE INPUT: true; the input reads as it did. -/
def wearNumbersSpec : ChangeSpec := { name := "wearNumbers", fn := fun _ => fun
  | [d1, d2, d3, d4] => { results := [.lit (.bool true)], args := [d1, d2, d3, d4] }
  | _ => none }
def wearNumbersRow : OpenClaim := { program := "ythpmmbboaeneeaa", sum := "2ffc359eb31ae953861f3fc2a6daa312e0db68810c4a1937ef57b4bb2b7a2723", func := "locket/locketlaw8.WearNumbers", spec := "wearNumbers", apart := false }
def WearNumbersSaid : Prop := wearNumbersRow.holds Try.pinned (OpenSpec.ofChange wearNumbersSpec)

/-- ITS FALSE NEIGHBOUR: 'it returns false'. Refute it at one input. -/
def wearNumbersWrong : ChangeSpec := { name := "wearNumbers", fn := fun _ => fun
  | [d1, d2, d3, d4] => { results := [.lit (.bool false)], args := [d1, d2, d3, d4] }
  | _ => none }
def WearNumbersWrongFalsely : Prop := wearNumbersRow.holds Try.pinned (OpenSpec.ofChange wearNumbersWrong)

/-- 'locketlaw8.WearGrows': WHATEVER THE INPUT: true; the input reads as it did. -/
def wearGrowsSpec : ChangeSpec := { name := "wearGrows", fn := fun _ => fun
  | [d1, d2, d3, d4, d5, d6] => { results := [.lit (.bool true)], args := [d1, d2, d3, d4, d5, d6] }
  | _ => none }
def wearGrowsRow : OpenClaim := { program := "ythpmmbboaeneeaa", sum := "2ffc359eb31ae953861f3fc2a6daa312e0db68810c4a1937ef57b4bb2b7a2723", func := "locket/locketlaw8.WearGrows", spec := "wearGrows", apart := false }
def WearGrowsSaid : Prop := wearGrowsRow.holds Try.pinned (OpenSpec.ofChange wearGrowsSpec)

/-- ITS FALSE NEIGHBOUR: 'it returns false'. Refute it at one input. -/
def wearGrowsWrong : ChangeSpec := { name := "wearGrows", fn := fun _ => fun
  | [d1, d2, d3, d4, d5, d6] => { results := [.lit (.bool false)], args := [d1, d2, d3, d4, d5, d6] }
  | _ => none }
def WearGrowsWrongFalsely : Prop := wearGrowsRow.holds Try.pinned (OpenSpec.ofChange wearGrowsWrong)

/-- 'locketlaw8.WearFrees': WHATEVER THE INPUT: true; the input reads as it did. -/
def wearFreesSpec : ChangeSpec := { name := "wearFrees", fn := fun _ => fun
  | [d1, d2] => { results := [.lit (.bool true)], args := [d1, d2] }
  | _ => none }
def wearFreesRow : OpenClaim := { program := "ythpmmbboaeneeaa", sum := "2ffc359eb31ae953861f3fc2a6daa312e0db68810c4a1937ef57b4bb2b7a2723", func := "locket/locketlaw8.WearFrees", spec := "wearFrees", unfollowed := true, recurses := true, apart := false }
def WearFreesSaid : Prop := wearFreesRow.holds Try.pinned (OpenSpec.ofChange wearFreesSpec)

/-- ITS FALSE NEIGHBOUR: 'it returns false'. Refute it at one input. -/
def wearFreesWrong : ChangeSpec := { name := "wearFrees", fn := fun _ => fun
  | [d1, d2] => { results := [.lit (.bool false)], args := [d1, d2] }
  | _ => none }
def WearFreesWrongFalsely : Prop := wearFreesRow.holds Try.pinned (OpenSpec.ofChange wearFreesWrong)

/-- 'locketlaw8.WearVictims': WHATEVER THE INPUT: true; the input reads as it did. -/
def wearVictimsSpec : ChangeSpec := { name := "wearVictims", fn := fun _ => fun
  | [d] => { results := [.lit (.bool true)], args := [d] }
  | _ => none }
def wearVictimsRow : OpenClaim := { program := "ythpmmbboaeneeaa", sum := "2ffc359eb31ae953861f3fc2a6daa312e0db68810c4a1937ef57b4bb2b7a2723", func := "locket/locketlaw8.WearVictims", spec := "wearVictims", unfollowed := true, recurses := true, apart := false }
def WearVictimsSaid : Prop := wearVictimsRow.holds Try.pinned (OpenSpec.ofChange wearVictimsSpec)

/-- ITS FALSE NEIGHBOUR: 'it returns false'. Refute it at one input. -/
def wearVictimsWrong : ChangeSpec := { name := "wearVictims", fn := fun _ => fun
  | [d] => { results := [.lit (.bool false)], args := [d] }
  | _ => none }
def WearVictimsWrongFalsely : Prop := wearVictimsRow.holds Try.pinned (OpenSpec.ofChange wearVictimsWrong)

/-- 'locketlaw8.WearPicks': WHATEVER THE INPUT: true; the input reads as it did. -/
def wearPicksSpec : ChangeSpec := { name := "wearPicks", fn := fun _ => fun
  | [d1, d2, d3] => { results := [.lit (.bool true)], args := [d1, d2, d3] }
  | _ => none }
def wearPicksRow : OpenClaim := { program := "ythpmmbboaeneeaa", sum := "2ffc359eb31ae953861f3fc2a6daa312e0db68810c4a1937ef57b4bb2b7a2723", func := "locket/locketlaw8.WearPicks", spec := "wearPicks", unfollowed := true, recurses := true, apart := false }
def WearPicksSaid : Prop := wearPicksRow.holds Try.pinned (OpenSpec.ofChange wearPicksSpec)

/-- ITS FALSE NEIGHBOUR: 'it returns false'. Refute it at one input. -/
def wearPicksWrong : ChangeSpec := { name := "wearPicks", fn := fun _ => fun
  | [d1, d2, d3] => { results := [.lit (.bool false)], args := [d1, d2, d3] }
  | _ => none }
def WearPicksWrongFalsely : Prop := wearPicksRow.holds Try.pinned (OpenSpec.ofChange wearPicksWrong)

/- THE SECOND FORM. 'bulk': how many values and letters a reading holds, each counted each time it is reached (what is shared counts as often as it is met; a slice's spare places count too). A statement '..UptoSaid' is the law's where the arguments, and the package variables that the reading takes, are together of bulk at most 1048576: NARROWER than '..Said'. Prove '..Said' where nothing that the law and all that it calls make is longer than what came in: it says more and counts as full. Else prove '..UptoSaid'. A law counts once. -/
mutual
def uptoBulk {H : Type} : DataW H → Nat
  | .lit (.string bytes) => bytes.length + 1
  | .lit _ => 1
  | .nil => 1
  | .ptr d => uptoBulk d + 1
  | .slice elems spare => uptoBulkAll elems + uptoBulkAll spare + 1
  | .agg parts => uptoBulkAll parts + 1
  | .iface _ d => uptoBulk d + 1
  | .map entries => uptoBulkEntries entries + 1
  | .held _ => 1
def uptoBulkAll {H : Type} : List (DataW H) → Nat
  | [] => 0
  | d :: r => uptoBulk d + uptoBulkAll r
def uptoBulkEntries {H : Type} : List (Lit × DataW H) → Nat
  | [] => 0
  | x :: r => uptoBulkEntry x + uptoBulkEntries r
def uptoBulkEntry {H : Type} : Lit × DataW H → Nat
  | (.string bytes, d) => bytes.length + uptoBulk d + 1
  | (_, d) => uptoBulk d + 1
 end
def uptoSmall : (H : Type) → List (DataW H) → Bool := fun _ ds => decide (uptoBulkAll ds ≤ 1048576)
def OpenSpec.upto (s : _root_.Go.ChangeSpec) : _root_.Go.OpenSpec := { _root_.Go.OpenSpec.ofChange s with cond := some uptoSmall }

/-- 'locketlaw8.WearNumbers', WHERE WHAT IT READS IS OF BULK AT MOST 1048576: true; the input reads as it did. -/
def wearNumbersUptoRow : OpenClaim := { program := "ythpmmbboaeneeaa", sum := "2ffc359eb31ae953861f3fc2a6daa312e0db68810c4a1937ef57b4bb2b7a2723", func := "locket/locketlaw8.WearNumbers", spec := "wearNumbers", apart := false, narrowed := true }
def WearNumbersUptoSaid : Prop := wearNumbersUptoRow.holds Try.pinned (OpenSpec.upto wearNumbersSpec)

/-- 'locketlaw8.WearGrows', WHERE WHAT IT READS IS OF BULK AT MOST 1048576: true; the input reads as it did. -/
def wearGrowsUptoRow : OpenClaim := { program := "ythpmmbboaeneeaa", sum := "2ffc359eb31ae953861f3fc2a6daa312e0db68810c4a1937ef57b4bb2b7a2723", func := "locket/locketlaw8.WearGrows", spec := "wearGrows", apart := false, narrowed := true }
def WearGrowsUptoSaid : Prop := wearGrowsUptoRow.holds Try.pinned (OpenSpec.upto wearGrowsSpec)

/-- 'locketlaw8.WearFrees', WHERE WHAT IT READS IS OF BULK AT MOST 1048576: true; the input reads as it did. -/
def wearFreesUptoRow : OpenClaim := { program := "ythpmmbboaeneeaa", sum := "2ffc359eb31ae953861f3fc2a6daa312e0db68810c4a1937ef57b4bb2b7a2723", func := "locket/locketlaw8.WearFrees", spec := "wearFrees", unfollowed := true, recurses := true, apart := false, narrowed := true }
def WearFreesUptoSaid : Prop := wearFreesUptoRow.holds Try.pinned (OpenSpec.upto wearFreesSpec)

/-- 'locketlaw8.WearVictims', WHERE WHAT IT READS IS OF BULK AT MOST 1048576: true; the input reads as it did. -/
def wearVictimsUptoRow : OpenClaim := { program := "ythpmmbboaeneeaa", sum := "2ffc359eb31ae953861f3fc2a6daa312e0db68810c4a1937ef57b4bb2b7a2723", func := "locket/locketlaw8.WearVictims", spec := "wearVictims", unfollowed := true, recurses := true, apart := false, narrowed := true }
def WearVictimsUptoSaid : Prop := wearVictimsUptoRow.holds Try.pinned (OpenSpec.upto wearVictimsSpec)

/-- 'locketlaw8.WearPicks', WHERE WHAT IT READS IS OF BULK AT MOST 1048576: true; the input reads as it did. -/
def wearPicksUptoRow : OpenClaim := { program := "ythpmmbboaeneeaa", sum := "2ffc359eb31ae953861f3fc2a6daa312e0db68810c4a1937ef57b4bb2b7a2723", func := "locket/locketlaw8.WearPicks", spec := "wearPicks", unfollowed := true, recurses := true, apart := false, narrowed := true }
def WearPicksUptoSaid : Prop := wearPicksUptoRow.holds Try.pinned (OpenSpec.upto wearPicksSpec)

end Rows
end Go.Proofs.Ythpmmbboaeneeaa
