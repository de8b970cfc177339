/-
  No cell of these rows narrows 'for every input' (looked for: loops, veiled, ifaces, maps, wideKeys, modest, calm, conditions, laid).
  DERIVED. THE GIVEN ROWS OF THIS SEAT. 5 by the template 'for every input the law returns true; each argument reads behind the call as it read before'; 0 by the template 'total and deterministic' (their statements: YtbbhniohliklhaaTotals.lean).
  GIVEN WITH THE SEED: the statements are not yours to turn. If you find one false, say at which input.
  Laid BY PROGRAM, IN A SANDBOX (cutbox-rows.mjs): the forced cells as the released guide's own fill.sh prints them over the translation 2e67608823dbe9a4… (all of the seat's roots in one cut). By AI agents, Wed Nov 11 2026. No macro, syntax, notation, axiom, sorry.
-/
import Derived.Test.YtbbhniohliklhaaChecked
import GoSem.Claim
import GoSem.ClaimJoined
import GoSem.ClaimMapViews
import Derived.JoinedTies
import Derived.KernelRfl
namespace Go.Proofs.Ytbbhniohliklhaa
/- THE CELL 'sum', in the pinned program and in every row, IS THE sha256 OF THE DUMP (.gsa) THAT YtbbhniohliklhaaProg.lean LOADS. Nothing in Lean hashes anything: it is a label: what it is worth is what the hold of that sum in a sandbox is worth. -/
noncomputable def Try.pinned : Pinned := { name := "ytbbhniohliklhaa", sum := "2e67608823dbe9a4a15c2f39dab06e7327f1e95f55dfee99024ee08053390864", checked := Try.checked }
namespace Rows
def none {H : Type} : Left H := { results := [], args := [] }

/-- 'locketlaw4.NandOrder': WHATEVER THE INPUT: true; the input reads as it did. -/
def nandOrderSpec : ChangeSpec := { name := "nandOrder", fn := fun _ => fun
  | [d1, d2, d3] => { results := [.lit (.bool true)], args := [d1, d2, d3] }
  | _ => none }
def nandOrderRow : OpenClaim := { program := "ytbbhniohliklhaa", sum := "2e67608823dbe9a4a15c2f39dab06e7327f1e95f55dfee99024ee08053390864", func := "locket/locketlaw4.NandOrder", spec := "nandOrder", inPlace := ["sync/atomic.AddInt64"], apart := false }
def NandOrderSaid : Prop := nandOrderRow.holds Try.pinned (OpenSpec.ofChange nandOrderSpec)

/-- ITS FALSE NEIGHBOUR: 'it returns false'. Refute it at one input. -/
def nandOrderWrong : ChangeSpec := { name := "nandOrder", fn := fun _ => fun
  | [d1, d2, d3] => { results := [.lit (.bool false)], args := [d1, d2, d3] }
  | _ => none }
def NandOrderWrongFalsely : Prop := nandOrderRow.holds Try.pinned (OpenSpec.ofChange nandOrderWrong)

/-- 'locketlaw4.NandCuts': WHATEVER THE INPUT: true; the input reads as it did. -/
def nandCutsSpec : ChangeSpec := { name := "nandCuts", fn := fun _ => fun
  | [d1, d2, d3, d4] => { results := [.lit (.bool true)], args := [d1, d2, d3, d4] }
  | _ => none }
def nandCutsRow : OpenClaim := { program := "ytbbhniohliklhaa", sum := "2e67608823dbe9a4a15c2f39dab06e7327f1e95f55dfee99024ee08053390864", func := "locket/locketlaw4.NandCuts", spec := "nandCuts", inPlace := ["sync/atomic.AddInt64"], apart := false }
def NandCutsSaid : Prop := nandCutsRow.holds Try.pinned (OpenSpec.ofChange nandCutsSpec)

/-- ITS FALSE NEIGHBOUR: 'it returns false'. Refute it at one input. -/
def nandCutsWrong : ChangeSpec := { name := "nandCuts", fn := fun _ => fun
  | [d1, d2, d3, d4] => { results := [.lit (.bool false)], args := [d1, d2, d3, d4] }
  | _ => none }
def NandCutsWrongFalsely : Prop := nandCutsRow.holds Try.pinned (OpenSpec.ofChange nandCutsWrong)

/-- 'locketlaw4.NandFails': WHATEVER THE INPUT: true; the input reads as it did. -/
def nandFailsSpec : ChangeSpec := { name := "nandFails", fn := fun _ => fun
  | [d1, d2] => { results := [.lit (.bool true)], args := [d1, d2] }
  | _ => none }
def nandFailsRow : OpenClaim := { program := "ytbbhniohliklhaa", sum := "2e67608823dbe9a4a15c2f39dab06e7327f1e95f55dfee99024ee08053390864", func := "locket/locketlaw4.NandFails", spec := "nandFails", inPlace := ["sync/atomic.AddInt64"], apart := false }
def NandFailsSaid : Prop := nandFailsRow.holds Try.pinned (OpenSpec.ofChange nandFailsSpec)

/-- ITS FALSE NEIGHBOUR: 'it returns false'. Refute it at one input. -/
def nandFailsWrong : ChangeSpec := { name := "nandFails", fn := fun _ => fun
  | [d1, d2] => { results := [.lit (.bool false)], args := [d1, d2] }
  | _ => none }
def NandFailsWrongFalsely : Prop := nandFailsRow.holds Try.pinned (OpenSpec.ofChange nandFailsWrong)

/-- 'locketlaw4.NandApart': WHATEVER THE INPUT: true; the input reads as it did. -/
def nandApartSpec : ChangeSpec := { name := "nandApart", fn := fun _ => fun
  | [d1, d2, d3] => { results := [.lit (.bool true)], args := [d1, d2, d3] }
  | _ => none }
def nandApartRow : OpenClaim := { program := "ytbbhniohliklhaa", sum := "2e67608823dbe9a4a15c2f39dab06e7327f1e95f55dfee99024ee08053390864", func := "locket/locketlaw4.NandApart", spec := "nandApart", inPlace := ["sync/atomic.AddInt64"], apart := false }
def NandApartSaid : Prop := nandApartRow.holds Try.pinned (OpenSpec.ofChange nandApartSpec)

/-- ITS FALSE NEIGHBOUR: 'it returns false'. Refute it at one input. -/
def nandApartWrong : ChangeSpec := { name := "nandApart", fn := fun _ => fun
  | [d1, d2, d3] => { results := [.lit (.bool false)], args := [d1, d2, d3] }
  | _ => none }
def NandApartWrongFalsely : Prop := nandApartRow.holds Try.pinned (OpenSpec.ofChange nandApartWrong)

/-- 'locketlaw4.NandPlays': WHATEVER THE INPUT: true; the input reads as it did. -/
def nandPlaysSpec : ChangeSpec := { name := "nandPlays", fn := fun _ => fun
  | [d1, d2, d3, d4] => { results := [.lit (.bool true)], args := [d1, d2, d3, d4] }
  | _ => none }
def nandPlaysRow : OpenClaim := { program := "ytbbhniohliklhaa", sum := "2e67608823dbe9a4a15c2f39dab06e7327f1e95f55dfee99024ee08053390864", func := "locket/locketlaw4.NandPlays", spec := "nandPlays", inPlace := ["sync/atomic.AddInt64", "sync/atomic.LoadInt64"], apart := false }
def NandPlaysSaid : Prop := nandPlaysRow.holds Try.pinned (OpenSpec.ofChange nandPlaysSpec)

/-- ITS FALSE NEIGHBOUR: 'it returns false'. Refute it at one input. -/
def nandPlaysWrong : ChangeSpec := { name := "nandPlays", fn := fun _ => fun
  | [d1, d2, d3, d4] => { results := [.lit (.bool false)], args := [d1, d2, d3, d4] }
  | _ => none }
def NandPlaysWrongFalsely : Prop := nandPlaysRow.holds Try.pinned (OpenSpec.ofChange nandPlaysWrong)

/- THE SECOND FORM. 'bulk': how many values and letters a reading holds, each counted each time it is reached (what is shared counts as often as it is met; a slice's spare places count too). A statement '..UptoSaid' is the law's where the arguments, and the package variables that the reading takes, are together of bulk at most 1048576: NARROWER than '..Said'. Prove '..Said' where nothing that the law and all that it calls make is longer than what came in: it says more and counts as full. Else prove '..UptoSaid'. A law counts once. -/
mutual
def uptoBulk {H : Type} : DataW H → Nat
  | .lit (.string bytes) => bytes.length + 1
  | .lit _ => 1
  | .nil => 1
  | .ptr d => uptoBulk d + 1
  | .slice elems spare => uptoBulkAll elems + uptoBulkAll spare + 1
  | .agg parts => uptoBulkAll parts + 1
  | .iface _ d => uptoBulk d + 1
  | .map entries => uptoBulkEntries entries + 1
  | .held _ => 1
def uptoBulkAll {H : Type} : List (DataW H) → Nat
  | [] => 0
  | d :: r => uptoBulk d + uptoBulkAll r
def uptoBulkEntries {H : Type} : List (Lit × DataW H) → Nat
  | [] => 0
  | x :: r => uptoBulkEntry x + uptoBulkEntries r
def uptoBulkEntry {H : Type} : Lit × DataW H → Nat
  | (.string bytes, d) => bytes.length + uptoBulk d + 1
  | (_, d) => uptoBulk d + 1
 end
def uptoSmall : (H : Type) → List (DataW H) → Bool := fun _ ds => decide (uptoBulkAll ds ≤ 1048576)
def OpenSpec.upto (s : _root_.Go.ChangeSpec) : _root_.Go.OpenSpec := { _root_.Go.OpenSpec.ofChange s with cond := some uptoSmall }

/-- 'locketlaw4.NandOrder', WHERE WHAT IT READS IS OF BULK AT MOST 1048576: true; the input reads as it did. -/
def nandOrderUptoRow : OpenClaim := { program := "ytbbhniohliklhaa", sum := "2e67608823dbe9a4a15c2f39dab06e7327f1e95f55dfee99024ee08053390864", func := "locket/locketlaw4.NandOrder", spec := "nandOrder", inPlace := ["sync/atomic.AddInt64"], apart := false, narrowed := true }
def NandOrderUptoSaid : Prop := nandOrderUptoRow.holds Try.pinned (OpenSpec.upto nandOrderSpec)

/-- 'locketlaw4.NandCuts', WHERE WHAT IT READS IS OF BULK AT MOST 1048576: true; the input reads as it did. -/
def nandCutsUptoRow : OpenClaim := { program := "ytbbhniohliklhaa", sum := "2e67608823dbe9a4a15c2f39dab06e7327f1e95f55dfee99024ee08053390864", func := "locket/locketlaw4.NandCuts", spec := "nandCuts", inPlace := ["sync/atomic.AddInt64"], apart := false, narrowed := true }
def NandCutsUptoSaid : Prop := nandCutsUptoRow.holds Try.pinned (OpenSpec.upto nandCutsSpec)

/-- 'locketlaw4.NandFails', WHERE WHAT IT READS IS OF BULK AT MOST 1048576: true; the input reads as it did. -/
def nandFailsUptoRow : OpenClaim := { program := "ytbbhniohliklhaa", sum := "2e67608823dbe9a4a15c2f39dab06e7327f1e95f55dfee99024ee08053390864", func := "locket/locketlaw4.NandFails", spec := "nandFails", inPlace := ["sync/atomic.AddInt64"], apart := false, narrowed := true }
def NandFailsUptoSaid : Prop := nandFailsUptoRow.holds Try.pinned (OpenSpec.upto nandFailsSpec)

/-- 'locketlaw4.NandApart', WHERE WHAT IT READS IS OF BULK AT MOST 1048576: true; the input reads as it did. -/
def nandApartUptoRow : OpenClaim := { program := "ytbbhniohliklhaa", sum := "2e67608823dbe9a4a15c2f39dab06e7327f1e95f55dfee99024ee08053390864", func := "locket/locketlaw4.NandApart", spec := "nandApart", inPlace := ["sync/atomic.AddInt64"], apart := false, narrowed := true }
def NandApartUptoSaid : Prop := nandApartUptoRow.holds Try.pinned (OpenSpec.upto nandApartSpec)

/-- 'locketlaw4.NandPlays', WHERE WHAT IT READS IS OF BULK AT MOST 1048576: true; the input reads as it did. -/
def nandPlaysUptoRow : OpenClaim := { program := "ytbbhniohliklhaa", sum := "2e67608823dbe9a4a15c2f39dab06e7327f1e95f55dfee99024ee08053390864", func := "locket/locketlaw4.NandPlays", spec := "nandPlays", inPlace := ["sync/atomic.AddInt64", "sync/atomic.LoadInt64"], apart := false, narrowed := true }
def NandPlaysUptoSaid : Prop := nandPlaysUptoRow.holds Try.pinned (OpenSpec.upto nandPlaysSpec)

end Rows
end Go.Proofs.Ytbbhniohliklhaa
