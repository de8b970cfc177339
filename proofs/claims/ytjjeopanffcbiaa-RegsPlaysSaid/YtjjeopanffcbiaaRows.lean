/-
  No cell of these rows narrows 'for every input' (looked for: loops, veiled, ifaces, maps, wideKeys, modest, calm, conditions, laid).
  DERIVED. THE GIVEN ROWS OF THIS SEAT. 12 by the template 'for every input the law returns true; each argument reads behind the call as it read before'; 0 by the template 'total and deterministic' (their statements: YtjjeopanffcbiaaTotals.lean).
  GIVEN WITH THE SEED: the statements are not yours to turn. If you find one false, say at which input.
  Laid BY PROGRAM, IN A SANDBOX (cutbox-rows.mjs): the forced cells as the released guide's own fill.sh prints them over the translation 371bf5a47d26257b… (all of the seat's roots in one cut). By AI agents, Wed Nov 11 2026. No macro, syntax, notation, axiom, sorry.
-/
import Derived.Test.YtjjeopanffcbiaaChecked
import GoSem.Claim
import GoSem.ClaimJoined
import GoSem.ClaimMapViews
import Derived.JoinedTies
import Derived.KernelRfl
namespace Go.Proofs.Ytjjeopanffcbiaa
/- THE CELL 'sum', in the pinned program and in every row, IS THE sha256 OF THE DUMP (.gsa) THAT YtjjeopanffcbiaaProg.lean LOADS. Nothing in Lean hashes anything: it is a label: what it is worth is what the hold of that sum in a sandbox is worth. -/
noncomputable def Try.pinned : Pinned := { name := "ytjjeopanffcbiaa", sum := "371bf5a47d26257b5ed9accb29f151aa42ae03206997ba4be70c4550041ef34f", checked := Try.checked }
namespace Rows
def none {H : Type} : Left H := { results := [], args := [] }

/-- 'locketlaw18.TokenReads': WHATEVER THE INPUT: true; the input reads as it did. -/
def tokenReadsSpec : ChangeSpec := { name := "tokenReads", fn := fun _ => fun
  | [d1, d2, d3] => { results := [.lit (.bool true)], args := [d1, d2, d3] }
  | _ => none }
def tokenReadsRow : OpenClaim := { program := "ytjjeopanffcbiaa", sum := "371bf5a47d26257b5ed9accb29f151aa42ae03206997ba4be70c4550041ef34f", func := "locket/locketlaw18.TokenReads", spec := "tokenReads", plainKeys := false, apart := false }
def TokenReadsSaid : Prop := tokenReadsRow.holds Try.pinned (OpenSpec.ofChange tokenReadsSpec)

/-- ITS FALSE NEIGHBOUR: 'it returns false'. Refute it at one input. -/
def tokenReadsWrong : ChangeSpec := { name := "tokenReads", fn := fun _ => fun
  | [d1, d2, d3] => { results := [.lit (.bool false)], args := [d1, d2, d3] }
  | _ => none }
def TokenReadsWrongFalsely : Prop := tokenReadsRow.holds Try.pinned (OpenSpec.ofChange tokenReadsWrong)

/-- 'locketlaw18.TokenJoins': WHATEVER THE INPUT: true; the input reads as it did. -/
def tokenJoinsSpec : ChangeSpec := { name := "tokenJoins", fn := fun _ => fun
  | [d1, d2, d3] => { results := [.lit (.bool true)], args := [d1, d2, d3] }
  | _ => none }
def tokenJoinsRow : OpenClaim := { program := "ytjjeopanffcbiaa", sum := "371bf5a47d26257b5ed9accb29f151aa42ae03206997ba4be70c4550041ef34f", func := "locket/locketlaw18.TokenJoins", spec := "tokenJoins", unfollowed := true, recurses := true, plainKeys := false, apart := false }
def TokenJoinsSaid : Prop := tokenJoinsRow.holds Try.pinned (OpenSpec.ofChange tokenJoinsSpec)

/-- ITS FALSE NEIGHBOUR: 'it returns false'. Refute it at one input. -/
def tokenJoinsWrong : ChangeSpec := { name := "tokenJoins", fn := fun _ => fun
  | [d1, d2, d3] => { results := [.lit (.bool false)], args := [d1, d2, d3] }
  | _ => none }
def TokenJoinsWrongFalsely : Prop := tokenJoinsRow.holds Try.pinned (OpenSpec.ofChange tokenJoinsWrong)

/-- 'locketlaw19.PhaseNext': WHATEVER THE INPUT: true; the input reads as it did. -/
def phaseNextSpec : ChangeSpec := { name := "phaseNext", fn := fun _ => fun
  | [d1, d2, d3] => { results := [.lit (.bool true)], args := [d1, d2, d3] }
  | _ => none }
def phaseNextRow : OpenClaim := { program := "ytjjeopanffcbiaa", sum := "371bf5a47d26257b5ed9accb29f151aa42ae03206997ba4be70c4550041ef34f", func := "locket/locketlaw19.PhaseNext", spec := "phaseNext", plainKeys := false, apart := false }
def PhaseNextSaid : Prop := phaseNextRow.holds Try.pinned (OpenSpec.ofChange phaseNextSpec)

/-- ITS FALSE NEIGHBOUR: 'it returns false'. Refute it at one input. -/
def phaseNextWrong : ChangeSpec := { name := "phaseNext", fn := fun _ => fun
  | [d1, d2, d3] => { results := [.lit (.bool false)], args := [d1, d2, d3] }
  | _ => none }
def PhaseNextWrongFalsely : Prop := phaseNextRow.holds Try.pinned (OpenSpec.ofChange phaseNextWrong)

/-- 'locketlaw15.RegsBits': WHATEVER THE INPUT: true; the input reads as it did. -/
def regsBitsSpec : ChangeSpec := { name := "regsBits", fn := fun _ => fun
  | [d1, d2, d3] => { results := [.lit (.bool true)], args := [d1, d2, d3] }
  | _ => none }
def regsBitsRow : OpenClaim := { program := "ytjjeopanffcbiaa", sum := "371bf5a47d26257b5ed9accb29f151aa42ae03206997ba4be70c4550041ef34f", func := "locket/locketlaw15.RegsBits", spec := "regsBits", unfollowed := true, recurses := true, plainKeys := false, apart := false }
def RegsBitsSaid : Prop := regsBitsRow.holds Try.pinned (OpenSpec.ofChange regsBitsSpec)

/-- ITS FALSE NEIGHBOUR: 'it returns false'. Refute it at one input. -/
def regsBitsWrong : ChangeSpec := { name := "regsBits", fn := fun _ => fun
  | [d1, d2, d3] => { results := [.lit (.bool false)], args := [d1, d2, d3] }
  | _ => none }
def RegsBitsWrongFalsely : Prop := regsBitsRow.holds Try.pinned (OpenSpec.ofChange regsBitsWrong)

/-- 'locketlaw19.PhaseIdle': WHATEVER THE INPUT: true; the input reads as it did. -/
def phaseIdleSpec : ChangeSpec := { name := "phaseIdle", fn := fun _ => fun
  | [d1, d2] => { results := [.lit (.bool true)], args := [d1, d2] }
  | _ => none }
def phaseIdleRow : OpenClaim := { program := "ytjjeopanffcbiaa", sum := "371bf5a47d26257b5ed9accb29f151aa42ae03206997ba4be70c4550041ef34f", func := "locket/locketlaw19.PhaseIdle", spec := "phaseIdle", plainKeys := false, apart := false }
def PhaseIdleSaid : Prop := phaseIdleRow.holds Try.pinned (OpenSpec.ofChange phaseIdleSpec)

/-- ITS FALSE NEIGHBOUR: 'it returns false'. Refute it at one input. -/
def phaseIdleWrong : ChangeSpec := { name := "phaseIdle", fn := fun _ => fun
  | [d1, d2] => { results := [.lit (.bool false)], args := [d1, d2] }
  | _ => none }
def PhaseIdleWrongFalsely : Prop := phaseIdleRow.holds Try.pinned (OpenSpec.ofChange phaseIdleWrong)

/-- 'locketlaw7.GeomBytes': WHATEVER THE INPUT: true; the input reads as it did. -/
def geomBytesSpec : ChangeSpec := { name := "geomBytes", fn := fun _ => fun
  | [d1, d2] => { results := [.lit (.bool true)], args := [d1, d2] }
  | _ => none }
def geomBytesRow : OpenClaim := { program := "ytjjeopanffcbiaa", sum := "371bf5a47d26257b5ed9accb29f151aa42ae03206997ba4be70c4550041ef34f", func := "locket/locketlaw7.GeomBytes", spec := "geomBytes", unfollowed := true, recurses := true, plainKeys := false, apart := false }
def GeomBytesSaid : Prop := geomBytesRow.holds Try.pinned (OpenSpec.ofChange geomBytesSpec)

/-- ITS FALSE NEIGHBOUR: 'it returns false'. Refute it at one input. -/
def geomBytesWrong : ChangeSpec := { name := "geomBytes", fn := fun _ => fun
  | [d1, d2] => { results := [.lit (.bool false)], args := [d1, d2] }
  | _ => none }
def GeomBytesWrongFalsely : Prop := geomBytesRow.holds Try.pinned (OpenSpec.ofChange geomBytesWrong)

/-- 'locketlaw8.WearPicks': WHATEVER THE INPUT: true; the input reads as it did. -/
def wearPicksSpec : ChangeSpec := { name := "wearPicks", fn := fun _ => fun
  | [d1, d2, d3] => { results := [.lit (.bool true)], args := [d1, d2, d3] }
  | _ => none }
def wearPicksRow : OpenClaim := { program := "ytjjeopanffcbiaa", sum := "371bf5a47d26257b5ed9accb29f151aa42ae03206997ba4be70c4550041ef34f", func := "locket/locketlaw8.WearPicks", spec := "wearPicks", unfollowed := true, recurses := true, plainKeys := false, apart := false }
def WearPicksSaid : Prop := wearPicksRow.holds Try.pinned (OpenSpec.ofChange wearPicksSpec)

/-- ITS FALSE NEIGHBOUR: 'it returns false'. Refute it at one input. -/
def wearPicksWrong : ChangeSpec := { name := "wearPicks", fn := fun _ => fun
  | [d1, d2, d3] => { results := [.lit (.bool false)], args := [d1, d2, d3] }
  | _ => none }
def WearPicksWrongFalsely : Prop := wearPicksRow.holds Try.pinned (OpenSpec.ofChange wearPicksWrong)

/-- 'locketlaw19.PhasePlays': WHATEVER THE INPUT: true; the input reads as it did. -/
def phasePlaysSpec : ChangeSpec := { name := "phasePlays", fn := fun _ => fun
  | [d] => { results := [.lit (.bool true)], args := [d] }
  | _ => none }
def phasePlaysRow : OpenClaim := { program := "ytjjeopanffcbiaa", sum := "371bf5a47d26257b5ed9accb29f151aa42ae03206997ba4be70c4550041ef34f", func := "locket/locketlaw19.PhasePlays", spec := "phasePlays", plainKeys := false, apart := false }
def PhasePlaysSaid : Prop := phasePlaysRow.holds Try.pinned (OpenSpec.ofChange phasePlaysSpec)

/-- ITS FALSE NEIGHBOUR: 'it returns false'. Refute it at one input. -/
def phasePlaysWrong : ChangeSpec := { name := "phasePlays", fn := fun _ => fun
  | [d] => { results := [.lit (.bool false)], args := [d] }
  | _ => none }
def PhasePlaysWrongFalsely : Prop := phasePlaysRow.holds Try.pinned (OpenSpec.ofChange phasePlaysWrong)

/-- 'locketlaw19.PhaseWaits': WHATEVER THE INPUT: true; the input reads as it did. -/
def phaseWaitsSpec : ChangeSpec := { name := "phaseWaits", fn := fun _ => fun
  | [d1, d2] => { results := [.lit (.bool true)], args := [d1, d2] }
  | _ => none }
def phaseWaitsRow : OpenClaim := { program := "ytjjeopanffcbiaa", sum := "371bf5a47d26257b5ed9accb29f151aa42ae03206997ba4be70c4550041ef34f", func := "locket/locketlaw19.PhaseWaits", spec := "phaseWaits", plainKeys := false, apart := false }
def PhaseWaitsSaid : Prop := phaseWaitsRow.holds Try.pinned (OpenSpec.ofChange phaseWaitsSpec)

/-- ITS FALSE NEIGHBOUR: 'it returns false'. Refute it at one input. -/
def phaseWaitsWrong : ChangeSpec := { name := "phaseWaits", fn := fun _ => fun
  | [d1, d2] => { results := [.lit (.bool false)], args := [d1, d2] }
  | _ => none }
def PhaseWaitsWrongFalsely : Prop := phaseWaitsRow.holds Try.pinned (OpenSpec.ofChange phaseWaitsWrong)

/-- 'locketlaw15.RegsOnce': WHATEVER THE INPUT: true; the input reads as it did. -/
def regsOnceSpec : ChangeSpec := { name := "regsOnce", fn := fun _ => fun
  | [d1, d2] => { results := [.lit (.bool true)], args := [d1, d2] }
  | _ => none }
def regsOnceRow : OpenClaim := { program := "ytjjeopanffcbiaa", sum := "371bf5a47d26257b5ed9accb29f151aa42ae03206997ba4be70c4550041ef34f", func := "locket/locketlaw15.RegsOnce", spec := "regsOnce", unfollowed := true, recurses := true, plainKeys := false, apart := false }
def RegsOnceSaid : Prop := regsOnceRow.holds Try.pinned (OpenSpec.ofChange regsOnceSpec)

/-- ITS FALSE NEIGHBOUR: 'it returns false'. Refute it at one input. -/
def regsOnceWrong : ChangeSpec := { name := "regsOnce", fn := fun _ => fun
  | [d1, d2] => { results := [.lit (.bool false)], args := [d1, d2] }
  | _ => none }
def RegsOnceWrongFalsely : Prop := regsOnceRow.holds Try.pinned (OpenSpec.ofChange regsOnceWrong)

/-- 'locketlaw15.RegsLoads': WHATEVER THE INPUT: true; the input reads as it did. -/
def regsLoadsSpec : ChangeSpec := { name := "regsLoads", fn := fun _ => fun
  | [d] => { results := [.lit (.bool true)], args := [d] }
  | _ => none }
def regsLoadsRow : OpenClaim := { program := "ytjjeopanffcbiaa", sum := "371bf5a47d26257b5ed9accb29f151aa42ae03206997ba4be70c4550041ef34f", func := "locket/locketlaw15.RegsLoads", spec := "regsLoads", unfollowed := true, recurses := true, plainKeys := false, apart := false }
def RegsLoadsSaid : Prop := regsLoadsRow.holds Try.pinned (OpenSpec.ofChange regsLoadsSpec)

/-- ITS FALSE NEIGHBOUR: 'it returns false'. Refute it at one input. -/
def regsLoadsWrong : ChangeSpec := { name := "regsLoads", fn := fun _ => fun
  | [d] => { results := [.lit (.bool false)], args := [d] }
  | _ => none }
def RegsLoadsWrongFalsely : Prop := regsLoadsRow.holds Try.pinned (OpenSpec.ofChange regsLoadsWrong)

/-- 'locketlaw15.RegsPlays': WHATEVER THE INPUT: true; the input reads as it did. -/
def regsPlaysSpec : ChangeSpec := { name := "regsPlays", fn := fun _ => fun
  | [d] => { results := [.lit (.bool true)], args := [d] }
  | _ => none }
def regsPlaysRow : OpenClaim := { program := "ytjjeopanffcbiaa", sum := "371bf5a47d26257b5ed9accb29f151aa42ae03206997ba4be70c4550041ef34f", func := "locket/locketlaw15.RegsPlays", spec := "regsPlays", unfollowed := true, recurses := true, plainKeys := false, apart := false }
def RegsPlaysSaid : Prop := regsPlaysRow.holds Try.pinned (OpenSpec.ofChange regsPlaysSpec)

/-- ITS FALSE NEIGHBOUR: 'it returns false'. Refute it at one input. -/
def regsPlaysWrong : ChangeSpec := { name := "regsPlays", fn := fun _ => fun
  | [d] => { results := [.lit (.bool false)], args := [d] }
  | _ => none }
def RegsPlaysWrongFalsely : Prop := regsPlaysRow.holds Try.pinned (OpenSpec.ofChange regsPlaysWrong)

/- THE SECOND FORM. 'bulk': how many values and letters a reading holds, each counted each time it is reached (what is shared counts as often as it is met; a slice's spare places count too). A statement '..UptoSaid' is the law's where the arguments, and the package variables that the reading takes, are together of bulk at most 1048576: NARROWER than '..Said'. Prove '..Said' where nothing that the law and all that it calls make is longer than what came in: it says more and counts as full. Else prove '..UptoSaid'. A law counts once. -/
mutual
def uptoBulk {H : Type} : DataW H → Nat
  | .lit (.string bytes) => bytes.length + 1
  | .lit _ => 1
  | .nil => 1
  | .ptr d => uptoBulk d + 1
  | .slice elems spare => uptoBulkAll elems + uptoBulkAll spare + 1
  | .agg parts => uptoBulkAll parts + 1
  | .iface _ d => uptoBulk d + 1
  | .map entries => uptoBulkEntries entries + 1
  | .held _ => 1
def uptoBulkAll {H : Type} : List (DataW H) → Nat
  | [] => 0
  | d :: r => uptoBulk d + uptoBulkAll r
def uptoBulkEntries {H : Type} : List (Lit × DataW H) → Nat
  | [] => 0
  | x :: r => uptoBulkEntry x + uptoBulkEntries r
def uptoBulkEntry {H : Type} : Lit × DataW H → Nat
  | (.string bytes, d) => bytes.length + uptoBulk d + 1
  | (_, d) => uptoBulk d + 1
 end
def uptoSmall : (H : Type) → List (DataW H) → Bool := fun _ ds => decide (uptoBulkAll ds ≤ 1048576)
def OpenSpec.upto (s : _root_.Go.ChangeSpec) : _root_.Go.OpenSpec := { _root_.Go.OpenSpec.ofChange s with cond := some uptoSmall }

/-- 'locketlaw18.TokenReads', WHERE WHAT IT READS IS OF BULK AT MOST 1048576: true; the input reads as it did. -/
def tokenReadsUptoRow : OpenClaim := { program := "ytjjeopanffcbiaa", sum := "371bf5a47d26257b5ed9accb29f151aa42ae03206997ba4be70c4550041ef34f", func := "locket/locketlaw18.TokenReads", spec := "tokenReads", plainKeys := false, apart := false, narrowed := true }
def TokenReadsUptoSaid : Prop := tokenReadsUptoRow.holds Try.pinned (OpenSpec.upto tokenReadsSpec)

/-- 'locketlaw18.TokenJoins', WHERE WHAT IT READS IS OF BULK AT MOST 1048576: true; the input reads as it did. -/
def tokenJoinsUptoRow : OpenClaim := { program := "ytjjeopanffcbiaa", sum := "371bf5a47d26257b5ed9accb29f151aa42ae03206997ba4be70c4550041ef34f", func := "locket/locketlaw18.TokenJoins", spec := "tokenJoins", unfollowed := true, recurses := true, plainKeys := false, apart := false, narrowed := true }
def TokenJoinsUptoSaid : Prop := tokenJoinsUptoRow.holds Try.pinned (OpenSpec.upto tokenJoinsSpec)

/-- 'locketlaw19.PhaseNext', WHERE WHAT IT READS IS OF BULK AT MOST 1048576: true; the input reads as it did. -/
def phaseNextUptoRow : OpenClaim := { program := "ytjjeopanffcbiaa", sum := "371bf5a47d26257b5ed9accb29f151aa42ae03206997ba4be70c4550041ef34f", func := "locket/locketlaw19.PhaseNext", spec := "phaseNext", plainKeys := false, apart := false, narrowed := true }
def PhaseNextUptoSaid : Prop := phaseNextUptoRow.holds Try.pinned (OpenSpec.upto phaseNextSpec)

/-- 'locketlaw15.RegsBits', WHERE WHAT IT READS IS OF BULK AT MOST 1048576: true; the input reads as it did. -/
def regsBitsUptoRow : OpenClaim := { program := "ytjjeopanffcbiaa", sum := "371bf5a47d26257b5ed9accb29f151aa42ae03206997ba4be70c4550041ef34f", func := "locket/locketlaw15.RegsBits", spec := "regsBits", unfollowed := true, recurses := true, plainKeys := false, apart := false, narrowed := true }
def RegsBitsUptoSaid : Prop := regsBitsUptoRow.holds Try.pinned (OpenSpec.upto regsBitsSpec)

/-- 'locketlaw19.PhaseIdle', WHERE WHAT IT READS IS OF BULK AT MOST 1048576: true; the input reads as it did. -/
def phaseIdleUptoRow : OpenClaim := { program := "ytjjeopanffcbiaa", sum := "371bf5a47d26257b5ed9accb29f151aa42ae03206997ba4be70c4550041ef34f", func := "locket/locketlaw19.PhaseIdle", spec := "phaseIdle", plainKeys := false, apart := false, narrowed := true }
def PhaseIdleUptoSaid : Prop := phaseIdleUptoRow.holds Try.pinned (OpenSpec.upto phaseIdleSpec)

/-- 'locketlaw7.GeomBytes', WHERE WHAT IT READS IS OF BULK AT MOST 1048576: true; the input reads as it did. -/
def geomBytesUptoRow : OpenClaim := { program := "ytjjeopanffcbiaa", sum := "371bf5a47d26257b5ed9accb29f151aa42ae03206997ba4be70c4550041ef34f", func := "locket/locketlaw7.GeomBytes", spec := "geomBytes", unfollowed := true, recurses := true, plainKeys := false, apart := false, narrowed := true }
def GeomBytesUptoSaid : Prop := geomBytesUptoRow.holds Try.pinned (OpenSpec.upto geomBytesSpec)

/-- 'locketlaw8.WearPicks', WHERE WHAT IT READS IS OF BULK AT MOST 1048576: true; the input reads as it did. -/
def wearPicksUptoRow : OpenClaim := { program := "ytjjeopanffcbiaa", sum := "371bf5a47d26257b5ed9accb29f151aa42ae03206997ba4be70c4550041ef34f", func := "locket/locketlaw8.WearPicks", spec := "wearPicks", unfollowed := true, recurses := true, plainKeys := false, apart := false, narrowed := true }
def WearPicksUptoSaid : Prop := wearPicksUptoRow.holds Try.pinned (OpenSpec.upto wearPicksSpec)

/-- 'locketlaw19.PhasePlays', WHERE WHAT IT READS IS OF BULK AT MOST 1048576: true; the input reads as it did. -/
def phasePlaysUptoRow : OpenClaim := { program := "ytjjeopanffcbiaa", sum := "371bf5a47d26257b5ed9accb29f151aa42ae03206997ba4be70c4550041ef34f", func := "locket/locketlaw19.PhasePlays", spec := "phasePlays", plainKeys := false, apart := false, narrowed := true }
def PhasePlaysUptoSaid : Prop := phasePlaysUptoRow.holds Try.pinned (OpenSpec.upto phasePlaysSpec)

/-- 'locketlaw19.PhaseWaits', WHERE WHAT IT READS IS OF BULK AT MOST 1048576: true; the input reads as it did. -/
def phaseWaitsUptoRow : OpenClaim := { program := "ytjjeopanffcbiaa", sum := "371bf5a47d26257b5ed9accb29f151aa42ae03206997ba4be70c4550041ef34f", func := "locket/locketlaw19.PhaseWaits", spec := "phaseWaits", plainKeys := false, apart := false, narrowed := true }
def PhaseWaitsUptoSaid : Prop := phaseWaitsUptoRow.holds Try.pinned (OpenSpec.upto phaseWaitsSpec)

/-- 'locketlaw15.RegsOnce', WHERE WHAT IT READS IS OF BULK AT MOST 1048576: true; the input reads as it did. -/
def regsOnceUptoRow : OpenClaim := { program := "ytjjeopanffcbiaa", sum := "371bf5a47d26257b5ed9accb29f151aa42ae03206997ba4be70c4550041ef34f", func := "locket/locketlaw15.RegsOnce", spec := "regsOnce", unfollowed := true, recurses := true, plainKeys := false, apart := false, narrowed := true }
def RegsOnceUptoSaid : Prop := regsOnceUptoRow.holds Try.pinned (OpenSpec.upto regsOnceSpec)

/-- 'locketlaw15.RegsLoads', WHERE WHAT IT READS IS OF BULK AT MOST 1048576: true; the input reads as it did. -/
def regsLoadsUptoRow : OpenClaim := { program := "ytjjeopanffcbiaa", sum := "371bf5a47d26257b5ed9accb29f151aa42ae03206997ba4be70c4550041ef34f", func := "locket/locketlaw15.RegsLoads", spec := "regsLoads", unfollowed := true, recurses := true, plainKeys := false, apart := false, narrowed := true }
def RegsLoadsUptoSaid : Prop := regsLoadsUptoRow.holds Try.pinned (OpenSpec.upto regsLoadsSpec)

/-- 'locketlaw15.RegsPlays', WHERE WHAT IT READS IS OF BULK AT MOST 1048576: true; the input reads as it did. -/
def regsPlaysUptoRow : OpenClaim := { program := "ytjjeopanffcbiaa", sum := "371bf5a47d26257b5ed9accb29f151aa42ae03206997ba4be70c4550041ef34f", func := "locket/locketlaw15.RegsPlays", spec := "regsPlays", unfollowed := true, recurses := true, plainKeys := false, apart := false, narrowed := true }
def RegsPlaysUptoSaid : Prop := regsPlaysUptoRow.holds Try.pinned (OpenSpec.upto regsPlaysSpec)

end Rows
end Go.Proofs.Ytjjeopanffcbiaa
