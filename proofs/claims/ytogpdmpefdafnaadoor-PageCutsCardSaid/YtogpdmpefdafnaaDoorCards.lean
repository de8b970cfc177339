/-
  DERIVED. GIVEN WITH THE SEED: THE CARDS: each row of YtogpdmpefdafnaaDoorRows.lean that lists a variable, with what it lists TIED to the program's text (the seventh form; the later family's looks); each row that meets fmt, with fmt's text TOLD by the authors' own Lean function (tested against real Go, not proved from fmt's source: count such statements apart). THE CARD IS WHAT COUNTS. Prove the row's statement (the work); the ties are given (YtogpdmpefdafnaaDoorTie.lean); close each card by the builder's one call (the guide's Derived/Test/ToyasCard.lean, 'card_holds'). Laid BY PROGRAM, IN A SANDBOX (cutbox-door.mjs). By AI agents, Wed Nov 11 2026. No macro, syntax, notation, axiom, sorry.
-/
import Derived.Test.YtogpdmpefdafnaaDoorRows
import GoSem.ClaimSeven
namespace Go.Proofs.YtogpdmpefdafnaaDoor
namespace Rows

/-- THE TIED CARD OF 'locketlaw5.PageMends'. -/
def pageMendsCard : Claim7 := { stood := { row := pageMendsRow, standIns := [], harness := (true, "7a68be9ecc3b5406cf13d540330d8b8d1e75dd4b7138e6915c9b020d57c5f2c0"), looks := false }, kinds := [], alts := [], laidByText := true, laidKinds := [.data], laidTests := true, laidLooks := .later }
def PageMendsCardSaid : Prop := Claim7.holds Tryd.pinned (.plain (OpenSpec.ofChange pageMendsSpec)) pageMendsCard

/-- THE TIED CARD OF 'locketlaw5.PageCuts'. -/
def pageCutsCard : Claim7 := { stood := { row := pageCutsRow, standIns := [], harness := (true, "7a68be9ecc3b5406cf13d540330d8b8d1e75dd4b7138e6915c9b020d57c5f2c0"), looks := false }, kinds := [], alts := [], laidByText := true, laidKinds := [.data], laidTests := true, laidLooks := .later }
def PageCutsCardSaid : Prop := Claim7.holds Tryd.pinned (.plain (OpenSpec.ofChange pageCutsSpec)) pageCutsCard

/-- THE SECOND FORM's CARD OF 'locketlaw5.PageMends'. -/
def pageMendsUptoCard : Claim7 := { stood := { row := pageMendsUptoRow, standIns := [], harness := (true, "7a68be9ecc3b5406cf13d540330d8b8d1e75dd4b7138e6915c9b020d57c5f2c0"), looks := false }, kinds := [], alts := [], laidByText := true, laidKinds := [.data], laidTests := true, laidLooks := .later }
def PageMendsUptoCardSaid : Prop := Claim7.holds Tryd.pinned (.plain (OpenSpec.upto pageMendsSpec)) pageMendsUptoCard

/-- THE SECOND FORM's CARD OF 'locketlaw5.PageCuts'. -/
def pageCutsUptoCard : Claim7 := { stood := { row := pageCutsUptoRow, standIns := [], harness := (true, "7a68be9ecc3b5406cf13d540330d8b8d1e75dd4b7138e6915c9b020d57c5f2c0"), looks := false }, kinds := [], alts := [], laidByText := true, laidKinds := [.data], laidTests := true, laidLooks := .later }
def PageCutsUptoCardSaid : Prop := Claim7.holds Tryd.pinned (.plain (OpenSpec.upto pageCutsSpec)) pageCutsUptoCard
end Rows
end Go.Proofs.YtogpdmpefdafnaaDoor
