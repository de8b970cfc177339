/-
  DERIVED. GIVEN WITH THE SEED: THE CARDS: each row of YtfefjabdfelhnaaDoorRows.lean that lists a variable, with what it lists TIED to the program's text (the seventh form; the later family's looks); each row that meets fmt, with fmt's text TOLD by the authors' own Lean function (tested against real Go, not proved from fmt's source: count such statements apart). THE CARD IS WHAT COUNTS. Prove the row's statement (the work); the ties are given (YtfefjabdfelhnaaDoorTie.lean); close each card by the builder's one call (the guide's Derived/Test/ToyasCard.lean, 'card_holds'). Laid BY PROGRAM, IN A SANDBOX (cutbox-door.mjs). By AI agents, Wed Nov 11 2026. No macro, syntax, notation, axiom, sorry.
-/
import Derived.Test.YtfefjabdfelhnaaDoorRows
import GoSem.ClaimSeven
namespace Go.Proofs.YtfefjabdfelhnaaDoor
namespace Rows

/-- THE TIED CARD OF 'locketlaw2.EccRows'. -/
def eccRowsCard : Claim7 := { stood := { row := eccRowsRow, standIns := [], harness := (true, "d2321498bfb9fb945c7d8b4d0ab4e0b3f50e40ea75ceafca856a948dbaa25a03"), looks := false }, kinds := [], alts := [], laidByText := true, laidKinds := [.data], laidTests := true, laidLooks := .later }
def EccRowsCardSaid : Prop := Claim7.holds Tryd.pinned (.plain (OpenSpec.ofChange eccRowsSpec)) eccRowsCard

/-- THE TIED CARD OF 'locketlaw2.EccRowMends'. -/
def eccRowMendsCard : Claim7 := { stood := { row := eccRowMendsRow, standIns := [], harness := (true, "d2321498bfb9fb945c7d8b4d0ab4e0b3f50e40ea75ceafca856a948dbaa25a03"), looks := false }, kinds := [], alts := [], laidByText := true, laidKinds := [.data], laidTests := true, laidLooks := .later }
def EccRowMendsCardSaid : Prop := Claim7.holds Tryd.pinned (.plain (OpenSpec.ofChange eccRowMendsSpec)) eccRowMendsCard

/-- THE TIED CARD OF 'locketlaw5.PageReads'. -/
def pageReadsCard : Claim7 := { stood := { row := pageReadsRow, standIns := [], harness := (true, "d2321498bfb9fb945c7d8b4d0ab4e0b3f50e40ea75ceafca856a948dbaa25a03"), looks := false }, kinds := [], alts := [], laidByText := true, laidKinds := [.data], laidTests := true, laidLooks := .later }
def PageReadsCardSaid : Prop := Claim7.holds Tryd.pinned (.plain (OpenSpec.ofChange pageReadsSpec)) pageReadsCard

/-- THE TIED CARD OF 'locketlaw5.PageMends'. -/
def pageMendsCard : Claim7 := { stood := { row := pageMendsRow, standIns := [], harness := (true, "d2321498bfb9fb945c7d8b4d0ab4e0b3f50e40ea75ceafca856a948dbaa25a03"), looks := false }, kinds := [], alts := [], laidByText := true, laidKinds := [.data], laidTests := true, laidLooks := .later }
def PageMendsCardSaid : Prop := Claim7.holds Tryd.pinned (.plain (OpenSpec.ofChange pageMendsSpec)) pageMendsCard

/-- THE TIED CARD OF 'locketlaw5.PageCuts'. -/
def pageCutsCard : Claim7 := { stood := { row := pageCutsRow, standIns := [], harness := (true, "d2321498bfb9fb945c7d8b4d0ab4e0b3f50e40ea75ceafca856a948dbaa25a03"), looks := false }, kinds := [], alts := [], laidByText := true, laidKinds := [.data], laidTests := true, laidLooks := .later }
def PageCutsCardSaid : Prop := Claim7.holds Tryd.pinned (.plain (OpenSpec.ofChange pageCutsSpec)) pageCutsCard

/-- THE TIED CARD OF 'locketlaw5.PagePads'. -/
def pagePadsCard : Claim7 := { stood := { row := pagePadsRow, standIns := [], harness := (true, "d2321498bfb9fb945c7d8b4d0ab4e0b3f50e40ea75ceafca856a948dbaa25a03"), looks := false }, kinds := [], alts := [], laidByText := true, laidKinds := [.data], laidTests := true, laidLooks := .later }
def PagePadsCardSaid : Prop := Claim7.holds Tryd.pinned (.plain (OpenSpec.ofChange pagePadsSpec)) pagePadsCard

/-- THE SECOND FORM's CARD OF 'locketlaw2.EccRows'. -/
def eccRowsUptoCard : Claim7 := { stood := { row := eccRowsUptoRow, standIns := [], harness := (true, "d2321498bfb9fb945c7d8b4d0ab4e0b3f50e40ea75ceafca856a948dbaa25a03"), looks := false }, kinds := [], alts := [], laidByText := true, laidKinds := [.data], laidTests := true, laidLooks := .later }
def EccRowsUptoCardSaid : Prop := Claim7.holds Tryd.pinned (.plain (OpenSpec.upto eccRowsSpec)) eccRowsUptoCard

/-- THE SECOND FORM's CARD OF 'locketlaw2.EccRowMends'. -/
def eccRowMendsUptoCard : Claim7 := { stood := { row := eccRowMendsUptoRow, standIns := [], harness := (true, "d2321498bfb9fb945c7d8b4d0ab4e0b3f50e40ea75ceafca856a948dbaa25a03"), looks := false }, kinds := [], alts := [], laidByText := true, laidKinds := [.data], laidTests := true, laidLooks := .later }
def EccRowMendsUptoCardSaid : Prop := Claim7.holds Tryd.pinned (.plain (OpenSpec.upto eccRowMendsSpec)) eccRowMendsUptoCard

/-- THE SECOND FORM's CARD OF 'locketlaw5.PageReads'. -/
def pageReadsUptoCard : Claim7 := { stood := { row := pageReadsUptoRow, standIns := [], harness := (true, "d2321498bfb9fb945c7d8b4d0ab4e0b3f50e40ea75ceafca856a948dbaa25a03"), looks := false }, kinds := [], alts := [], laidByText := true, laidKinds := [.data], laidTests := true, laidLooks := .later }
def PageReadsUptoCardSaid : Prop := Claim7.holds Tryd.pinned (.plain (OpenSpec.upto pageReadsSpec)) pageReadsUptoCard

/-- THE SECOND FORM's CARD OF 'locketlaw5.PageMends'. -/
def pageMendsUptoCard : Claim7 := { stood := { row := pageMendsUptoRow, standIns := [], harness := (true, "d2321498bfb9fb945c7d8b4d0ab4e0b3f50e40ea75ceafca856a948dbaa25a03"), looks := false }, kinds := [], alts := [], laidByText := true, laidKinds := [.data], laidTests := true, laidLooks := .later }
def PageMendsUptoCardSaid : Prop := Claim7.holds Tryd.pinned (.plain (OpenSpec.upto pageMendsSpec)) pageMendsUptoCard

/-- THE SECOND FORM's CARD OF 'locketlaw5.PageCuts'. -/
def pageCutsUptoCard : Claim7 := { stood := { row := pageCutsUptoRow, standIns := [], harness := (true, "d2321498bfb9fb945c7d8b4d0ab4e0b3f50e40ea75ceafca856a948dbaa25a03"), looks := false }, kinds := [], alts := [], laidByText := true, laidKinds := [.data], laidTests := true, laidLooks := .later }
def PageCutsUptoCardSaid : Prop := Claim7.holds Tryd.pinned (.plain (OpenSpec.upto pageCutsSpec)) pageCutsUptoCard

/-- THE SECOND FORM's CARD OF 'locketlaw5.PagePads'. -/
def pagePadsUptoCard : Claim7 := { stood := { row := pagePadsUptoRow, standIns := [], harness := (true, "d2321498bfb9fb945c7d8b4d0ab4e0b3f50e40ea75ceafca856a948dbaa25a03"), looks := false }, kinds := [], alts := [], laidByText := true, laidKinds := [.data], laidTests := true, laidLooks := .later }
def PagePadsUptoCardSaid : Prop := Claim7.holds Tryd.pinned (.plain (OpenSpec.upto pagePadsSpec)) pagePadsUptoCard
end Rows
end Go.Proofs.YtfefjabdfelhnaaDoor
