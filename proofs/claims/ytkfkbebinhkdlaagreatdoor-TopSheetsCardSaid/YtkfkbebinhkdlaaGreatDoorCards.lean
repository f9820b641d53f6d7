/-
  DERIVED. GIVEN WITH THE SEED: THE CARDS: each row of YtkfkbebinhkdlaaGreatDoorRows.lean that lists a variable, with what it lists TIED to the program's text (the seventh form; the later family's looks); each row that meets fmt, with fmt's text TOLD by the authors' own Lean function (tested against real Go, not proved from fmt's source: count such statements apart). THE CARD IS WHAT COUNTS. Prove the row's statement (the work); the ties are given (YtkfkbebinhkdlaaGreatDoorTie.lean); close each card by the builder's one call (the guide's Derived/Test/ToyasCard.lean, 'card_holds'). Laid BY PROGRAM, IN A SANDBOX (cutbox-door.mjs). By AI agents, Wed Nov 11 2026. No macro, syntax, notation, axiom, sorry.
-/
import Derived.Test.YtkfkbebinhkdlaaGreatDoorRows
import GoSem.ClaimSeven
namespace Go.Proofs.YtkfkbebinhkdlaaGreatDoor
namespace Rows

/-- THE TIED CARD OF 'headwordtop.TopSheets'. -/
def topSheetsCard : Claim7 := { stood := { row := topSheetsRow, standIns := [], harness := (true, "50bbc867b87c12bbcce5adb75e9370e8d566b1f11b34106fdbc5dede74f08446"), looks := false }, kinds := [], alts := [], laidByText := true, laidKinds := [.data, .data, .data], laidTests := true, laidLooks := .later }
def TopSheetsCardSaid : Prop := Claim7.holds Tryz.pinned (.plain (OpenSpec.ofChange topSheetsSpec)) topSheetsCard

/-- THE TIED CARD OF 'headwordtop.TopChains'. -/
def topChainsCard : Claim7 := { stood := { row := topChainsRow, standIns := [], harness := (true, "50bbc867b87c12bbcce5adb75e9370e8d566b1f11b34106fdbc5dede74f08446"), looks := false }, kinds := [], alts := [], laidByText := true, laidKinds := [.data, .data, .data], laidTests := true, laidLooks := .later }
def TopChainsCardSaid : Prop := Claim7.holds Tryz.pinned (.plain (OpenSpec.ofChange topChainsSpec)) topChainsCard

/-- THE SECOND FORM's CARD OF 'headwordtop.TopSheets'. -/
def topSheetsUptoCard : Claim7 := { stood := { row := topSheetsUptoRow, standIns := [], harness := (true, "50bbc867b87c12bbcce5adb75e9370e8d566b1f11b34106fdbc5dede74f08446"), looks := false }, kinds := [], alts := [], laidByText := true, laidKinds := [.data, .data, .data], laidTests := true, laidLooks := .later }
def TopSheetsUptoCardSaid : Prop := Claim7.holds Tryz.pinned (.plain (OpenSpec.upto topSheetsSpec)) topSheetsUptoCard

/-- THE SECOND FORM's CARD OF 'headwordtop.TopChains'. -/
def topChainsUptoCard : Claim7 := { stood := { row := topChainsUptoRow, standIns := [], harness := (true, "50bbc867b87c12bbcce5adb75e9370e8d566b1f11b34106fdbc5dede74f08446"), looks := false }, kinds := [], alts := [], laidByText := true, laidKinds := [.data, .data, .data], laidTests := true, laidLooks := .later }
def TopChainsUptoCardSaid : Prop := Claim7.holds Tryz.pinned (.plain (OpenSpec.upto topChainsSpec)) topChainsUptoCard
end Rows
end Go.Proofs.YtkfkbebinhkdlaaGreatDoor
