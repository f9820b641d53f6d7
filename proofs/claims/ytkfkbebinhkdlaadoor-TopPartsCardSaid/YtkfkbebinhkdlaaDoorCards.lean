/-
  DERIVED. GIVEN WITH THE SEED: THE CARDS: each row of YtkfkbebinhkdlaaDoorRows.lean that lists a variable, with what it lists TIED to the program's text (the seventh form; the later family's looks); each row that meets fmt, with fmt's text TOLD by the authors' own Lean function (tested against real Go, not proved from fmt's source: count such statements apart). THE CARD IS WHAT COUNTS. Prove the row's statement (the work); the ties are given (YtkfkbebinhkdlaaDoorTie.lean); close each card by the builder's one call (the guide's Derived/Test/ToyasCard.lean, 'card_holds'). Laid BY PROGRAM, IN A SANDBOX (cutbox-door.mjs). By AI agents, Wed Nov 11 2026. No macro, syntax, notation, axiom, sorry.
-/
import Derived.Test.YtkfkbebinhkdlaaDoorRows
import GoSem.ClaimSeven
namespace Go.Proofs.YtkfkbebinhkdlaaDoor
namespace Rows

/-- THE TIED CARD OF 'headwordtop.TopParts'. -/
def topPartsCard : Claim7 := { stood := { row := topPartsRow, standIns := [], harness := (true, "8820e409831485ac6dc7d1cc14e2e2a2dde494c8043dd54eff90b878ba994e21"), looks := true }, kinds := [], alts := [], laidByText := true, laidKinds := [.data, .data], laidTests := true, laidLooks := .later }
def TopPartsCardSaid : Prop := Claim7.holds Tryd.pinned (.plain (OpenSpec.ofChange topPartsSpec)) topPartsCard

/-- THE TIED CARD OF 'headwordtop.TopRooms'. -/
def topRoomsCard : Claim7 := { stood := { row := topRoomsRow, standIns := [], harness := (true, "8820e409831485ac6dc7d1cc14e2e2a2dde494c8043dd54eff90b878ba994e21"), looks := true }, kinds := [], alts := [], laidByText := true, laidKinds := [.data, .data], laidTests := true, laidLooks := .later }
def TopRoomsCardSaid : Prop := Claim7.holds Tryd.pinned (.plain (OpenSpec.ofChange topRoomsSpec)) topRoomsCard

/-- THE TIED CARD OF 'headwordtop.TopBoxes'. -/
def topBoxesCard : Claim7 := { stood := { row := topBoxesRow, standIns := [], harness := (true, "8820e409831485ac6dc7d1cc14e2e2a2dde494c8043dd54eff90b878ba994e21"), looks := true }, kinds := [], alts := [], laidByText := true, laidKinds := [.data, .data], laidTests := true, laidLooks := .later }
def TopBoxesCardSaid : Prop := Claim7.holds Tryd.pinned (.plain (OpenSpec.ofChange topBoxesSpec)) topBoxesCard

/-- THE TIED CARD OF 'headwordtop.TopPiled'. -/
def topPiledCard : Claim7 := { stood := { row := topPiledRow, standIns := [], harness := (true, "8820e409831485ac6dc7d1cc14e2e2a2dde494c8043dd54eff90b878ba994e21"), looks := true }, kinds := [], alts := [], laidByText := true, laidKinds := [.data, .data, .data, .pinned], laidTests := true, laidLooks := .later }
def TopPiledCardSaid : Prop := Claim7.holds Tryd.pinned (.plain (OpenSpec.ofChange topPiledSpec)) topPiledCard

/-- THE TIED CARD OF 'headwordtop.TopSums'. -/
def topSumsCard : Claim7 := { stood := { row := topSumsRow, standIns := [], harness := (true, "8820e409831485ac6dc7d1cc14e2e2a2dde494c8043dd54eff90b878ba994e21"), looks := true }, kinds := [], alts := [], laidByText := true, laidKinds := [.data, .data], laidTests := true, laidLooks := .later }
def TopSumsCardSaid : Prop := Claim7.holds Tryd.pinned (.plain (OpenSpec.ofChange topSumsSpec)) topSumsCard

/-- THE SECOND FORM's CARD OF 'headwordtop.TopParts'. -/
def topPartsUptoCard : Claim7 := { stood := { row := topPartsUptoRow, standIns := [], harness := (true, "8820e409831485ac6dc7d1cc14e2e2a2dde494c8043dd54eff90b878ba994e21"), looks := true }, kinds := [], alts := [], laidByText := true, laidKinds := [.data, .data], laidTests := true, laidLooks := .later }
def TopPartsUptoCardSaid : Prop := Claim7.holds Tryd.pinned (.plain (OpenSpec.upto topPartsSpec)) topPartsUptoCard

/-- THE SECOND FORM's CARD OF 'headwordtop.TopRooms'. -/
def topRoomsUptoCard : Claim7 := { stood := { row := topRoomsUptoRow, standIns := [], harness := (true, "8820e409831485ac6dc7d1cc14e2e2a2dde494c8043dd54eff90b878ba994e21"), looks := true }, kinds := [], alts := [], laidByText := true, laidKinds := [.data, .data], laidTests := true, laidLooks := .later }
def TopRoomsUptoCardSaid : Prop := Claim7.holds Tryd.pinned (.plain (OpenSpec.upto topRoomsSpec)) topRoomsUptoCard

/-- THE SECOND FORM's CARD OF 'headwordtop.TopBoxes'. -/
def topBoxesUptoCard : Claim7 := { stood := { row := topBoxesUptoRow, standIns := [], harness := (true, "8820e409831485ac6dc7d1cc14e2e2a2dde494c8043dd54eff90b878ba994e21"), looks := true }, kinds := [], alts := [], laidByText := true, laidKinds := [.data, .data], laidTests := true, laidLooks := .later }
def TopBoxesUptoCardSaid : Prop := Claim7.holds Tryd.pinned (.plain (OpenSpec.upto topBoxesSpec)) topBoxesUptoCard

/-- THE SECOND FORM's CARD OF 'headwordtop.TopPiled'. -/
def topPiledUptoCard : Claim7 := { stood := { row := topPiledUptoRow, standIns := [], harness := (true, "8820e409831485ac6dc7d1cc14e2e2a2dde494c8043dd54eff90b878ba994e21"), looks := true }, kinds := [], alts := [], laidByText := true, laidKinds := [.data, .data, .data, .pinned], laidTests := true, laidLooks := .later }
def TopPiledUptoCardSaid : Prop := Claim7.holds Tryd.pinned (.plain (OpenSpec.upto topPiledSpec)) topPiledUptoCard

/-- THE SECOND FORM's CARD OF 'headwordtop.TopSums'. -/
def topSumsUptoCard : Claim7 := { stood := { row := topSumsUptoRow, standIns := [], harness := (true, "8820e409831485ac6dc7d1cc14e2e2a2dde494c8043dd54eff90b878ba994e21"), looks := true }, kinds := [], alts := [], laidByText := true, laidKinds := [.data, .data], laidTests := true, laidLooks := .later }
def TopSumsUptoCardSaid : Prop := Claim7.holds Tryd.pinned (.plain (OpenSpec.upto topSumsSpec)) topSumsUptoCard
end Rows
end Go.Proofs.YtkfkbebinhkdlaaDoor
