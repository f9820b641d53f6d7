/-
  DERIVED. GIVEN WITH THE SEED: THE CARDS: each row of YtgmonagekfjnmaaDoorRows.lean that lists a variable, with what it lists TIED to the program's text (the seventh form; the later family's looks); each row that meets fmt, with fmt's text TOLD by the authors' own Lean function (tested against real Go, not proved from fmt's source: count such statements apart). THE CARD IS WHAT COUNTS. Prove the row's statement (the work); the ties are given (YtgmonagekfjnmaaDoorTie.lean); close each card by the builder's one call (the guide's Derived/Test/ToyasCard.lean, 'card_holds'). Laid BY PROGRAM, IN A SANDBOX (cutbox-door.mjs). By AI agents, Wed Nov 11 2026. No macro, syntax, notation, axiom, sorry.
-/
import Derived.Test.YtgmonagekfjnmaaDoorRows
import GoSem.ClaimSeven
namespace Go.Proofs.YtgmonagekfjnmaaDoor
namespace Rows

/-- THE TIED CARD OF 'headwordlaw09.SheetPlans'. -/
def sheetPlansCard : Claim7 := { stood := { row := sheetPlansRow, standIns := [], harness := (true, "840c485b999cbaa68443e014a5beddb2fd0b36fabf2df12c9a4f864b1d453cf6"), looks := false }, kinds := [], alts := [], laidByText := true, laidKinds := [.data], laidTests := true, laidLooks := .later }
def SheetPlansCardSaid : Prop := Claim7.holds Tryd.pinned (.plain (OpenSpec.ofChange sheetPlansSpec)) sheetPlansCard

/-- THE TIED CARD OF 'headwordlaw09.SheetFits'. -/
def sheetFitsCard : Claim7 := { stood := { row := sheetFitsRow, standIns := [], harness := (true, "840c485b999cbaa68443e014a5beddb2fd0b36fabf2df12c9a4f864b1d453cf6"), looks := false }, kinds := [], alts := [], laidByText := true, laidKinds := [.data], laidTests := true, laidLooks := .later }
def SheetFitsCardSaid : Prop := Claim7.holds Tryd.pinned (.plain (OpenSpec.ofChange sheetFitsSpec)) sheetFitsCard

/-- THE TIED CARD OF 'headwordlaw09.SheetFinds'. -/
def sheetFindsCard : Claim7 := { stood := { row := sheetFindsRow, standIns := [], harness := (true, "840c485b999cbaa68443e014a5beddb2fd0b36fabf2df12c9a4f864b1d453cf6"), looks := false }, kinds := [], alts := [], laidByText := true, laidKinds := [.data], laidTests := true, laidLooks := .later }
def SheetFindsCardSaid : Prop := Claim7.holds Tryd.pinned (.plain (OpenSpec.ofChange sheetFindsSpec)) sheetFindsCard

/-- THE TIED CARD OF 'headwordlaw09.SheetBounds'. -/
def sheetBoundsCard : Claim7 := { stood := { row := sheetBoundsRow, standIns := [], harness := (true, "840c485b999cbaa68443e014a5beddb2fd0b36fabf2df12c9a4f864b1d453cf6"), looks := false }, kinds := [], alts := [], laidByText := true, laidKinds := [.data], laidTests := true, laidLooks := .later }
def SheetBoundsCardSaid : Prop := Claim7.holds Tryd.pinned (.plain (OpenSpec.ofChange sheetBoundsSpec)) sheetBoundsCard

/-- THE TIED CARD OF 'headwordlaw09.SheetChained'. -/
def sheetChainedCard : Claim7 := { stood := { row := sheetChainedRow, standIns := [], harness := (true, "840c485b999cbaa68443e014a5beddb2fd0b36fabf2df12c9a4f864b1d453cf6"), looks := false }, kinds := [], alts := [], laidByText := true, laidKinds := [.data], laidTests := true, laidLooks := .later }
def SheetChainedCardSaid : Prop := Claim7.holds Tryd.pinned (.plain (OpenSpec.ofChange sheetChainedSpec)) sheetChainedCard

/-- THE TIED CARD OF 'headwordlaw09.SheetTried'. -/
def sheetTriedCard : Claim7 := { stood := { row := sheetTriedRow, standIns := [], harness := (true, "840c485b999cbaa68443e014a5beddb2fd0b36fabf2df12c9a4f864b1d453cf6"), looks := false }, kinds := [], alts := [], laidByText := true, laidKinds := [.data], laidTests := true, laidLooks := .later }
def SheetTriedCardSaid : Prop := Claim7.holds Tryd.pinned (.plain (OpenSpec.ofChange sheetTriedSpec)) sheetTriedCard

/-- THE TIED CARD OF 'headwordlaw09.SheetAny'. -/
def sheetAnyCard : Claim7 := { stood := { row := sheetAnyRow, standIns := [], harness := (true, "840c485b999cbaa68443e014a5beddb2fd0b36fabf2df12c9a4f864b1d453cf6"), looks := false }, kinds := [], alts := [], laidByText := true, laidKinds := [.data], laidTests := true, laidLooks := .later }
def SheetAnyCardSaid : Prop := Claim7.holds Tryd.pinned (.plain (OpenSpec.ofChange sheetAnySpec)) sheetAnyCard

/-- THE TIED CARD OF 'headwordlaw09.SheetBound'. -/
def sheetBoundCard : Claim7 := { stood := { row := sheetBoundRow, standIns := [], harness := (true, "840c485b999cbaa68443e014a5beddb2fd0b36fabf2df12c9a4f864b1d453cf6"), looks := false }, kinds := [], alts := [], laidByText := true, laidKinds := [.data], laidTests := true, laidLooks := .later }
def SheetBoundCardSaid : Prop := Claim7.holds Tryd.pinned (.plain (OpenSpec.ofChange sheetBoundSpec)) sheetBoundCard

/-- THE TIED CARD OF 'headwordlaw09.SheetNamed'. -/
def sheetNamedCard : Claim7 := { stood := { row := sheetNamedRow, standIns := [], harness := (true, "840c485b999cbaa68443e014a5beddb2fd0b36fabf2df12c9a4f864b1d453cf6"), looks := false }, kinds := [], alts := [], laidByText := true, laidKinds := [.data], laidTests := true, laidLooks := .later }
def SheetNamedCardSaid : Prop := Claim7.holds Tryd.pinned (.plain (OpenSpec.ofChange sheetNamedSpec)) sheetNamedCard

/-- THE TIED CARD OF 'headwordlaw09.SheetMore'. -/
def sheetMoreCard : Claim7 := { stood := { row := sheetMoreRow, standIns := [], harness := (true, "840c485b999cbaa68443e014a5beddb2fd0b36fabf2df12c9a4f864b1d453cf6"), looks := false }, kinds := [], alts := [], laidByText := true, laidKinds := [.data], laidTests := true, laidLooks := .later }
def SheetMoreCardSaid : Prop := Claim7.holds Tryd.pinned (.plain (OpenSpec.ofChange sheetMoreSpec)) sheetMoreCard

/-- THE TIED CARD OF 'headwordlaw09.SheetKnown'. -/
def sheetKnownCard : Claim7 := { stood := { row := sheetKnownRow, standIns := [], harness := (true, "840c485b999cbaa68443e014a5beddb2fd0b36fabf2df12c9a4f864b1d453cf6"), looks := false }, kinds := [], alts := [], laidByText := true, laidKinds := [.data], laidTests := true, laidLooks := .later }
def SheetKnownCardSaid : Prop := Claim7.holds Tryd.pinned (.plain (OpenSpec.ofChange sheetKnownSpec)) sheetKnownCard

/-- THE TIED CARD OF 'headwordlaw09.SheetShown'. -/
def sheetShownCard : Claim7 := { stood := { row := sheetShownRow, standIns := [], harness := (true, "840c485b999cbaa68443e014a5beddb2fd0b36fabf2df12c9a4f864b1d453cf6"), looks := false }, kinds := [], alts := [], laidByText := true, laidKinds := [.data], laidTests := true, laidLooks := .later }
def SheetShownCardSaid : Prop := Claim7.holds Tryd.pinned (.plain (OpenSpec.ofChange sheetShownSpec)) sheetShownCard

/-- THE TIED CARD OF 'headwordlaw09.SheetGroups'. -/
def sheetGroupsCard : Claim7 := { stood := { row := sheetGroupsRow, standIns := [], harness := (true, "840c485b999cbaa68443e014a5beddb2fd0b36fabf2df12c9a4f864b1d453cf6"), looks := false }, kinds := [], alts := [], laidByText := true, laidKinds := [.data], laidTests := true, laidLooks := .later }
def SheetGroupsCardSaid : Prop := Claim7.holds Tryd.pinned (.plain (OpenSpec.ofChange sheetGroupsSpec)) sheetGroupsCard

/-- THE SECOND FORM's CARD OF 'headwordlaw09.SheetPlans'. -/
def sheetPlansUptoCard : Claim7 := { stood := { row := sheetPlansUptoRow, standIns := [], harness := (true, "840c485b999cbaa68443e014a5beddb2fd0b36fabf2df12c9a4f864b1d453cf6"), looks := false }, kinds := [], alts := [], laidByText := true, laidKinds := [.data], laidTests := true, laidLooks := .later }
def SheetPlansUptoCardSaid : Prop := Claim7.holds Tryd.pinned (.plain (OpenSpec.upto sheetPlansSpec)) sheetPlansUptoCard

/-- THE SECOND FORM's CARD OF 'headwordlaw09.SheetFits'. -/
def sheetFitsUptoCard : Claim7 := { stood := { row := sheetFitsUptoRow, standIns := [], harness := (true, "840c485b999cbaa68443e014a5beddb2fd0b36fabf2df12c9a4f864b1d453cf6"), looks := false }, kinds := [], alts := [], laidByText := true, laidKinds := [.data], laidTests := true, laidLooks := .later }
def SheetFitsUptoCardSaid : Prop := Claim7.holds Tryd.pinned (.plain (OpenSpec.upto sheetFitsSpec)) sheetFitsUptoCard

/-- THE SECOND FORM's CARD OF 'headwordlaw09.SheetFinds'. -/
def sheetFindsUptoCard : Claim7 := { stood := { row := sheetFindsUptoRow, standIns := [], harness := (true, "840c485b999cbaa68443e014a5beddb2fd0b36fabf2df12c9a4f864b1d453cf6"), looks := false }, kinds := [], alts := [], laidByText := true, laidKinds := [.data], laidTests := true, laidLooks := .later }
def SheetFindsUptoCardSaid : Prop := Claim7.holds Tryd.pinned (.plain (OpenSpec.upto sheetFindsSpec)) sheetFindsUptoCard

/-- THE SECOND FORM's CARD OF 'headwordlaw09.SheetBounds'. -/
def sheetBoundsUptoCard : Claim7 := { stood := { row := sheetBoundsUptoRow, standIns := [], harness := (true, "840c485b999cbaa68443e014a5beddb2fd0b36fabf2df12c9a4f864b1d453cf6"), looks := false }, kinds := [], alts := [], laidByText := true, laidKinds := [.data], laidTests := true, laidLooks := .later }
def SheetBoundsUptoCardSaid : Prop := Claim7.holds Tryd.pinned (.plain (OpenSpec.upto sheetBoundsSpec)) sheetBoundsUptoCard

/-- THE SECOND FORM's CARD OF 'headwordlaw09.SheetChained'. -/
def sheetChainedUptoCard : Claim7 := { stood := { row := sheetChainedUptoRow, standIns := [], harness := (true, "840c485b999cbaa68443e014a5beddb2fd0b36fabf2df12c9a4f864b1d453cf6"), looks := false }, kinds := [], alts := [], laidByText := true, laidKinds := [.data], laidTests := true, laidLooks := .later }
def SheetChainedUptoCardSaid : Prop := Claim7.holds Tryd.pinned (.plain (OpenSpec.upto sheetChainedSpec)) sheetChainedUptoCard

/-- THE SECOND FORM's CARD OF 'headwordlaw09.SheetTried'. -/
def sheetTriedUptoCard : Claim7 := { stood := { row := sheetTriedUptoRow, standIns := [], harness := (true, "840c485b999cbaa68443e014a5beddb2fd0b36fabf2df12c9a4f864b1d453cf6"), looks := false }, kinds := [], alts := [], laidByText := true, laidKinds := [.data], laidTests := true, laidLooks := .later }
def SheetTriedUptoCardSaid : Prop := Claim7.holds Tryd.pinned (.plain (OpenSpec.upto sheetTriedSpec)) sheetTriedUptoCard

/-- THE SECOND FORM's CARD OF 'headwordlaw09.SheetAny'. -/
def sheetAnyUptoCard : Claim7 := { stood := { row := sheetAnyUptoRow, standIns := [], harness := (true, "840c485b999cbaa68443e014a5beddb2fd0b36fabf2df12c9a4f864b1d453cf6"), looks := false }, kinds := [], alts := [], laidByText := true, laidKinds := [.data], laidTests := true, laidLooks := .later }
def SheetAnyUptoCardSaid : Prop := Claim7.holds Tryd.pinned (.plain (OpenSpec.upto sheetAnySpec)) sheetAnyUptoCard

/-- THE SECOND FORM's CARD OF 'headwordlaw09.SheetBound'. -/
def sheetBoundUptoCard : Claim7 := { stood := { row := sheetBoundUptoRow, standIns := [], harness := (true, "840c485b999cbaa68443e014a5beddb2fd0b36fabf2df12c9a4f864b1d453cf6"), looks := false }, kinds := [], alts := [], laidByText := true, laidKinds := [.data], laidTests := true, laidLooks := .later }
def SheetBoundUptoCardSaid : Prop := Claim7.holds Tryd.pinned (.plain (OpenSpec.upto sheetBoundSpec)) sheetBoundUptoCard

/-- THE SECOND FORM's CARD OF 'headwordlaw09.SheetNamed'. -/
def sheetNamedUptoCard : Claim7 := { stood := { row := sheetNamedUptoRow, standIns := [], harness := (true, "840c485b999cbaa68443e014a5beddb2fd0b36fabf2df12c9a4f864b1d453cf6"), looks := false }, kinds := [], alts := [], laidByText := true, laidKinds := [.data], laidTests := true, laidLooks := .later }
def SheetNamedUptoCardSaid : Prop := Claim7.holds Tryd.pinned (.plain (OpenSpec.upto sheetNamedSpec)) sheetNamedUptoCard

/-- THE SECOND FORM's CARD OF 'headwordlaw09.SheetMore'. -/
def sheetMoreUptoCard : Claim7 := { stood := { row := sheetMoreUptoRow, standIns := [], harness := (true, "840c485b999cbaa68443e014a5beddb2fd0b36fabf2df12c9a4f864b1d453cf6"), looks := false }, kinds := [], alts := [], laidByText := true, laidKinds := [.data], laidTests := true, laidLooks := .later }
def SheetMoreUptoCardSaid : Prop := Claim7.holds Tryd.pinned (.plain (OpenSpec.upto sheetMoreSpec)) sheetMoreUptoCard

/-- THE SECOND FORM's CARD OF 'headwordlaw09.SheetKnown'. -/
def sheetKnownUptoCard : Claim7 := { stood := { row := sheetKnownUptoRow, standIns := [], harness := (true, "840c485b999cbaa68443e014a5beddb2fd0b36fabf2df12c9a4f864b1d453cf6"), looks := false }, kinds := [], alts := [], laidByText := true, laidKinds := [.data], laidTests := true, laidLooks := .later }
def SheetKnownUptoCardSaid : Prop := Claim7.holds Tryd.pinned (.plain (OpenSpec.upto sheetKnownSpec)) sheetKnownUptoCard

/-- THE SECOND FORM's CARD OF 'headwordlaw09.SheetShown'. -/
def sheetShownUptoCard : Claim7 := { stood := { row := sheetShownUptoRow, standIns := [], harness := (true, "840c485b999cbaa68443e014a5beddb2fd0b36fabf2df12c9a4f864b1d453cf6"), looks := false }, kinds := [], alts := [], laidByText := true, laidKinds := [.data], laidTests := true, laidLooks := .later }
def SheetShownUptoCardSaid : Prop := Claim7.holds Tryd.pinned (.plain (OpenSpec.upto sheetShownSpec)) sheetShownUptoCard

/-- THE SECOND FORM's CARD OF 'headwordlaw09.SheetGroups'. -/
def sheetGroupsUptoCard : Claim7 := { stood := { row := sheetGroupsUptoRow, standIns := [], harness := (true, "840c485b999cbaa68443e014a5beddb2fd0b36fabf2df12c9a4f864b1d453cf6"), looks := false }, kinds := [], alts := [], laidByText := true, laidKinds := [.data], laidTests := true, laidLooks := .later }
def SheetGroupsUptoCardSaid : Prop := Claim7.holds Tryd.pinned (.plain (OpenSpec.upto sheetGroupsSpec)) sheetGroupsUptoCard
end Rows
end Go.Proofs.YtgmonagekfjnmaaDoor
