/-
  DERIVED. GIVEN WITH THE SEED: THE CARDS: each row of YtlgneiaenanfaaaGreatDoorRows.lean that lists a variable, with what it lists TIED to the program's text (the seventh form; the later family's looks); each row that meets fmt, with fmt's text TOLD by the authors' own Lean function (tested against real Go, not proved from fmt's source: count such statements apart). THE CARD IS WHAT COUNTS. Prove the row's statement (the work); the ties are given (YtlgneiaenanfaaaGreatDoorTie.lean); close each card by the builder's one call (the guide's Derived/Test/ToyasCard.lean, 'card_holds'). Laid BY PROGRAM, IN A SANDBOX (cutbox-door.mjs). By AI agents, Wed Nov 11 2026. No macro, syntax, notation, axiom, sorry.
-/
import Derived.Test.YtlgneiaenanfaaaGreatDoorRows
import GoSem.ClaimSeven
namespace Go.Proofs.YtlgneiaenanfaaaGreatDoor
namespace Rows

/-- THE TIED CARD OF 'playpenlaw04.FigureRead'. -/
def figureReadCard : Claim7 := { stood := { row := figureReadRow, standIns := [], harness := (true, "0419107b11b57403ed8f10057411e09c278ba1ae3de67bb4a653625478b31b40"), looks := true }, kinds := [], alts := [], laidByText := true, laidKinds := [.data, .data, .widerDeep, .widerDeep, .data, .data, .data, .data, .data, .sentinel, .sentinel, .pinned, .pinned], laidTests := true, laidLooks := .later }
def FigureReadCardSaid : Prop := Claim7.holds Tryz.pinned (.plain (OpenSpec.ofChange figureReadSpec)) figureReadCard

/-- THE TIED CARD OF 'playpenlaw04.FigureReadHalf'. -/
def figureReadHalfCard : Claim7 := { stood := { row := figureReadHalfRow, standIns := [], harness := (true, "0419107b11b57403ed8f10057411e09c278ba1ae3de67bb4a653625478b31b40"), looks := true }, kinds := [], alts := [], laidByText := true, laidKinds := [.data, .data, .widerDeep, .widerDeep, .data, .data, .data, .data, .data, .sentinel, .sentinel, .pinned, .pinned], laidTests := true, laidLooks := .later }
def FigureReadHalfCardSaid : Prop := Claim7.holds Tryz.pinned (.plain (OpenSpec.ofChange figureReadHalfSpec)) figureReadHalfCard

/-- THE TIED CARD OF 'playpenlaw04.FigurePrint'. -/
def figurePrintCard : Claim7 := { stood := { row := figurePrintRow, standIns := [], harness := (true, "0419107b11b57403ed8f10057411e09c278ba1ae3de67bb4a653625478b31b40"), looks := true }, kinds := [], alts := [], laidByText := true, laidKinds := [.data, .data, .widerDeep, .widerDeep, .data, .data, .data, .data, .data, .data, .sentinel, .sentinel, .pinned, .pinned, .pinned], laidTests := true, laidLooks := .later }
def FigurePrintCardSaid : Prop := Claim7.holds Tryz.pinned (.plain (OpenSpec.ofChange figurePrintSpec)) figurePrintCard

/-- THE TIED CARD OF 'playpenlaw04.FigurePrintHalf'. -/
def figurePrintHalfCard : Claim7 := { stood := { row := figurePrintHalfRow, standIns := [], harness := (true, "0419107b11b57403ed8f10057411e09c278ba1ae3de67bb4a653625478b31b40"), looks := true }, kinds := [], alts := [], laidByText := true, laidKinds := [.data, .data, .widerDeep, .widerDeep, .data, .data, .data, .data, .data, .data, .sentinel, .sentinel, .pinned, .pinned, .pinned], laidTests := true, laidLooks := .later }
def FigurePrintHalfCardSaid : Prop := Claim7.holds Tryz.pinned (.plain (OpenSpec.ofChange figurePrintHalfSpec)) figurePrintHalfCard

/-- THE TIED CARD OF 'playpenlaw04.FigureFixed'. -/
def figureFixedCard : Claim7 := { stood := { row := figureFixedRow, standIns := [], harness := (true, "0419107b11b57403ed8f10057411e09c278ba1ae3de67bb4a653625478b31b40"), looks := true }, kinds := [], alts := [], laidByText := true, laidKinds := [.data, .data, .widerDeep, .widerDeep, .data, .data, .data, .data, .data, .data, .sentinel, .sentinel, .pinned, .pinned, .pinned], laidTests := true, laidLooks := .later }
def FigureFixedCardSaid : Prop := Claim7.holds Tryz.pinned (.plain (OpenSpec.ofChange figureFixedSpec)) figureFixedCard

/-- THE TIED CARD OF 'playpenlaw04.FigureBack'. -/
def figureBackCard : Claim7 := { stood := { row := figureBackRow, standIns := [], harness := (true, "0419107b11b57403ed8f10057411e09c278ba1ae3de67bb4a653625478b31b40"), looks := true }, kinds := [], alts := [], laidByText := true, laidKinds := [.data, .data, .widerDeep, .widerDeep, .data, .data, .data, .data, .data, .data, .sentinel, .sentinel, .pinned, .pinned, .pinned], laidTests := true, laidLooks := .later }
def FigureBackCardSaid : Prop := Claim7.holds Tryz.pinned (.plain (OpenSpec.ofChange figureBackSpec)) figureBackCard

/-- THE TIED CARD OF 'playpenlaw04.FigureBackHalf'. -/
def figureBackHalfCard : Claim7 := { stood := { row := figureBackHalfRow, standIns := [], harness := (true, "0419107b11b57403ed8f10057411e09c278ba1ae3de67bb4a653625478b31b40"), looks := true }, kinds := [], alts := [], laidByText := true, laidKinds := [.data, .data, .widerDeep, .widerDeep, .data, .data, .data, .data, .data, .data, .sentinel, .sentinel, .pinned, .pinned, .pinned], laidTests := true, laidLooks := .later }
def FigureBackHalfCardSaid : Prop := Claim7.holds Tryz.pinned (.plain (OpenSpec.ofChange figureBackHalfSpec)) figureBackHalfCard

/-- THE TIED CARD OF 'playpenlaw04.FigureLeast'. -/
def figureLeastCard : Claim7 := { stood := { row := figureLeastRow, standIns := [], harness := (true, "0419107b11b57403ed8f10057411e09c278ba1ae3de67bb4a653625478b31b40"), looks := true }, kinds := [], alts := [], laidByText := true, laidKinds := [.data, .data, .widerDeep, .widerDeep, .data, .data, .data, .data, .data, .data, .sentinel, .sentinel, .pinned, .pinned, .pinned], laidTests := true, laidLooks := .later }
def FigureLeastCardSaid : Prop := Claim7.holds Tryz.pinned (.plain (OpenSpec.ofChange figureLeastSpec)) figureLeastCard

/-- THE TIED CARD OF 'playpenlaw04.FigureFixes'. -/
def figureFixesCard : Claim7 := { stood := { row := figureFixesRow, standIns := [], harness := (true, "0419107b11b57403ed8f10057411e09c278ba1ae3de67bb4a653625478b31b40"), looks := true }, kinds := [], alts := [], laidByText := true, laidKinds := [.data, .data, .widerDeep, .widerDeep, .data, .data, .data, .data, .data, .data, .sentinel, .sentinel, .pinned, .pinned, .pinned], laidTests := true, laidLooks := .later }
def FigureFixesCardSaid : Prop := Claim7.holds Tryz.pinned (.plain (OpenSpec.ofChange figureFixesSpec)) figureFixesCard

/-- THE TIED CARD OF 'playpenlaw04.FigureKnown'. -/
def figureKnownCard : Claim7 := { stood := { row := figureKnownRow, standIns := [], harness := (true, "0419107b11b57403ed8f10057411e09c278ba1ae3de67bb4a653625478b31b40"), looks := true }, kinds := [], alts := [], laidByText := true, laidKinds := [.data, .data, .widerDeep, .widerDeep, .data, .data, .data, .data, .data, .data, .sentinel, .sentinel, .pinned, .pinned, .pinned], laidTests := true, laidLooks := .later }
def FigureKnownCardSaid : Prop := Claim7.holds Tryz.pinned (.plain (OpenSpec.ofChange figureKnownSpec)) figureKnownCard

/-- THE SECOND FORM's CARD OF 'playpenlaw04.FigureRead'. -/
def figureReadUptoCard : Claim7 := { stood := { row := figureReadUptoRow, standIns := [], harness := (true, "0419107b11b57403ed8f10057411e09c278ba1ae3de67bb4a653625478b31b40"), looks := true }, kinds := [], alts := [], laidByText := true, laidKinds := [.data, .data, .widerDeep, .widerDeep, .data, .data, .data, .data, .data, .sentinel, .sentinel, .pinned, .pinned], laidTests := true, laidLooks := .later }
def FigureReadUptoCardSaid : Prop := Claim7.holds Tryz.pinned (.plain (OpenSpec.upto figureReadSpec)) figureReadUptoCard

/-- THE SECOND FORM's CARD OF 'playpenlaw04.FigureReadHalf'. -/
def figureReadHalfUptoCard : Claim7 := { stood := { row := figureReadHalfUptoRow, standIns := [], harness := (true, "0419107b11b57403ed8f10057411e09c278ba1ae3de67bb4a653625478b31b40"), looks := true }, kinds := [], alts := [], laidByText := true, laidKinds := [.data, .data, .widerDeep, .widerDeep, .data, .data, .data, .data, .data, .sentinel, .sentinel, .pinned, .pinned], laidTests := true, laidLooks := .later }
def FigureReadHalfUptoCardSaid : Prop := Claim7.holds Tryz.pinned (.plain (OpenSpec.upto figureReadHalfSpec)) figureReadHalfUptoCard

/-- THE SECOND FORM's CARD OF 'playpenlaw04.FigurePrint'. -/
def figurePrintUptoCard : Claim7 := { stood := { row := figurePrintUptoRow, standIns := [], harness := (true, "0419107b11b57403ed8f10057411e09c278ba1ae3de67bb4a653625478b31b40"), looks := true }, kinds := [], alts := [], laidByText := true, laidKinds := [.data, .data, .widerDeep, .widerDeep, .data, .data, .data, .data, .data, .data, .sentinel, .sentinel, .pinned, .pinned, .pinned], laidTests := true, laidLooks := .later }
def FigurePrintUptoCardSaid : Prop := Claim7.holds Tryz.pinned (.plain (OpenSpec.upto figurePrintSpec)) figurePrintUptoCard

/-- THE SECOND FORM's CARD OF 'playpenlaw04.FigurePrintHalf'. -/
def figurePrintHalfUptoCard : Claim7 := { stood := { row := figurePrintHalfUptoRow, standIns := [], harness := (true, "0419107b11b57403ed8f10057411e09c278ba1ae3de67bb4a653625478b31b40"), looks := true }, kinds := [], alts := [], laidByText := true, laidKinds := [.data, .data, .widerDeep, .widerDeep, .data, .data, .data, .data, .data, .data, .sentinel, .sentinel, .pinned, .pinned, .pinned], laidTests := true, laidLooks := .later }
def FigurePrintHalfUptoCardSaid : Prop := Claim7.holds Tryz.pinned (.plain (OpenSpec.upto figurePrintHalfSpec)) figurePrintHalfUptoCard

/-- THE SECOND FORM's CARD OF 'playpenlaw04.FigureFixed'. -/
def figureFixedUptoCard : Claim7 := { stood := { row := figureFixedUptoRow, standIns := [], harness := (true, "0419107b11b57403ed8f10057411e09c278ba1ae3de67bb4a653625478b31b40"), looks := true }, kinds := [], alts := [], laidByText := true, laidKinds := [.data, .data, .widerDeep, .widerDeep, .data, .data, .data, .data, .data, .data, .sentinel, .sentinel, .pinned, .pinned, .pinned], laidTests := true, laidLooks := .later }
def FigureFixedUptoCardSaid : Prop := Claim7.holds Tryz.pinned (.plain (OpenSpec.upto figureFixedSpec)) figureFixedUptoCard

/-- THE SECOND FORM's CARD OF 'playpenlaw04.FigureBack'. -/
def figureBackUptoCard : Claim7 := { stood := { row := figureBackUptoRow, standIns := [], harness := (true, "0419107b11b57403ed8f10057411e09c278ba1ae3de67bb4a653625478b31b40"), looks := true }, kinds := [], alts := [], laidByText := true, laidKinds := [.data, .data, .widerDeep, .widerDeep, .data, .data, .data, .data, .data, .data, .sentinel, .sentinel, .pinned, .pinned, .pinned], laidTests := true, laidLooks := .later }
def FigureBackUptoCardSaid : Prop := Claim7.holds Tryz.pinned (.plain (OpenSpec.upto figureBackSpec)) figureBackUptoCard

/-- THE SECOND FORM's CARD OF 'playpenlaw04.FigureBackHalf'. -/
def figureBackHalfUptoCard : Claim7 := { stood := { row := figureBackHalfUptoRow, standIns := [], harness := (true, "0419107b11b57403ed8f10057411e09c278ba1ae3de67bb4a653625478b31b40"), looks := true }, kinds := [], alts := [], laidByText := true, laidKinds := [.data, .data, .widerDeep, .widerDeep, .data, .data, .data, .data, .data, .data, .sentinel, .sentinel, .pinned, .pinned, .pinned], laidTests := true, laidLooks := .later }
def FigureBackHalfUptoCardSaid : Prop := Claim7.holds Tryz.pinned (.plain (OpenSpec.upto figureBackHalfSpec)) figureBackHalfUptoCard

/-- THE SECOND FORM's CARD OF 'playpenlaw04.FigureLeast'. -/
def figureLeastUptoCard : Claim7 := { stood := { row := figureLeastUptoRow, standIns := [], harness := (true, "0419107b11b57403ed8f10057411e09c278ba1ae3de67bb4a653625478b31b40"), looks := true }, kinds := [], alts := [], laidByText := true, laidKinds := [.data, .data, .widerDeep, .widerDeep, .data, .data, .data, .data, .data, .data, .sentinel, .sentinel, .pinned, .pinned, .pinned], laidTests := true, laidLooks := .later }
def FigureLeastUptoCardSaid : Prop := Claim7.holds Tryz.pinned (.plain (OpenSpec.upto figureLeastSpec)) figureLeastUptoCard

/-- THE SECOND FORM's CARD OF 'playpenlaw04.FigureFixes'. -/
def figureFixesUptoCard : Claim7 := { stood := { row := figureFixesUptoRow, standIns := [], harness := (true, "0419107b11b57403ed8f10057411e09c278ba1ae3de67bb4a653625478b31b40"), looks := true }, kinds := [], alts := [], laidByText := true, laidKinds := [.data, .data, .widerDeep, .widerDeep, .data, .data, .data, .data, .data, .data, .sentinel, .sentinel, .pinned, .pinned, .pinned], laidTests := true, laidLooks := .later }
def FigureFixesUptoCardSaid : Prop := Claim7.holds Tryz.pinned (.plain (OpenSpec.upto figureFixesSpec)) figureFixesUptoCard

/-- THE SECOND FORM's CARD OF 'playpenlaw04.FigureKnown'. -/
def figureKnownUptoCard : Claim7 := { stood := { row := figureKnownUptoRow, standIns := [], harness := (true, "0419107b11b57403ed8f10057411e09c278ba1ae3de67bb4a653625478b31b40"), looks := true }, kinds := [], alts := [], laidByText := true, laidKinds := [.data, .data, .widerDeep, .widerDeep, .data, .data, .data, .data, .data, .data, .sentinel, .sentinel, .pinned, .pinned, .pinned], laidTests := true, laidLooks := .later }
def FigureKnownUptoCardSaid : Prop := Claim7.holds Tryz.pinned (.plain (OpenSpec.upto figureKnownSpec)) figureKnownUptoCard
end Rows
end Go.Proofs.YtlgneiaenanfaaaGreatDoor
