/-
  DERIVED. GIVEN WITH THE SEED: THE CARDS: each row of YtmbdlhgclkbdiaaDoorRows.lean that lists a variable, with what it lists TIED to the program's text (the seventh form; the later family's looks); each row that meets fmt, with fmt's text TOLD by the authors' own Lean function (tested against real Go, not proved from fmt's source: count such statements apart). THE CARD IS WHAT COUNTS. Prove the row's statement (the work); the ties are given (YtmbdlhgclkbdiaaDoorTie.lean); close each card by the builder's one call (the guide's Derived/Test/ToyasCard.lean, 'card_holds'). Laid BY PROGRAM, IN A SANDBOX (cutbox-door.mjs). By AI agents, Wed Nov 11 2026. No macro, syntax, notation, axiom, sorry.
-/
import Derived.Test.YtmbdlhgclkbdiaaDoorRows
import GoSem.ClaimSeven
namespace Go.Proofs.YtmbdlhgclkbdiaaDoor
namespace Rows

/-- THE TIED CARD OF 'playpenlaw04.FigureSigned'. -/
def figureSignedCard : Claim7 := { stood := { row := figureSignedRow, standIns := [], harness := (true, "fd6a46b6f945969f5e58abb70f6010b597af2e16484ddca33c7a4412d6670ecd"), looks := false }, kinds := [], alts := [], laidByText := true, laidKinds := [.data, .data, .data], laidTests := true, laidLooks := .later }
def FigureSignedCardSaid : Prop := Claim7.holds Tryd.pinned (.plain (OpenSpec.ofChange figureSignedSpec)) figureSignedCard

/-- THE TIED CARD OF 'playpenlaw04.FigureWords'. -/
def figureWordsCard : Claim7 := { stood := { row := figureWordsRow, standIns := [], harness := (true, "fd6a46b6f945969f5e58abb70f6010b597af2e16484ddca33c7a4412d6670ecd"), looks := false }, kinds := [], alts := [], laidByText := true, laidKinds := [.data, .data, .data], laidTests := true, laidLooks := .later }
def FigureWordsCardSaid : Prop := Claim7.holds Tryd.pinned (.plain (OpenSpec.ofChange figureWordsSpec)) figureWordsCard

/-- THE SECOND FORM's CARD OF 'playpenlaw04.FigureSigned'. -/
def figureSignedUptoCard : Claim7 := { stood := { row := figureSignedUptoRow, standIns := [], harness := (true, "fd6a46b6f945969f5e58abb70f6010b597af2e16484ddca33c7a4412d6670ecd"), looks := false }, kinds := [], alts := [], laidByText := true, laidKinds := [.data, .data, .data], laidTests := true, laidLooks := .later }
def FigureSignedUptoCardSaid : Prop := Claim7.holds Tryd.pinned (.plain (OpenSpec.upto figureSignedSpec)) figureSignedUptoCard

/-- THE SECOND FORM's CARD OF 'playpenlaw04.FigureWords'. -/
def figureWordsUptoCard : Claim7 := { stood := { row := figureWordsUptoRow, standIns := [], harness := (true, "fd6a46b6f945969f5e58abb70f6010b597af2e16484ddca33c7a4412d6670ecd"), looks := false }, kinds := [], alts := [], laidByText := true, laidKinds := [.data, .data, .data], laidTests := true, laidLooks := .later }
def FigureWordsUptoCardSaid : Prop := Claim7.holds Tryd.pinned (.plain (OpenSpec.upto figureWordsSpec)) figureWordsUptoCard
end Rows
end Go.Proofs.YtmbdlhgclkbdiaaDoor
