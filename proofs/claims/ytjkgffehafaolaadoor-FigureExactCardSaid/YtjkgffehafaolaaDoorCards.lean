/-
  DERIVED. GIVEN WITH THE SEED: THE CARDS: each row of YtjkgffehafaolaaDoorRows.lean that lists a variable, with what it lists TIED to the program's text (the seventh form; the later family's looks); each row that meets fmt, with fmt's text TOLD by the authors' own Lean function (tested against real Go, not proved from fmt's source: count such statements apart). THE CARD IS WHAT COUNTS. Prove the row's statement (the work); the ties are given (YtjkgffehafaolaaDoorTie.lean); close each card by the builder's one call (the guide's Derived/Test/ToyasCard.lean, 'card_holds'). Laid BY PROGRAM, IN A SANDBOX (cutbox-door.mjs). By AI agents, Wed Nov 11 2026. No macro, syntax, notation, axiom, sorry.
-/
import Derived.Test.YtjkgffehafaolaaDoorRows
import GoSem.ClaimSeven
namespace Go.Proofs.YtjkgffehafaolaaDoor
namespace Rows

/-- THE TIED CARD OF 'playpenlaw04.FigureExact'. -/
def figureExactCard : Claim7 := { stood := { row := figureExactRow, standIns := [], harness := (true, "b3cd2285d456cfb221b7660a13bf77c4435967df824f462622b9a90a2e4ed3a1"), looks := true }, kinds := [], alts := [], laidByText := true, laidKinds := [.data, .data, .data, .data, .sentinel, .sentinel, .pinned, .pinned], laidTests := true, laidLooks := .later }
def FigureExactCardSaid : Prop := Claim7.holds Tryd.pinned (.plain (OpenSpec.ofChange figureExactSpec)) figureExactCard

/-- THE SECOND FORM's CARD OF 'playpenlaw04.FigureExact'. -/
def figureExactUptoCard : Claim7 := { stood := { row := figureExactUptoRow, standIns := [], harness := (true, "b3cd2285d456cfb221b7660a13bf77c4435967df824f462622b9a90a2e4ed3a1"), looks := true }, kinds := [], alts := [], laidByText := true, laidKinds := [.data, .data, .data, .data, .sentinel, .sentinel, .pinned, .pinned], laidTests := true, laidLooks := .later }
def FigureExactUptoCardSaid : Prop := Claim7.holds Tryd.pinned (.plain (OpenSpec.upto figureExactSpec)) figureExactUptoCard
end Rows
end Go.Proofs.YtjkgffehafaolaaDoor
