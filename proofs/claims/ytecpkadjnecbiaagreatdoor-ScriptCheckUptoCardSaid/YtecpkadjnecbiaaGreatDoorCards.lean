/-
  DERIVED. GIVEN WITH THE SEED: THE CARDS: each row of YtecpkadjnecbiaaGreatDoorRows.lean that lists a variable, with what it lists TIED to the program's text (the seventh form; the later family's looks); each row that meets fmt, with fmt's text TOLD by the authors' own Lean function (tested against real Go, not proved from fmt's source: count such statements apart). THE CARD IS WHAT COUNTS. Prove the row's statement (the work); the ties are given (YtecpkadjnecbiaaGreatDoorTie.lean); close each card by the builder's one call (the guide's Derived/Test/ToyasCard.lean, 'card_holds'). Laid BY PROGRAM, IN A SANDBOX (cutbox-door.mjs). By AI agents, Wed Nov 11 2026. No macro, syntax, notation, axiom, sorry.
-/
import Derived.Test.YtecpkadjnecbiaaGreatDoorRows
import GoSem.ClaimSeven
namespace Go.Proofs.YtecpkadjnecbiaaGreatDoor
namespace Rows

/-- THE TIED CARD OF 'playpenlaw28.ScriptCheck'. -/
def scriptCheckCard : Claim7 := { stood := { row := scriptCheckRow, standIns := [], harness := (true, "41e605484d247c160a9253db4e93166a225904b7cdec16bf27d809df001a6453"), looks := false }, kinds := [], alts := [], laidByText := true, laidKinds := [.data, .pinned], laidTests := true, laidLooks := .later }
def ScriptCheckCardSaid : Prop := Claim7.holds Tryz.pinned (.plain (OpenSpec.ofChange scriptCheckSpec)) scriptCheckCard

/-- THE SECOND FORM's CARD OF 'playpenlaw28.ScriptCheck'. -/
def scriptCheckUptoCard : Claim7 := { stood := { row := scriptCheckUptoRow, standIns := [], harness := (true, "41e605484d247c160a9253db4e93166a225904b7cdec16bf27d809df001a6453"), looks := false }, kinds := [], alts := [], laidByText := true, laidKinds := [.data, .pinned], laidTests := true, laidLooks := .later }
def ScriptCheckUptoCardSaid : Prop := Claim7.holds Tryz.pinned (.plain (OpenSpec.upto scriptCheckSpec)) scriptCheckUptoCard
end Rows
end Go.Proofs.YtecpkadjnecbiaaGreatDoor
