/-
  DERIVED. GIVEN WITH THE SEED: THE CARDS: each row of YtlabadkfkbenoaaGreatDoorRows.lean that lists a variable, with what it lists TIED to the program's text (the seventh form; the later family's looks); each row that meets fmt, with fmt's text TOLD by the authors' own Lean function (tested against real Go, not proved from fmt's source: count such statements apart). THE CARD IS WHAT COUNTS. Prove the row's statement (the work); the ties are given (YtlabadkfkbenoaaGreatDoorTie.lean); close each card by the builder's one call (the guide's Derived/Test/ToyasCard.lean, 'card_holds'). Laid BY PROGRAM, IN A SANDBOX (cutbox-door.mjs). By AI agents, Wed Nov 11 2026. No macro, syntax, notation, axiom, sorry.
-/
import Derived.Test.YtlabadkfkbenoaaGreatDoorRows
import GoSem.ClaimSeven
namespace Go.Proofs.YtlabadkfkbenoaaGreatDoor
namespace Rows

/-- THE TIED CARD OF 'playpenlaw29.SenseLocals'. -/
def senseLocalsCard : Claim7 := { stood := { row := senseLocalsRow, standIns := [], harness := (true, "8794c9332273dedd8f69bd53c7d90c67199b032d1850d1768c7fe135f21a69ec"), looks := true }, kinds := [], alts := [], laidByText := true, laidKinds := [.data, .pinned], laidTests := true, laidLooks := .later }
def SenseLocalsCardSaid : Prop := Claim7.holds Tryz.pinned (.plain (OpenSpec.ofChange senseLocalsSpec)) senseLocalsCard

/-- THE TIED CARD OF 'playpenlaw29.SenseCalm'. -/
def senseCalmCard : Claim7 := { stood := { row := senseCalmRow, standIns := [], harness := (true, "8794c9332273dedd8f69bd53c7d90c67199b032d1850d1768c7fe135f21a69ec"), looks := true }, kinds := [], alts := [], laidByText := true, laidKinds := [.data, .pinned], laidTests := true, laidLooks := .later }
def SenseCalmCardSaid : Prop := Claim7.holds Tryz.pinned (.plain (OpenSpec.ofChange senseCalmSpec)) senseCalmCard

/-- THE TIED CARD OF 'playpenlaw29.SenseMore'. -/
def senseMoreCard : Claim7 := { stood := { row := senseMoreRow, standIns := [], harness := (true, "8794c9332273dedd8f69bd53c7d90c67199b032d1850d1768c7fe135f21a69ec"), looks := true }, kinds := [], alts := [], laidByText := true, laidKinds := [.data, .pinned], laidTests := true, laidLooks := .later }
def SenseMoreCardSaid : Prop := Claim7.holds Tryz.pinned (.plain (OpenSpec.ofChange senseMoreSpec)) senseMoreCard

/-- THE TIED CARD OF 'playpenlaw29.SenseCalls'. -/
def senseCallsCard : Claim7 := { stood := { row := senseCallsRow, standIns := [], harness := (true, "8794c9332273dedd8f69bd53c7d90c67199b032d1850d1768c7fe135f21a69ec"), looks := true }, kinds := [], alts := [], laidByText := true, laidKinds := [.data, .pinned], laidTests := true, laidLooks := .later }
def SenseCallsCardSaid : Prop := Claim7.holds Tryz.pinned (.plain (OpenSpec.ofChange senseCallsSpec)) senseCallsCard

/-- THE TIED CARD OF 'playpenlaw29.SenseNone'. -/
def senseNoneCard : Claim7 := { stood := { row := senseNoneRow, standIns := [], harness := (true, "8794c9332273dedd8f69bd53c7d90c67199b032d1850d1768c7fe135f21a69ec"), looks := true }, kinds := [], alts := [], laidByText := true, laidKinds := [.data, .pinned], laidTests := true, laidLooks := .later }
def SenseNoneCardSaid : Prop := Claim7.holds Tryz.pinned (.plain (OpenSpec.ofChange senseNoneSpec)) senseNoneCard

/-- THE SECOND FORM's CARD OF 'playpenlaw29.SenseLocals'. -/
def senseLocalsUptoCard : Claim7 := { stood := { row := senseLocalsUptoRow, standIns := [], harness := (true, "8794c9332273dedd8f69bd53c7d90c67199b032d1850d1768c7fe135f21a69ec"), looks := true }, kinds := [], alts := [], laidByText := true, laidKinds := [.data, .pinned], laidTests := true, laidLooks := .later }
def SenseLocalsUptoCardSaid : Prop := Claim7.holds Tryz.pinned (.plain (OpenSpec.upto senseLocalsSpec)) senseLocalsUptoCard

/-- THE SECOND FORM's CARD OF 'playpenlaw29.SenseCalm'. -/
def senseCalmUptoCard : Claim7 := { stood := { row := senseCalmUptoRow, standIns := [], harness := (true, "8794c9332273dedd8f69bd53c7d90c67199b032d1850d1768c7fe135f21a69ec"), looks := true }, kinds := [], alts := [], laidByText := true, laidKinds := [.data, .pinned], laidTests := true, laidLooks := .later }
def SenseCalmUptoCardSaid : Prop := Claim7.holds Tryz.pinned (.plain (OpenSpec.upto senseCalmSpec)) senseCalmUptoCard

/-- THE SECOND FORM's CARD OF 'playpenlaw29.SenseMore'. -/
def senseMoreUptoCard : Claim7 := { stood := { row := senseMoreUptoRow, standIns := [], harness := (true, "8794c9332273dedd8f69bd53c7d90c67199b032d1850d1768c7fe135f21a69ec"), looks := true }, kinds := [], alts := [], laidByText := true, laidKinds := [.data, .pinned], laidTests := true, laidLooks := .later }
def SenseMoreUptoCardSaid : Prop := Claim7.holds Tryz.pinned (.plain (OpenSpec.upto senseMoreSpec)) senseMoreUptoCard

/-- THE SECOND FORM's CARD OF 'playpenlaw29.SenseCalls'. -/
def senseCallsUptoCard : Claim7 := { stood := { row := senseCallsUptoRow, standIns := [], harness := (true, "8794c9332273dedd8f69bd53c7d90c67199b032d1850d1768c7fe135f21a69ec"), looks := true }, kinds := [], alts := [], laidByText := true, laidKinds := [.data, .pinned], laidTests := true, laidLooks := .later }
def SenseCallsUptoCardSaid : Prop := Claim7.holds Tryz.pinned (.plain (OpenSpec.upto senseCallsSpec)) senseCallsUptoCard

/-- THE SECOND FORM's CARD OF 'playpenlaw29.SenseNone'. -/
def senseNoneUptoCard : Claim7 := { stood := { row := senseNoneUptoRow, standIns := [], harness := (true, "8794c9332273dedd8f69bd53c7d90c67199b032d1850d1768c7fe135f21a69ec"), looks := true }, kinds := [], alts := [], laidByText := true, laidKinds := [.data, .pinned], laidTests := true, laidLooks := .later }
def SenseNoneUptoCardSaid : Prop := Claim7.holds Tryz.pinned (.plain (OpenSpec.upto senseNoneSpec)) senseNoneUptoCard
end Rows
end Go.Proofs.YtlabadkfkbenoaaGreatDoor
