/-
  DERIVED. GIVEN WITH THE SEED: THE CARDS: each row of YtmjholcpajfldaaGreatDoorRows.lean that lists a variable, with what it lists TIED to the program's text (the seventh form; the later family's looks); each row that meets fmt, with fmt's text TOLD by the authors' own Lean function (tested against real Go, not proved from fmt's source: count such statements apart). THE CARD IS WHAT COUNTS. Prove the row's statement (the work); the ties are given (YtmjholcpajfldaaGreatDoorTie.lean); close each card by the builder's one call (the guide's Derived/Test/ToyasCard.lean, 'card_holds'). Laid BY PROGRAM, IN A SANDBOX (cutbox-door.mjs). By AI agents, Wed Nov 11 2026. No macro, syntax, notation, axiom, sorry.
-/
import Derived.Test.YtmjholcpajfldaaGreatDoorRows
import GoSem.ClaimSeven
namespace Go.Proofs.YtmjholcpajfldaaGreatDoor
namespace Rows

/-- THE TIED CARD OF 'playpenlaw17.HostKeeps'. -/
def hostKeepsCard : Claim7 := { stood := { row := hostKeepsRow, standIns := [], harness := (true, "66afe9c53afc8032d641c57e0ea347a625ec2df56df1ba9f4eb453bbec7a0f5d"), looks := true }, kinds := [], alts := [], laidByText := true, laidKinds := [.data, .data, .widerDeep, .widerDeep, .data, .data, .data, .data, .data, .data, .sentinel, .sentinel, .pinned, .pinned, .pinned], laidTests := true, laidLooks := .later }
def HostKeepsCardSaid : Prop := Claim7.holds Tryz.pinned (.plain (OpenSpec.ofChange hostKeepsSpec)) hostKeepsCard

/-- THE TIED CARD OF 'playpenlaw17.HostPrints'. -/
def hostPrintsCard : Claim7 := { stood := { row := hostPrintsRow, standIns := [], harness := (true, "66afe9c53afc8032d641c57e0ea347a625ec2df56df1ba9f4eb453bbec7a0f5d"), looks := true }, kinds := [], alts := [], laidByText := true, laidKinds := [.data, .data, .widerDeep, .widerDeep, .data, .data, .data, .data, .data, .data, .sentinel, .sentinel, .pinned, .pinned, .pinned], laidTests := true, laidLooks := .later }
def HostPrintsCardSaid : Prop := Claim7.holds Tryz.pinned (.plain (OpenSpec.ofChange hostPrintsSpec)) hostPrintsCard

/-- THE TIED CARD OF 'playpenlaw17.HostNone'. -/
def hostNoneCard : Claim7 := { stood := { row := hostNoneRow, standIns := [], harness := (true, "66afe9c53afc8032d641c57e0ea347a625ec2df56df1ba9f4eb453bbec7a0f5d"), looks := true }, kinds := [], alts := [], laidByText := true, laidKinds := [.data, .data, .widerDeep, .widerDeep, .data, .data, .data, .data, .data, .data, .sentinel, .sentinel, .pinned, .pinned, .pinned], laidTests := true, laidLooks := .later }
def HostNoneCardSaid : Prop := Claim7.holds Tryz.pinned (.plain (OpenSpec.ofChange hostNoneSpec)) hostNoneCard

/-- THE TIED CARD OF 'playpenlaw17.HostLoads'. -/
def hostLoadsCard : Claim7 := { stood := { row := hostLoadsRow, standIns := [], harness := (true, "66afe9c53afc8032d641c57e0ea347a625ec2df56df1ba9f4eb453bbec7a0f5d"), looks := true }, kinds := [], alts := [], laidByText := true, laidKinds := [.data, .data, .widerDeep, .widerDeep, .data, .data, .data, .data, .data, .data, .sentinel, .sentinel, .pinned, .pinned, .pinned], laidTests := true, laidLooks := .later }
def HostLoadsCardSaid : Prop := Claim7.holds Tryz.pinned (.plain (OpenSpec.ofChange hostLoadsSpec)) hostLoadsCard

/-- THE SECOND FORM's CARD OF 'playpenlaw17.HostKeeps'. -/
def hostKeepsUptoCard : Claim7 := { stood := { row := hostKeepsUptoRow, standIns := [], harness := (true, "66afe9c53afc8032d641c57e0ea347a625ec2df56df1ba9f4eb453bbec7a0f5d"), looks := true }, kinds := [], alts := [], laidByText := true, laidKinds := [.data, .data, .widerDeep, .widerDeep, .data, .data, .data, .data, .data, .data, .sentinel, .sentinel, .pinned, .pinned, .pinned], laidTests := true, laidLooks := .later }
def HostKeepsUptoCardSaid : Prop := Claim7.holds Tryz.pinned (.plain (OpenSpec.upto hostKeepsSpec)) hostKeepsUptoCard

/-- THE SECOND FORM's CARD OF 'playpenlaw17.HostPrints'. -/
def hostPrintsUptoCard : Claim7 := { stood := { row := hostPrintsUptoRow, standIns := [], harness := (true, "66afe9c53afc8032d641c57e0ea347a625ec2df56df1ba9f4eb453bbec7a0f5d"), looks := true }, kinds := [], alts := [], laidByText := true, laidKinds := [.data, .data, .widerDeep, .widerDeep, .data, .data, .data, .data, .data, .data, .sentinel, .sentinel, .pinned, .pinned, .pinned], laidTests := true, laidLooks := .later }
def HostPrintsUptoCardSaid : Prop := Claim7.holds Tryz.pinned (.plain (OpenSpec.upto hostPrintsSpec)) hostPrintsUptoCard

/-- THE SECOND FORM's CARD OF 'playpenlaw17.HostNone'. -/
def hostNoneUptoCard : Claim7 := { stood := { row := hostNoneUptoRow, standIns := [], harness := (true, "66afe9c53afc8032d641c57e0ea347a625ec2df56df1ba9f4eb453bbec7a0f5d"), looks := true }, kinds := [], alts := [], laidByText := true, laidKinds := [.data, .data, .widerDeep, .widerDeep, .data, .data, .data, .data, .data, .data, .sentinel, .sentinel, .pinned, .pinned, .pinned], laidTests := true, laidLooks := .later }
def HostNoneUptoCardSaid : Prop := Claim7.holds Tryz.pinned (.plain (OpenSpec.upto hostNoneSpec)) hostNoneUptoCard

/-- THE SECOND FORM's CARD OF 'playpenlaw17.HostLoads'. -/
def hostLoadsUptoCard : Claim7 := { stood := { row := hostLoadsUptoRow, standIns := [], harness := (true, "66afe9c53afc8032d641c57e0ea347a625ec2df56df1ba9f4eb453bbec7a0f5d"), looks := true }, kinds := [], alts := [], laidByText := true, laidKinds := [.data, .data, .widerDeep, .widerDeep, .data, .data, .data, .data, .data, .data, .sentinel, .sentinel, .pinned, .pinned, .pinned], laidTests := true, laidLooks := .later }
def HostLoadsUptoCardSaid : Prop := Claim7.holds Tryz.pinned (.plain (OpenSpec.upto hostLoadsSpec)) hostLoadsUptoCard
end Rows
end Go.Proofs.YtmjholcpajfldaaGreatDoor
