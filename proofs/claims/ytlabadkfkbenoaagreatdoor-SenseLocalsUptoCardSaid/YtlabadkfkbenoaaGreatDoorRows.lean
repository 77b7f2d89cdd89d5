/-
  NARROWER THAN 'FOR EVERY INPUT', by the rows' own cells (each row's printed sentence says how): SenseLocals: loops, laid · SenseCalm: loops, laid · SenseMore: loops, laid · SenseCalls: loops, laid · SenseNone: laid.
  DERIVED. THE GIVEN ROWS OF THIS SEAT. 5 by the template 'for every input the law returns true; each argument reads behind the call as it read before'; 0 by the template 'total and deterministic' (their statements: YtlabadkfkbenoaaGreatDoorTotals.lean).
  GIVEN WITH THE SEED: the statements are not yours to turn. If you find one false, say at which input.
  Laid BY PROGRAM, IN A SANDBOX (cutbox-rows.mjs): the forced cells as the released guide's own fill.sh prints them over the translation 63eff91c465733ab… (all of the seat's roots in one cut). By AI agents, Wed Nov 11 2026. No macro, syntax, notation, axiom, sorry.
-/
import Derived.Test.YtlabadkfkbenoaaGreatDoorChecked
import GoSem.PinnedTables
import GoSem.Claim
import GoSem.ClaimJoined
import GoSem.ClaimMapViews
import Derived.JoinedTies
import Derived.KernelRfl
namespace Go.Proofs.YtlabadkfkbenoaaGreatDoor
/- THE CELL 'sum', in the pinned program and in every row, IS THE sha256 OF THE DUMP (.gsa) THAT YtlabadkfkbenoaaGreatDoorProg.lean LOADS. Nothing in Lean hashes anything: it is a label: what it is worth is what the hold of that sum in a sandbox is worth. -/
noncomputable def Tryz.pinned : Pinned := { name := "ytlabadkfkbenoaagreatdoor", sum := "63eff91c465733abe6d7457fd700afa42a589bdec129ecbefb5d88e88d8d0883", checked := Tryz.checked }
namespace Rows
def none {H : Type} : Left H := { results := [], args := [] }

/- WHAT THE LISTED PACKAGE-LEVEL VARIABLES READ AS WHEN THE CALL BEGINS. Each datum BY PROGRAM (the guide's laid-datum.mjs) off the statement by which the dump's own 'gosem.cut.vars' lays the variable. In a bare row this is a premise. The card (YtlabadkfkbenoaaGreatDoorCards.lean) ties it to the program's text. -/
def laid_unicode_utf8_acceptRanges {H : Type} : DataW H := .agg [.agg [.lit (.int .u8 128), .lit (.int .u8 191)], .agg [.lit (.int .u8 160), .lit (.int .u8 191)], .agg [.lit (.int .u8 128), .lit (.int .u8 159)], .agg [.lit (.int .u8 144), .lit (.int .u8 191)], .agg [.lit (.int .u8 128), .lit (.int .u8 143)], .agg [.lit (.int .u8 0), .lit (.int .u8 0)], .agg [.lit (.int .u8 0), .lit (.int .u8 0)], .agg [.lit (.int .u8 0), .lit (.int .u8 0)], .agg [.lit (.int .u8 0), .lit (.int .u8 0)], .agg [.lit (.int .u8 0), .lit (.int .u8 0)], .agg [.lit (.int .u8 0), .lit (.int .u8 0)], .agg [.lit (.int .u8 0), .lit (.int .u8 0)], .agg [.lit (.int .u8 0), .lit (.int .u8 0)], .agg [.lit (.int .u8 0), .lit (.int .u8 0)], .agg [.lit (.int .u8 0), .lit (.int .u8 0)], .agg [.lit (.int .u8 0), .lit (.int .u8 0)]]
/-- One of Go's own tables, pinned by name: the form's constant. -/
def laid_unicode_utf8_first : DataW Unit := Go.Pinned.utf8First

/-- 'playpenlaw29.SenseLocals': WHATEVER THE INPUT: true; the input reads as it did. -/
def senseLocalsSpec : ChangeSpec := { name := "senseLocals", fn := fun _ => fun
  | [d1, d2, d3, d4, d5] => { results := [.lit (.bool true)], args := [d1, d2, d3, d4, d5] }
  | _ => none }
def senseLocalsRow : OpenClaim := { program := "ytlabadkfkbenoaagreatdoor", sum := "63eff91c465733abe6d7457fd700afa42a589bdec129ecbefb5d88e88d8d0883", func := "playpen/playpenlaw29.SenseLocals", spec := "senseLocals", inPlace := ["internal/bytealg.IndexByteString", "internal/bytealg.IndexString", "math.Float32frombits", "math.Float32bits"], unfollowed := true, recurses := true, named := ["unicode/utf8.first", "unicode/utf8.acceptRanges", "internal/bytealg.MaxLen"], loops := true, apart := false, laid := [("unicode/utf8.acceptRanges", laid_unicode_utf8_acceptRanges), ("unicode/utf8.first", laid_unicode_utf8_first)] }
def SenseLocalsSaid : Prop := senseLocalsRow.holds Tryz.pinned (OpenSpec.ofChange senseLocalsSpec)

/-- ITS FALSE NEIGHBOUR: 'it returns false'. Refute it at one input. -/
def senseLocalsWrong : ChangeSpec := { name := "senseLocals", fn := fun _ => fun
  | [d1, d2, d3, d4, d5] => { results := [.lit (.bool false)], args := [d1, d2, d3, d4, d5] }
  | _ => none }
def SenseLocalsWrongFalsely : Prop := senseLocalsRow.holds Tryz.pinned (OpenSpec.ofChange senseLocalsWrong)

/-- 'playpenlaw29.SenseCalm': WHATEVER THE INPUT: true; the input reads as it did. -/
def senseCalmSpec : ChangeSpec := { name := "senseCalm", fn := fun _ => fun
  | [d1, d2] => { results := [.lit (.bool true)], args := [d1, d2] }
  | _ => none }
def senseCalmRow : OpenClaim := { program := "ytlabadkfkbenoaagreatdoor", sum := "63eff91c465733abe6d7457fd700afa42a589bdec129ecbefb5d88e88d8d0883", func := "playpen/playpenlaw29.SenseCalm", spec := "senseCalm", inPlace := ["internal/bytealg.IndexByteString", "internal/bytealg.IndexString", "math.Float32frombits", "math.Float32bits"], unfollowed := true, recurses := true, named := ["unicode/utf8.first", "unicode/utf8.acceptRanges", "internal/bytealg.MaxLen"], loops := true, apart := false, laid := [("unicode/utf8.acceptRanges", laid_unicode_utf8_acceptRanges), ("unicode/utf8.first", laid_unicode_utf8_first)] }
def SenseCalmSaid : Prop := senseCalmRow.holds Tryz.pinned (OpenSpec.ofChange senseCalmSpec)

/-- ITS FALSE NEIGHBOUR: 'it returns false'. Refute it at one input. -/
def senseCalmWrong : ChangeSpec := { name := "senseCalm", fn := fun _ => fun
  | [d1, d2] => { results := [.lit (.bool false)], args := [d1, d2] }
  | _ => none }
def SenseCalmWrongFalsely : Prop := senseCalmRow.holds Tryz.pinned (OpenSpec.ofChange senseCalmWrong)

/-- 'playpenlaw29.SenseMore': WHATEVER THE INPUT: true; the input reads as it did. -/
def senseMoreSpec : ChangeSpec := { name := "senseMore", fn := fun _ => fun
  | [d1, d2] => { results := [.lit (.bool true)], args := [d1, d2] }
  | _ => none }
def senseMoreRow : OpenClaim := { program := "ytlabadkfkbenoaagreatdoor", sum := "63eff91c465733abe6d7457fd700afa42a589bdec129ecbefb5d88e88d8d0883", func := "playpen/playpenlaw29.SenseMore", spec := "senseMore", inPlace := ["internal/bytealg.IndexByteString", "internal/bytealg.IndexString", "math.Float32frombits", "math.Float32bits"], unfollowed := true, recurses := true, named := ["unicode/utf8.first", "unicode/utf8.acceptRanges", "internal/bytealg.MaxLen"], loops := true, apart := false, laid := [("unicode/utf8.acceptRanges", laid_unicode_utf8_acceptRanges), ("unicode/utf8.first", laid_unicode_utf8_first)] }
def SenseMoreSaid : Prop := senseMoreRow.holds Tryz.pinned (OpenSpec.ofChange senseMoreSpec)

/-- ITS FALSE NEIGHBOUR: 'it returns false'. Refute it at one input. -/
def senseMoreWrong : ChangeSpec := { name := "senseMore", fn := fun _ => fun
  | [d1, d2] => { results := [.lit (.bool false)], args := [d1, d2] }
  | _ => none }
def SenseMoreWrongFalsely : Prop := senseMoreRow.holds Tryz.pinned (OpenSpec.ofChange senseMoreWrong)

/-- 'playpenlaw29.SenseCalls': WHATEVER THE INPUT: true; the input reads as it did. -/
def senseCallsSpec : ChangeSpec := { name := "senseCalls", fn := fun _ => fun
  | [d1, d2] => { results := [.lit (.bool true)], args := [d1, d2] }
  | _ => none }
def senseCallsRow : OpenClaim := { program := "ytlabadkfkbenoaagreatdoor", sum := "63eff91c465733abe6d7457fd700afa42a589bdec129ecbefb5d88e88d8d0883", func := "playpen/playpenlaw29.SenseCalls", spec := "senseCalls", inPlace := ["internal/bytealg.IndexByteString", "internal/bytealg.IndexString", "math.Float32frombits", "math.Float32bits"], unfollowed := true, recurses := true, named := ["unicode/utf8.first", "unicode/utf8.acceptRanges", "internal/bytealg.MaxLen"], loops := true, apart := false, laid := [("unicode/utf8.acceptRanges", laid_unicode_utf8_acceptRanges), ("unicode/utf8.first", laid_unicode_utf8_first)] }
def SenseCallsSaid : Prop := senseCallsRow.holds Tryz.pinned (OpenSpec.ofChange senseCallsSpec)

/-- ITS FALSE NEIGHBOUR: 'it returns false'. Refute it at one input. -/
def senseCallsWrong : ChangeSpec := { name := "senseCalls", fn := fun _ => fun
  | [d1, d2] => { results := [.lit (.bool false)], args := [d1, d2] }
  | _ => none }
def SenseCallsWrongFalsely : Prop := senseCallsRow.holds Tryz.pinned (OpenSpec.ofChange senseCallsWrong)

/-- 'playpenlaw29.SenseNone': WHATEVER THE INPUT: true; the input reads as it did. -/
def senseNoneSpec : ChangeSpec := { name := "senseNone", fn := fun _ => fun
  | [d1, d2] => { results := [.lit (.bool true)], args := [d1, d2] }
  | _ => none }
def senseNoneRow : OpenClaim := { program := "ytlabadkfkbenoaagreatdoor", sum := "63eff91c465733abe6d7457fd700afa42a589bdec129ecbefb5d88e88d8d0883", func := "playpen/playpenlaw29.SenseNone", spec := "senseNone", inPlace := ["internal/bytealg.IndexByteString", "internal/bytealg.IndexString", "math.Float32frombits", "math.Float32bits"], unfollowed := true, recurses := true, named := ["unicode/utf8.first", "unicode/utf8.acceptRanges", "internal/bytealg.MaxLen"], apart := false, laid := [("unicode/utf8.acceptRanges", laid_unicode_utf8_acceptRanges), ("unicode/utf8.first", laid_unicode_utf8_first)] }
def SenseNoneSaid : Prop := senseNoneRow.holds Tryz.pinned (OpenSpec.ofChange senseNoneSpec)

/-- ITS FALSE NEIGHBOUR: 'it returns false'. Refute it at one input. -/
def senseNoneWrong : ChangeSpec := { name := "senseNone", fn := fun _ => fun
  | [d1, d2] => { results := [.lit (.bool false)], args := [d1, d2] }
  | _ => none }
def SenseNoneWrongFalsely : Prop := senseNoneRow.holds Tryz.pinned (OpenSpec.ofChange senseNoneWrong)

/- THE SECOND FORM. 'bulk': how many values and letters a reading holds, each counted each time it is reached (what is shared counts as often as it is met; a slice's spare places count too). A statement '..UptoSaid' is the law's where the arguments, and the package variables that the reading takes, are together of bulk at most 1048576: NARROWER than '..Said'. Prove '..Said' where nothing that the law and all that it calls make is longer than what came in: it says more and counts as full. Else prove '..UptoSaid'. A law counts once. -/
mutual
def uptoBulk {H : Type} : DataW H → Nat
  | .lit (.string bytes) => bytes.length + 1
  | .lit _ => 1
  | .nil => 1
  | .ptr d => uptoBulk d + 1
  | .slice elems spare => uptoBulkAll elems + uptoBulkAll spare + 1
  | .agg parts => uptoBulkAll parts + 1
  | .iface _ d => uptoBulk d + 1
  | .map entries => uptoBulkEntries entries + 1
  | .held _ => 1
def uptoBulkAll {H : Type} : List (DataW H) → Nat
  | [] => 0
  | d :: r => uptoBulk d + uptoBulkAll r
def uptoBulkEntries {H : Type} : List (Lit × DataW H) → Nat
  | [] => 0
  | x :: r => uptoBulkEntry x + uptoBulkEntries r
def uptoBulkEntry {H : Type} : Lit × DataW H → Nat
  | (.string bytes, d) => bytes.length + uptoBulk d + 1
  | (_, d) => uptoBulk d + 1
 end
def uptoSmall : (H : Type) → List (DataW H) → Bool := fun _ ds => decide (uptoBulkAll ds ≤ 1048576)
def OpenSpec.upto (s : _root_.Go.ChangeSpec) : _root_.Go.OpenSpec := { _root_.Go.OpenSpec.ofChange s with cond := some uptoSmall }

/-- 'playpenlaw29.SenseLocals', WHERE WHAT IT READS IS OF BULK AT MOST 1048576: true; the input reads as it did. -/
def senseLocalsUptoRow : OpenClaim := { program := "ytlabadkfkbenoaagreatdoor", sum := "63eff91c465733abe6d7457fd700afa42a589bdec129ecbefb5d88e88d8d0883", func := "playpen/playpenlaw29.SenseLocals", spec := "senseLocals", inPlace := ["internal/bytealg.IndexByteString", "internal/bytealg.IndexString", "math.Float32frombits", "math.Float32bits"], unfollowed := true, recurses := true, named := ["unicode/utf8.first", "unicode/utf8.acceptRanges", "internal/bytealg.MaxLen"], loops := true, apart := false, laid := [("unicode/utf8.acceptRanges", laid_unicode_utf8_acceptRanges), ("unicode/utf8.first", laid_unicode_utf8_first)], narrowed := true }
def SenseLocalsUptoSaid : Prop := senseLocalsUptoRow.holds Tryz.pinned (OpenSpec.upto senseLocalsSpec)

/-- 'playpenlaw29.SenseCalm', WHERE WHAT IT READS IS OF BULK AT MOST 1048576: true; the input reads as it did. -/
def senseCalmUptoRow : OpenClaim := { program := "ytlabadkfkbenoaagreatdoor", sum := "63eff91c465733abe6d7457fd700afa42a589bdec129ecbefb5d88e88d8d0883", func := "playpen/playpenlaw29.SenseCalm", spec := "senseCalm", inPlace := ["internal/bytealg.IndexByteString", "internal/bytealg.IndexString", "math.Float32frombits", "math.Float32bits"], unfollowed := true, recurses := true, named := ["unicode/utf8.first", "unicode/utf8.acceptRanges", "internal/bytealg.MaxLen"], loops := true, apart := false, laid := [("unicode/utf8.acceptRanges", laid_unicode_utf8_acceptRanges), ("unicode/utf8.first", laid_unicode_utf8_first)], narrowed := true }
def SenseCalmUptoSaid : Prop := senseCalmUptoRow.holds Tryz.pinned (OpenSpec.upto senseCalmSpec)

/-- 'playpenlaw29.SenseMore', WHERE WHAT IT READS IS OF BULK AT MOST 1048576: true; the input reads as it did. -/
def senseMoreUptoRow : OpenClaim := { program := "ytlabadkfkbenoaagreatdoor", sum := "63eff91c465733abe6d7457fd700afa42a589bdec129ecbefb5d88e88d8d0883", func := "playpen/playpenlaw29.SenseMore", spec := "senseMore", inPlace := ["internal/bytealg.IndexByteString", "internal/bytealg.IndexString", "math.Float32frombits", "math.Float32bits"], unfollowed := true, recurses := true, named := ["unicode/utf8.first", "unicode/utf8.acceptRanges", "internal/bytealg.MaxLen"], loops := true, apart := false, laid := [("unicode/utf8.acceptRanges", laid_unicode_utf8_acceptRanges), ("unicode/utf8.first", laid_unicode_utf8_first)], narrowed := true }
def SenseMoreUptoSaid : Prop := senseMoreUptoRow.holds Tryz.pinned (OpenSpec.upto senseMoreSpec)

/-- 'playpenlaw29.SenseCalls', WHERE WHAT IT READS IS OF BULK AT MOST 1048576: true; the input reads as it did. -/
def senseCallsUptoRow : OpenClaim := { program := "ytlabadkfkbenoaagreatdoor", sum := "63eff91c465733abe6d7457fd700afa42a589bdec129ecbefb5d88e88d8d0883", func := "playpen/playpenlaw29.SenseCalls", spec := "senseCalls", inPlace := ["internal/bytealg.IndexByteString", "internal/bytealg.IndexString", "math.Float32frombits", "math.Float32bits"], unfollowed := true, recurses := true, named := ["unicode/utf8.first", "unicode/utf8.acceptRanges", "internal/bytealg.MaxLen"], loops := true, apart := false, laid := [("unicode/utf8.acceptRanges", laid_unicode_utf8_acceptRanges), ("unicode/utf8.first", laid_unicode_utf8_first)], narrowed := true }
def SenseCallsUptoSaid : Prop := senseCallsUptoRow.holds Tryz.pinned (OpenSpec.upto senseCallsSpec)

/-- 'playpenlaw29.SenseNone', WHERE WHAT IT READS IS OF BULK AT MOST 1048576: true; the input reads as it did. -/
def senseNoneUptoRow : OpenClaim := { program := "ytlabadkfkbenoaagreatdoor", sum := "63eff91c465733abe6d7457fd700afa42a589bdec129ecbefb5d88e88d8d0883", func := "playpen/playpenlaw29.SenseNone", spec := "senseNone", inPlace := ["internal/bytealg.IndexByteString", "internal/bytealg.IndexString", "math.Float32frombits", "math.Float32bits"], unfollowed := true, recurses := true, named := ["unicode/utf8.first", "unicode/utf8.acceptRanges", "internal/bytealg.MaxLen"], apart := false, laid := [("unicode/utf8.acceptRanges", laid_unicode_utf8_acceptRanges), ("unicode/utf8.first", laid_unicode_utf8_first)], narrowed := true }
def SenseNoneUptoSaid : Prop := senseNoneUptoRow.holds Tryz.pinned (OpenSpec.upto senseNoneSpec)

end Rows
end Go.Proofs.YtlabadkfkbenoaaGreatDoor
