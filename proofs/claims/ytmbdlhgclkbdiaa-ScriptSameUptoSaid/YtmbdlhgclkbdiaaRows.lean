/-
  NARROWER THAN 'FOR EVERY INPUT', by the rows' own cells (each row's printed sentence says how): ScriptSame: loops.
  DERIVED. THE GIVEN ROWS OF THIS SEAT. 7 by the template 'for every input the law returns true; each argument reads behind the call as it read before'; 0 by the template 'total and deterministic' (their statements: YtmbdlhgclkbdiaaTotals.lean).
  GIVEN WITH THE SEED: the statements are not yours to turn. If you find one false, say at which input.
  Laid BY PROGRAM, IN A SANDBOX (cutbox-rows.mjs): the forced cells as the released guide's own fill.sh prints them over the translation aa00af91e4d68f81… (all of the seat's roots in one cut). By AI agents, Wed Nov 11 2026. No macro, syntax, notation, axiom, sorry.
-/
import Derived.Test.YtmbdlhgclkbdiaaChecked
import GoSem.Claim
import GoSem.ClaimJoined
import GoSem.ClaimMapViews
import Derived.JoinedTies
import Derived.KernelRfl
namespace Go.Proofs.Ytmbdlhgclkbdiaa
/- THE CELL 'sum', in the pinned program and in every row, IS THE sha256 OF THE DUMP (.gsa) THAT YtmbdlhgclkbdiaaProg.lean LOADS. Nothing in Lean hashes anything: it is a label: what it is worth is what the hold of that sum in a sandbox is worth. -/
noncomputable def Try.pinned : Pinned := { name := "ytmbdlhgclkbdiaa", sum := "aa00af91e4d68f81e7a1bcae9a676d59a5a5b48a18a73711c813ffa3f9c2a540", checked := Try.checked }
namespace Rows
def none {H : Type} : Left H := { results := [], args := [] }

/-- 'playpenlaw17.HostNames': WHATEVER THE INPUT: true; the input reads as it did. -/
def hostNamesSpec : ChangeSpec := { name := "hostNames", fn := fun _ => fun
  | [] => { results := [.lit (.bool true)], args := [] }
  | _ => none }
def hostNamesRow : OpenClaim := { program := "ytmbdlhgclkbdiaa", sum := "aa00af91e4d68f81e7a1bcae9a676d59a5a5b48a18a73711c813ffa3f9c2a540", func := "playpen/playpenlaw17.HostNames", spec := "hostNames", apart := false }
def HostNamesSaid : Prop := hostNamesRow.holds Try.pinned (OpenSpec.ofChange hostNamesSpec)

/-- ITS FALSE NEIGHBOUR: 'it returns false'. Refute it at one input. -/
def hostNamesWrong : ChangeSpec := { name := "hostNames", fn := fun _ => fun
  | [] => { results := [.lit (.bool false)], args := [] }
  | _ => none }
def HostNamesWrongFalsely : Prop := hostNamesRow.holds Try.pinned (OpenSpec.ofChange hostNamesWrong)

/-- 'playpenlaw29.SenseNames': WHATEVER THE INPUT: true; the input reads as it did. -/
def senseNamesSpec : ChangeSpec := { name := "senseNames", fn := fun _ => fun
  | [] => { results := [.lit (.bool true)], args := [] }
  | _ => none }
def senseNamesRow : OpenClaim := { program := "ytmbdlhgclkbdiaa", sum := "aa00af91e4d68f81e7a1bcae9a676d59a5a5b48a18a73711c813ffa3f9c2a540", func := "playpen/playpenlaw29.SenseNames", spec := "senseNames", apart := false }
def SenseNamesSaid : Prop := senseNamesRow.holds Try.pinned (OpenSpec.ofChange senseNamesSpec)

/-- ITS FALSE NEIGHBOUR: 'it returns false'. Refute it at one input. -/
def senseNamesWrong : ChangeSpec := { name := "senseNames", fn := fun _ => fun
  | [] => { results := [.lit (.bool false)], args := [] }
  | _ => none }
def SenseNamesWrongFalsely : Prop := senseNamesRow.holds Try.pinned (OpenSpec.ofChange senseNamesWrong)

/-- 'playpenlaw32.ShellNames': WHATEVER THE INPUT: true; the input reads as it did. -/
def shellNamesSpec : ChangeSpec := { name := "shellNames", fn := fun _ => fun
  | [] => { results := [.lit (.bool true)], args := [] }
  | _ => none }
def shellNamesRow : OpenClaim := { program := "ytmbdlhgclkbdiaa", sum := "aa00af91e4d68f81e7a1bcae9a676d59a5a5b48a18a73711c813ffa3f9c2a540", func := "playpen/playpenlaw32.ShellNames", spec := "shellNames", apart := false }
def ShellNamesSaid : Prop := shellNamesRow.holds Try.pinned (OpenSpec.ofChange shellNamesSpec)

/-- ITS FALSE NEIGHBOUR: 'it returns false'. Refute it at one input. -/
def shellNamesWrong : ChangeSpec := { name := "shellNames", fn := fun _ => fun
  | [] => { results := [.lit (.bool false)], args := [] }
  | _ => none }
def ShellNamesWrongFalsely : Prop := shellNamesRow.holds Try.pinned (OpenSpec.ofChange shellNamesWrong)

/-- 'playpenlaw28.ScriptSigns': WHATEVER THE INPUT: true; the input reads as it did. -/
def scriptSignsSpec : ChangeSpec := { name := "scriptSigns", fn := fun _ => fun
  | [] => { results := [.lit (.bool true)], args := [] }
  | _ => none }
def scriptSignsRow : OpenClaim := { program := "ytmbdlhgclkbdiaa", sum := "aa00af91e4d68f81e7a1bcae9a676d59a5a5b48a18a73711c813ffa3f9c2a540", func := "playpen/playpenlaw28.ScriptSigns", spec := "scriptSigns", apart := false }
def ScriptSignsSaid : Prop := scriptSignsRow.holds Try.pinned (OpenSpec.ofChange scriptSignsSpec)

/-- ITS FALSE NEIGHBOUR: 'it returns false'. Refute it at one input. -/
def scriptSignsWrong : ChangeSpec := { name := "scriptSigns", fn := fun _ => fun
  | [] => { results := [.lit (.bool false)], args := [] }
  | _ => none }
def ScriptSignsWrongFalsely : Prop := scriptSignsRow.holds Try.pinned (OpenSpec.ofChange scriptSignsWrong)

/-- 'playpenlaw17.HostWords': WHATEVER THE INPUT: true; the input reads as it did. -/
def hostWordsSpec : ChangeSpec := { name := "hostWords", fn := fun _ => fun
  | [d1, d2] => { results := [.lit (.bool true)], args := [d1, d2] }
  | _ => none }
def hostWordsRow : OpenClaim := { program := "ytmbdlhgclkbdiaa", sum := "aa00af91e4d68f81e7a1bcae9a676d59a5a5b48a18a73711c813ffa3f9c2a540", func := "playpen/playpenlaw17.HostWords", spec := "hostWords", apart := false }
def HostWordsSaid : Prop := hostWordsRow.holds Try.pinned (OpenSpec.ofChange hostWordsSpec)

/-- ITS FALSE NEIGHBOUR: 'it returns false'. Refute it at one input. -/
def hostWordsWrong : ChangeSpec := { name := "hostWords", fn := fun _ => fun
  | [d1, d2] => { results := [.lit (.bool false)], args := [d1, d2] }
  | _ => none }
def HostWordsWrongFalsely : Prop := hostWordsRow.holds Try.pinned (OpenSpec.ofChange hostWordsWrong)

/-- 'playpenlaw28.ScriptSame': WHATEVER THE INPUT: true; the input reads as it did. -/
def scriptSameSpec : ChangeSpec := { name := "scriptSame", fn := fun _ => fun
  | [d1, d2, d3] => { results := [.lit (.bool true)], args := [d1, d2, d3] }
  | _ => none }
def scriptSameRow : OpenClaim := { program := "ytmbdlhgclkbdiaa", sum := "aa00af91e4d68f81e7a1bcae9a676d59a5a5b48a18a73711c813ffa3f9c2a540", func := "playpen/playpenlaw28.ScriptSame", spec := "scriptSame", unfollowed := true, recurses := true, loops := true, apart := false }
def ScriptSameSaid : Prop := scriptSameRow.holds Try.pinned (OpenSpec.ofChange scriptSameSpec)

/-- ITS FALSE NEIGHBOUR: 'it returns false'. Refute it at one input. -/
def scriptSameWrong : ChangeSpec := { name := "scriptSame", fn := fun _ => fun
  | [d1, d2, d3] => { results := [.lit (.bool false)], args := [d1, d2, d3] }
  | _ => none }
def ScriptSameWrongFalsely : Prop := scriptSameRow.holds Try.pinned (OpenSpec.ofChange scriptSameWrong)

/-- 'playpenlaw04.FigureWord': WHATEVER THE INPUT: true; the input reads as it did. -/
def figureWordSpec : ChangeSpec := { name := "figureWord", fn := fun _ => fun
  | [d] => { results := [.lit (.bool true)], args := [d] }
  | _ => none }
def figureWordRow : OpenClaim := { program := "ytmbdlhgclkbdiaa", sum := "aa00af91e4d68f81e7a1bcae9a676d59a5a5b48a18a73711c813ffa3f9c2a540", func := "playpen/playpenlaw04.FigureWord", spec := "figureWord", apart := false }
def FigureWordSaid : Prop := figureWordRow.holds Try.pinned (OpenSpec.ofChange figureWordSpec)

/-- ITS FALSE NEIGHBOUR: 'it returns false'. Refute it at one input. -/
def figureWordWrong : ChangeSpec := { name := "figureWord", fn := fun _ => fun
  | [d] => { results := [.lit (.bool false)], args := [d] }
  | _ => none }
def FigureWordWrongFalsely : Prop := figureWordRow.holds Try.pinned (OpenSpec.ofChange figureWordWrong)

/- THE SECOND FORM. 'bulk': how many values and letters a reading holds, each counted each time it is reached (what is shared counts as often as it is met; a slice's spare places count too). A statement '..UptoSaid' is the law's where the arguments, and the package variables that the reading takes, are together of bulk at most 1048576: NARROWER than '..Said'. Prove '..Said' where nothing that the law and all that it calls make is longer than what came in: it says more and counts as full. Else prove '..UptoSaid'. A law counts once. -/
mutual
def uptoBulk {H : Type} : DataW H → Nat
  | .lit (.string bytes) => bytes.length + 1
  | .lit _ => 1
  | .nil => 1
  | .ptr d => uptoBulk d + 1
  | .slice elems spare => uptoBulkAll elems + uptoBulkAll spare + 1
  | .agg parts => uptoBulkAll parts + 1
  | .iface _ d => uptoBulk d + 1
  | .map entries => uptoBulkEntries entries + 1
  | .held _ => 1
def uptoBulkAll {H : Type} : List (DataW H) → Nat
  | [] => 0
  | d :: r => uptoBulk d + uptoBulkAll r
def uptoBulkEntries {H : Type} : List (Lit × DataW H) → Nat
  | [] => 0
  | x :: r => uptoBulkEntry x + uptoBulkEntries r
def uptoBulkEntry {H : Type} : Lit × DataW H → Nat
  | (.string bytes, d) => bytes.length + uptoBulk d + 1
  | (_, d) => uptoBulk d + 1
 end
def uptoSmall : (H : Type) → List (DataW H) → Bool := fun _ ds => decide (uptoBulkAll ds ≤ 1048576)
def OpenSpec.upto (s : _root_.Go.ChangeSpec) : _root_.Go.OpenSpec := { _root_.Go.OpenSpec.ofChange s with cond := some uptoSmall }

/-- 'playpenlaw17.HostNames', WHERE WHAT IT READS IS OF BULK AT MOST 1048576: true; the input reads as it did. -/
def hostNamesUptoRow : OpenClaim := { program := "ytmbdlhgclkbdiaa", sum := "aa00af91e4d68f81e7a1bcae9a676d59a5a5b48a18a73711c813ffa3f9c2a540", func := "playpen/playpenlaw17.HostNames", spec := "hostNames", apart := false, narrowed := true }
def HostNamesUptoSaid : Prop := hostNamesUptoRow.holds Try.pinned (OpenSpec.upto hostNamesSpec)

/-- 'playpenlaw29.SenseNames', WHERE WHAT IT READS IS OF BULK AT MOST 1048576: true; the input reads as it did. -/
def senseNamesUptoRow : OpenClaim := { program := "ytmbdlhgclkbdiaa", sum := "aa00af91e4d68f81e7a1bcae9a676d59a5a5b48a18a73711c813ffa3f9c2a540", func := "playpen/playpenlaw29.SenseNames", spec := "senseNames", apart := false, narrowed := true }
def SenseNamesUptoSaid : Prop := senseNamesUptoRow.holds Try.pinned (OpenSpec.upto senseNamesSpec)

/-- 'playpenlaw32.ShellNames', WHERE WHAT IT READS IS OF BULK AT MOST 1048576: true; the input reads as it did. -/
def shellNamesUptoRow : OpenClaim := { program := "ytmbdlhgclkbdiaa", sum := "aa00af91e4d68f81e7a1bcae9a676d59a5a5b48a18a73711c813ffa3f9c2a540", func := "playpen/playpenlaw32.ShellNames", spec := "shellNames", apart := false, narrowed := true }
def ShellNamesUptoSaid : Prop := shellNamesUptoRow.holds Try.pinned (OpenSpec.upto shellNamesSpec)

/-- 'playpenlaw28.ScriptSigns', WHERE WHAT IT READS IS OF BULK AT MOST 1048576: true; the input reads as it did. -/
def scriptSignsUptoRow : OpenClaim := { program := "ytmbdlhgclkbdiaa", sum := "aa00af91e4d68f81e7a1bcae9a676d59a5a5b48a18a73711c813ffa3f9c2a540", func := "playpen/playpenlaw28.ScriptSigns", spec := "scriptSigns", apart := false, narrowed := true }
def ScriptSignsUptoSaid : Prop := scriptSignsUptoRow.holds Try.pinned (OpenSpec.upto scriptSignsSpec)

/-- 'playpenlaw17.HostWords', WHERE WHAT IT READS IS OF BULK AT MOST 1048576: true; the input reads as it did. -/
def hostWordsUptoRow : OpenClaim := { program := "ytmbdlhgclkbdiaa", sum := "aa00af91e4d68f81e7a1bcae9a676d59a5a5b48a18a73711c813ffa3f9c2a540", func := "playpen/playpenlaw17.HostWords", spec := "hostWords", apart := false, narrowed := true }
def HostWordsUptoSaid : Prop := hostWordsUptoRow.holds Try.pinned (OpenSpec.upto hostWordsSpec)

/-- 'playpenlaw28.ScriptSame', WHERE WHAT IT READS IS OF BULK AT MOST 1048576: true; the input reads as it did. -/
def scriptSameUptoRow : OpenClaim := { program := "ytmbdlhgclkbdiaa", sum := "aa00af91e4d68f81e7a1bcae9a676d59a5a5b48a18a73711c813ffa3f9c2a540", func := "playpen/playpenlaw28.ScriptSame", spec := "scriptSame", unfollowed := true, recurses := true, loops := true, apart := false, narrowed := true }
def ScriptSameUptoSaid : Prop := scriptSameUptoRow.holds Try.pinned (OpenSpec.upto scriptSameSpec)

/-- 'playpenlaw04.FigureWord', WHERE WHAT IT READS IS OF BULK AT MOST 1048576: true; the input reads as it did. -/
def figureWordUptoRow : OpenClaim := { program := "ytmbdlhgclkbdiaa", sum := "aa00af91e4d68f81e7a1bcae9a676d59a5a5b48a18a73711c813ffa3f9c2a540", func := "playpen/playpenlaw04.FigureWord", spec := "figureWord", apart := false, narrowed := true }
def FigureWordUptoSaid : Prop := figureWordUptoRow.holds Try.pinned (OpenSpec.upto figureWordSpec)

end Rows
end Go.Proofs.Ytmbdlhgclkbdiaa
