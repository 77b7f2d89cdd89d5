/-
  No cell of these rows narrows 'for every input' (looked for: loops, veiled, ifaces, maps, wideKeys, modest, calm, conditions, laid).
  DERIVED. THE GIVEN ROWS OF THIS SEAT. 11 by the template 'for every input the law returns true; each argument reads behind the call as it read before'; 0 by the template 'total and deterministic' (their statements: YtdhicfolchpmhaaTotals.lean).
  GIVEN WITH THE SEED: the statements are not yours to turn. If you find one false, say at which input.
  Laid BY PROGRAM, IN A SANDBOX (cutbox-rows.mjs): the forced cells as the released guide's own fill.sh prints them over the translation 4299265c2325432e… (all of the seat's roots in one cut). By AI agents, Wed Nov 11 2026. No macro, syntax, notation, axiom, sorry.
-/
import Derived.Test.YtdhicfolchpmhaaChecked
import GoSem.Claim
import GoSem.ClaimJoined
import GoSem.ClaimMapViews
import Derived.JoinedTies
import Derived.KernelRfl
namespace Go.Proofs.Ytdhicfolchpmhaa
/- THE CELL 'sum', in the pinned program and in every row, IS THE sha256 OF THE DUMP (.gsa) THAT YtdhicfolchpmhaaProg.lean LOADS. Nothing in Lean hashes anything: it is a label: what it is worth is what the hold of that sum in a sandbox is worth. -/
noncomputable def Try.pinned : Pinned := { name := "ytdhicfolchpmhaa", sum := "4299265c2325432ee7ecf86a5622c02405d35df804b71e43e96f0313961bfdb5", checked := Try.checked }
namespace Rows
def none {H : Type} : Left H := { results := [], args := [] }

/-- 'playpenlaw02.LittleNames': WHATEVER THE INPUT: true; the input reads as it did. -/
def littleNamesSpec : ChangeSpec := { name := "littleNames", fn := fun _ => fun
  | [] => { results := [.lit (.bool true)], args := [] }
  | _ => none }
def littleNamesRow : OpenClaim := { program := "ytdhicfolchpmhaa", sum := "4299265c2325432ee7ecf86a5622c02405d35df804b71e43e96f0313961bfdb5", func := "playpen/playpenlaw02.LittleNames", spec := "littleNames", apart := false }
def LittleNamesSaid : Prop := littleNamesRow.holds Try.pinned (OpenSpec.ofChange littleNamesSpec)

/-- ITS FALSE NEIGHBOUR: 'it returns false'. Refute it at one input. -/
def littleNamesWrong : ChangeSpec := { name := "littleNames", fn := fun _ => fun
  | [] => { results := [.lit (.bool false)], args := [] }
  | _ => none }
def LittleNamesWrongFalsely : Prop := littleNamesRow.holds Try.pinned (OpenSpec.ofChange littleNamesWrong)

/-- 'playpenlaw02.LittleTurned': WHATEVER THE INPUT: true; the input reads as it did. -/
def littleTurnedSpec : ChangeSpec := { name := "littleTurned", fn := fun _ => fun
  | [d1, d2, d3] => { results := [.lit (.bool true)], args := [d1, d2, d3] }
  | _ => none }
def littleTurnedRow : OpenClaim := { program := "ytdhicfolchpmhaa", sum := "4299265c2325432ee7ecf86a5622c02405d35df804b71e43e96f0313961bfdb5", func := "playpen/playpenlaw02.LittleTurned", spec := "littleTurned", apart := false }
def LittleTurnedSaid : Prop := littleTurnedRow.holds Try.pinned (OpenSpec.ofChange littleTurnedSpec)

/-- ITS FALSE NEIGHBOUR: 'it returns false'. Refute it at one input. -/
def littleTurnedWrong : ChangeSpec := { name := "littleTurned", fn := fun _ => fun
  | [d1, d2, d3] => { results := [.lit (.bool false)], args := [d1, d2, d3] }
  | _ => none }
def LittleTurnedWrongFalsely : Prop := littleTurnedRow.holds Try.pinned (OpenSpec.ofChange littleTurnedWrong)

/-- 'playpenlaw02.LittleSums': WHATEVER THE INPUT: true; the input reads as it did. -/
def littleSumsSpec : ChangeSpec := { name := "littleSums", fn := fun _ => fun
  | [d] => { results := [.lit (.bool true)], args := [d] }
  | _ => none }
def littleSumsRow : OpenClaim := { program := "ytdhicfolchpmhaa", sum := "4299265c2325432ee7ecf86a5622c02405d35df804b71e43e96f0313961bfdb5", func := "playpen/playpenlaw02.LittleSums", spec := "littleSums", apart := false }
def LittleSumsSaid : Prop := littleSumsRow.holds Try.pinned (OpenSpec.ofChange littleSumsSpec)

/-- ITS FALSE NEIGHBOUR: 'it returns false'. Refute it at one input. -/
def littleSumsWrong : ChangeSpec := { name := "littleSums", fn := fun _ => fun
  | [d] => { results := [.lit (.bool false)], args := [d] }
  | _ => none }
def LittleSumsWrongFalsely : Prop := littleSumsRow.holds Try.pinned (OpenSpec.ofChange littleSumsWrong)

/-- 'playpenlaw02.LittleJoins': WHATEVER THE INPUT: true; the input reads as it did. -/
def littleJoinsSpec : ChangeSpec := { name := "littleJoins", fn := fun _ => fun
  | [d1, d2] => { results := [.lit (.bool true)], args := [d1, d2] }
  | _ => none }
def littleJoinsRow : OpenClaim := { program := "ytdhicfolchpmhaa", sum := "4299265c2325432ee7ecf86a5622c02405d35df804b71e43e96f0313961bfdb5", func := "playpen/playpenlaw02.LittleJoins", spec := "littleJoins", apart := false }
def LittleJoinsSaid : Prop := littleJoinsRow.holds Try.pinned (OpenSpec.ofChange littleJoinsSpec)

/-- ITS FALSE NEIGHBOUR: 'it returns false'. Refute it at one input. -/
def littleJoinsWrong : ChangeSpec := { name := "littleJoins", fn := fun _ => fun
  | [d1, d2] => { results := [.lit (.bool false)], args := [d1, d2] }
  | _ => none }
def LittleJoinsWrongFalsely : Prop := littleJoinsRow.holds Try.pinned (OpenSpec.ofChange littleJoinsWrong)

/-- 'playpenlaw02.LittleThere': WHATEVER THE INPUT: true; the input reads as it did. -/
def littleThereSpec : ChangeSpec := { name := "littleThere", fn := fun _ => fun
  | [d1, d2, d3] => { results := [.lit (.bool true)], args := [d1, d2, d3] }
  | _ => none }
def littleThereRow : OpenClaim := { program := "ytdhicfolchpmhaa", sum := "4299265c2325432ee7ecf86a5622c02405d35df804b71e43e96f0313961bfdb5", func := "playpen/playpenlaw02.LittleThere", spec := "littleThere", apart := false }
def LittleThereSaid : Prop := littleThereRow.holds Try.pinned (OpenSpec.ofChange littleThereSpec)

/-- ITS FALSE NEIGHBOUR: 'it returns false'. Refute it at one input. -/
def littleThereWrong : ChangeSpec := { name := "littleThere", fn := fun _ => fun
  | [d1, d2, d3] => { results := [.lit (.bool false)], args := [d1, d2, d3] }
  | _ => none }
def LittleThereWrongFalsely : Prop := littleThereRow.holds Try.pinned (OpenSpec.ofChange littleThereWrong)

/-- 'playpenlaw02.LittleOver': WHATEVER THE INPUT: true; the input reads as it did. -/
def littleOverSpec : ChangeSpec := { name := "littleOver", fn := fun _ => fun
  | [d1, d2, d3, d4] => { results := [.lit (.bool true)], args := [d1, d2, d3, d4] }
  | _ => none }
def littleOverRow : OpenClaim := { program := "ytdhicfolchpmhaa", sum := "4299265c2325432ee7ecf86a5622c02405d35df804b71e43e96f0313961bfdb5", func := "playpen/playpenlaw02.LittleOver", spec := "littleOver", apart := false }
def LittleOverSaid : Prop := littleOverRow.holds Try.pinned (OpenSpec.ofChange littleOverSpec)

/-- ITS FALSE NEIGHBOUR: 'it returns false'. Refute it at one input. -/
def littleOverWrong : ChangeSpec := { name := "littleOver", fn := fun _ => fun
  | [d1, d2, d3, d4] => { results := [.lit (.bool false)], args := [d1, d2, d3, d4] }
  | _ => none }
def LittleOverWrongFalsely : Prop := littleOverRow.holds Try.pinned (OpenSpec.ofChange littleOverWrong)

/-- 'playpenlaw02.LittleLies': WHATEVER THE INPUT: true; the input reads as it did. -/
def littleLiesSpec : ChangeSpec := { name := "littleLies", fn := fun _ => fun
  | [d1, d2] => { results := [.lit (.bool true)], args := [d1, d2] }
  | _ => none }
def littleLiesRow : OpenClaim := { program := "ytdhicfolchpmhaa", sum := "4299265c2325432ee7ecf86a5622c02405d35df804b71e43e96f0313961bfdb5", func := "playpen/playpenlaw02.LittleLies", spec := "littleLies", apart := false }
def LittleLiesSaid : Prop := littleLiesRow.holds Try.pinned (OpenSpec.ofChange littleLiesSpec)

/-- ITS FALSE NEIGHBOUR: 'it returns false'. Refute it at one input. -/
def littleLiesWrong : ChangeSpec := { name := "littleLies", fn := fun _ => fun
  | [d1, d2] => { results := [.lit (.bool false)], args := [d1, d2] }
  | _ => none }
def LittleLiesWrongFalsely : Prop := littleLiesRow.holds Try.pinned (OpenSpec.ofChange littleLiesWrong)

/-- 'playpenlaw02.LittleNumbers': WHATEVER THE INPUT: true; the input reads as it did. -/
def littleNumbersSpec : ChangeSpec := { name := "littleNumbers", fn := fun _ => fun
  | [d] => { results := [.lit (.bool true)], args := [d] }
  | _ => none }
def littleNumbersRow : OpenClaim := { program := "ytdhicfolchpmhaa", sum := "4299265c2325432ee7ecf86a5622c02405d35df804b71e43e96f0313961bfdb5", func := "playpen/playpenlaw02.LittleNumbers", spec := "littleNumbers", apart := false }
def LittleNumbersSaid : Prop := littleNumbersRow.holds Try.pinned (OpenSpec.ofChange littleNumbersSpec)

/-- ITS FALSE NEIGHBOUR: 'it returns false'. Refute it at one input. -/
def littleNumbersWrong : ChangeSpec := { name := "littleNumbers", fn := fun _ => fun
  | [d] => { results := [.lit (.bool false)], args := [d] }
  | _ => none }
def LittleNumbersWrongFalsely : Prop := littleNumbersRow.holds Try.pinned (OpenSpec.ofChange littleNumbersWrong)

/-- 'playpenlaw02.LittleSpans': WHATEVER THE INPUT: true; the input reads as it did. -/
def littleSpansSpec : ChangeSpec := { name := "littleSpans", fn := fun _ => fun
  | [d] => { results := [.lit (.bool true)], args := [d] }
  | _ => none }
def littleSpansRow : OpenClaim := { program := "ytdhicfolchpmhaa", sum := "4299265c2325432ee7ecf86a5622c02405d35df804b71e43e96f0313961bfdb5", func := "playpen/playpenlaw02.LittleSpans", spec := "littleSpans", apart := false }
def LittleSpansSaid : Prop := littleSpansRow.holds Try.pinned (OpenSpec.ofChange littleSpansSpec)

/-- ITS FALSE NEIGHBOUR: 'it returns false'. Refute it at one input. -/
def littleSpansWrong : ChangeSpec := { name := "littleSpans", fn := fun _ => fun
  | [d] => { results := [.lit (.bool false)], args := [d] }
  | _ => none }
def LittleSpansWrongFalsely : Prop := littleSpansRow.holds Try.pinned (OpenSpec.ofChange littleSpansWrong)

/-- 'playpenlaw02.LittleRuns': WHATEVER THE INPUT: true; the input reads as it did. -/
def littleRunsSpec : ChangeSpec := { name := "littleRuns", fn := fun _ => fun
  | [d] => { results := [.lit (.bool true)], args := [d] }
  | _ => none }
def littleRunsRow : OpenClaim := { program := "ytdhicfolchpmhaa", sum := "4299265c2325432ee7ecf86a5622c02405d35df804b71e43e96f0313961bfdb5", func := "playpen/playpenlaw02.LittleRuns", spec := "littleRuns", apart := false }
def LittleRunsSaid : Prop := littleRunsRow.holds Try.pinned (OpenSpec.ofChange littleRunsSpec)

/-- ITS FALSE NEIGHBOUR: 'it returns false'. Refute it at one input. -/
def littleRunsWrong : ChangeSpec := { name := "littleRuns", fn := fun _ => fun
  | [d] => { results := [.lit (.bool false)], args := [d] }
  | _ => none }
def LittleRunsWrongFalsely : Prop := littleRunsRow.holds Try.pinned (OpenSpec.ofChange littleRunsWrong)

/-- 'playpenlaw02.LittleMends': WHATEVER THE INPUT: true; the input reads as it did. -/
def littleMendsSpec : ChangeSpec := { name := "littleMends", fn := fun _ => fun
  | [d1, d2, d3] => { results := [.lit (.bool true)], args := [d1, d2, d3] }
  | _ => none }
def littleMendsRow : OpenClaim := { program := "ytdhicfolchpmhaa", sum := "4299265c2325432ee7ecf86a5622c02405d35df804b71e43e96f0313961bfdb5", func := "playpen/playpenlaw02.LittleMends", spec := "littleMends", apart := false }
def LittleMendsSaid : Prop := littleMendsRow.holds Try.pinned (OpenSpec.ofChange littleMendsSpec)

/-- ITS FALSE NEIGHBOUR: 'it returns false'. Refute it at one input. -/
def littleMendsWrong : ChangeSpec := { name := "littleMends", fn := fun _ => fun
  | [d1, d2, d3] => { results := [.lit (.bool false)], args := [d1, d2, d3] }
  | _ => none }
def LittleMendsWrongFalsely : Prop := littleMendsRow.holds Try.pinned (OpenSpec.ofChange littleMendsWrong)

/- THE SECOND FORM. 'bulk': how many values and letters a reading holds, each counted each time it is reached (what is shared counts as often as it is met; a slice's spare places count too). A statement '..UptoSaid' is the law's where the arguments, and the package variables that the reading takes, are together of bulk at most 1048576: NARROWER than '..Said'. Prove '..Said' where nothing that the law and all that it calls make is longer than what came in: it says more and counts as full. Else prove '..UptoSaid'. A law counts once. -/
mutual
def uptoBulk {H : Type} : DataW H → Nat
  | .lit (.string bytes) => bytes.length + 1
  | .lit _ => 1
  | .nil => 1
  | .ptr d => uptoBulk d + 1
  | .slice elems spare => uptoBulkAll elems + uptoBulkAll spare + 1
  | .agg parts => uptoBulkAll parts + 1
  | .iface _ d => uptoBulk d + 1
  | .map entries => uptoBulkEntries entries + 1
  | .held _ => 1
def uptoBulkAll {H : Type} : List (DataW H) → Nat
  | [] => 0
  | d :: r => uptoBulk d + uptoBulkAll r
def uptoBulkEntries {H : Type} : List (Lit × DataW H) → Nat
  | [] => 0
  | x :: r => uptoBulkEntry x + uptoBulkEntries r
def uptoBulkEntry {H : Type} : Lit × DataW H → Nat
  | (.string bytes, d) => bytes.length + uptoBulk d + 1
  | (_, d) => uptoBulk d + 1
 end
def uptoSmall : (H : Type) → List (DataW H) → Bool := fun _ ds => decide (uptoBulkAll ds ≤ 1048576)
def OpenSpec.upto (s : _root_.Go.ChangeSpec) : _root_.Go.OpenSpec := { _root_.Go.OpenSpec.ofChange s with cond := some uptoSmall }

/-- 'playpenlaw02.LittleNames', WHERE WHAT IT READS IS OF BULK AT MOST 1048576: true; the input reads as it did. -/
def littleNamesUptoRow : OpenClaim := { program := "ytdhicfolchpmhaa", sum := "4299265c2325432ee7ecf86a5622c02405d35df804b71e43e96f0313961bfdb5", func := "playpen/playpenlaw02.LittleNames", spec := "littleNames", apart := false, narrowed := true }
def LittleNamesUptoSaid : Prop := littleNamesUptoRow.holds Try.pinned (OpenSpec.upto littleNamesSpec)

/-- 'playpenlaw02.LittleTurned', WHERE WHAT IT READS IS OF BULK AT MOST 1048576: true; the input reads as it did. -/
def littleTurnedUptoRow : OpenClaim := { program := "ytdhicfolchpmhaa", sum := "4299265c2325432ee7ecf86a5622c02405d35df804b71e43e96f0313961bfdb5", func := "playpen/playpenlaw02.LittleTurned", spec := "littleTurned", apart := false, narrowed := true }
def LittleTurnedUptoSaid : Prop := littleTurnedUptoRow.holds Try.pinned (OpenSpec.upto littleTurnedSpec)

/-- 'playpenlaw02.LittleSums', WHERE WHAT IT READS IS OF BULK AT MOST 1048576: true; the input reads as it did. -/
def littleSumsUptoRow : OpenClaim := { program := "ytdhicfolchpmhaa", sum := "4299265c2325432ee7ecf86a5622c02405d35df804b71e43e96f0313961bfdb5", func := "playpen/playpenlaw02.LittleSums", spec := "littleSums", apart := false, narrowed := true }
def LittleSumsUptoSaid : Prop := littleSumsUptoRow.holds Try.pinned (OpenSpec.upto littleSumsSpec)

/-- 'playpenlaw02.LittleJoins', WHERE WHAT IT READS IS OF BULK AT MOST 1048576: true; the input reads as it did. -/
def littleJoinsUptoRow : OpenClaim := { program := "ytdhicfolchpmhaa", sum := "4299265c2325432ee7ecf86a5622c02405d35df804b71e43e96f0313961bfdb5", func := "playpen/playpenlaw02.LittleJoins", spec := "littleJoins", apart := false, narrowed := true }
def LittleJoinsUptoSaid : Prop := littleJoinsUptoRow.holds Try.pinned (OpenSpec.upto littleJoinsSpec)

/-- 'playpenlaw02.LittleThere', WHERE WHAT IT READS IS OF BULK AT MOST 1048576: true; the input reads as it did. -/
def littleThereUptoRow : OpenClaim := { program := "ytdhicfolchpmhaa", sum := "4299265c2325432ee7ecf86a5622c02405d35df804b71e43e96f0313961bfdb5", func := "playpen/playpenlaw02.LittleThere", spec := "littleThere", apart := false, narrowed := true }
def LittleThereUptoSaid : Prop := littleThereUptoRow.holds Try.pinned (OpenSpec.upto littleThereSpec)

/-- 'playpenlaw02.LittleOver', WHERE WHAT IT READS IS OF BULK AT MOST 1048576: true; the input reads as it did. -/
def littleOverUptoRow : OpenClaim := { program := "ytdhicfolchpmhaa", sum := "4299265c2325432ee7ecf86a5622c02405d35df804b71e43e96f0313961bfdb5", func := "playpen/playpenlaw02.LittleOver", spec := "littleOver", apart := false, narrowed := true }
def LittleOverUptoSaid : Prop := littleOverUptoRow.holds Try.pinned (OpenSpec.upto littleOverSpec)

/-- 'playpenlaw02.LittleLies', WHERE WHAT IT READS IS OF BULK AT MOST 1048576: true; the input reads as it did. -/
def littleLiesUptoRow : OpenClaim := { program := "ytdhicfolchpmhaa", sum := "4299265c2325432ee7ecf86a5622c02405d35df804b71e43e96f0313961bfdb5", func := "playpen/playpenlaw02.LittleLies", spec := "littleLies", apart := false, narrowed := true }
def LittleLiesUptoSaid : Prop := littleLiesUptoRow.holds Try.pinned (OpenSpec.upto littleLiesSpec)

/-- 'playpenlaw02.LittleNumbers', WHERE WHAT IT READS IS OF BULK AT MOST 1048576: true; the input reads as it did. -/
def littleNumbersUptoRow : OpenClaim := { program := "ytdhicfolchpmhaa", sum := "4299265c2325432ee7ecf86a5622c02405d35df804b71e43e96f0313961bfdb5", func := "playpen/playpenlaw02.LittleNumbers", spec := "littleNumbers", apart := false, narrowed := true }
def LittleNumbersUptoSaid : Prop := littleNumbersUptoRow.holds Try.pinned (OpenSpec.upto littleNumbersSpec)

/-- 'playpenlaw02.LittleSpans', WHERE WHAT IT READS IS OF BULK AT MOST 1048576: true; the input reads as it did. -/
def littleSpansUptoRow : OpenClaim := { program := "ytdhicfolchpmhaa", sum := "4299265c2325432ee7ecf86a5622c02405d35df804b71e43e96f0313961bfdb5", func := "playpen/playpenlaw02.LittleSpans", spec := "littleSpans", apart := false, narrowed := true }
def LittleSpansUptoSaid : Prop := littleSpansUptoRow.holds Try.pinned (OpenSpec.upto littleSpansSpec)

/-- 'playpenlaw02.LittleRuns', WHERE WHAT IT READS IS OF BULK AT MOST 1048576: true; the input reads as it did. -/
def littleRunsUptoRow : OpenClaim := { program := "ytdhicfolchpmhaa", sum := "4299265c2325432ee7ecf86a5622c02405d35df804b71e43e96f0313961bfdb5", func := "playpen/playpenlaw02.LittleRuns", spec := "littleRuns", apart := false, narrowed := true }
def LittleRunsUptoSaid : Prop := littleRunsUptoRow.holds Try.pinned (OpenSpec.upto littleRunsSpec)

/-- 'playpenlaw02.LittleMends', WHERE WHAT IT READS IS OF BULK AT MOST 1048576: true; the input reads as it did. -/
def littleMendsUptoRow : OpenClaim := { program := "ytdhicfolchpmhaa", sum := "4299265c2325432ee7ecf86a5622c02405d35df804b71e43e96f0313961bfdb5", func := "playpen/playpenlaw02.LittleMends", spec := "littleMends", apart := false, narrowed := true }
def LittleMendsUptoSaid : Prop := littleMendsUptoRow.holds Try.pinned (OpenSpec.upto littleMendsSpec)

end Rows
end Go.Proofs.Ytdhicfolchpmhaa
