/- ScriptSame: walks. No condition. -/
import Derived.Test.YtmbdlhgclkbdiaaTreeW
namespace Go.Proofs.Ytmbdlhgclkbdiaa
open Go.RowKit
set_option linter.unusedVariables false
set_option linter.unusedSimpArgs false

open Go.ChangeShapes Go.WideShapes Go.ChangeAt
set_option maxRecDepth 100000 in
theorem same_top (w : World) {H : Type} {enc : TypeId × Value → H} {base base' : Nat} {p p' : List MemPlace} (v : Value) (d : DataW H) (hval : Value.okWide Try.prog w .any base 42 v) (h : DataW.Trod enc Try.prog w 0 (fun _ => true) true 42 v d p)
    (v' : Value) (d' : DataW H) (hval' : Value.okWide Try.prog w .any base' 42 v') (h' : DataW.Trod enc Try.prog w 0 (fun _ => true) true 42 v' d' p') (x : Int) (wf : (Lit.int .i64 x).wf = true) (hs : Rows.uptoBulk d ≤ 1048576) (hs' : Rows.uptoBulk d' ≤ 1048576) :
    Calls Try.prog 8 #[v, v', .int .i64 x] w fun e w' => e = .returned (.bool true) ∧ Below w.heap.size w w' := by
  obtain ⟨u, hu, ok⟩ := unit_open hval h hs
  obtain ⟨u', hu', ok'⟩ := unit_open hval' h' hs'
  exact same8 u u' v v' x w ok ok' hu hu'

end Go.Proofs.Ytmbdlhgclkbdiaa
