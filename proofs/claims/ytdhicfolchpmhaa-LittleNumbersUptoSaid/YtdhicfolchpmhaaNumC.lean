/- LittleNumbers: the walk at every argument. -/
import Derived.Test.YtdhicfolchpmhaaNumB
namespace Go.Proofs.Ytdhicfolchpmhaa
open Go.ChangeShapes Go.WideShapes Go.ChangeAt Go.RowKit
set_option linter.unusedVariables false
set_option linter.unusedSimpArgs false

set_option maxHeartbeats 1000000 in
set_option maxRecDepth 100000 in
theorem numbers_empty (w : World) (ao : Option Addr) (cap : Nat) :
    Calls Try.prog 10 #[.slice ao 0 cap] w fun e w' => e = .returned (.bool true) ∧ Below w.heap.size w w' := by
  go_enter Try.func10, Try.ntmps10
  go_wp2_with fail
  refine (lives_any _).mono ?_
  rintro e w1 ⟨rfl, hb1⟩
  have hB1 := hid hb1
  clear hb1
  go_wp2_with fail
  refine wp_loop_rounds 1 ?_
  rw [rounds_succ]
  go_wp2_with fail
  refine (keep_nil _ _).mono ?_
  rintro e w' ⟨rfl, rfl⟩
  go_wp2_with fail
  go_ret
  exact ⟨rfl, hB1.out⟩

set_option maxRecDepth 100000 in
theorem numbers_top (w : World) {H : Type} {enc : TypeId × Value → H} {base : Nat} {p : List MemPlace} (v : Value) (d : DataW H) (hval : Value.okWide Try.prog w .any base 62 v) (h : DataW.Trod enc Try.prog w 0 (fun _ => true) true 62 v d p)
    (hw : Rows.uptoBulk d ≤ 1048576) :
    Calls Try.prog 10 #[v] w fun e w' => e = .returned (.bool true) ∧ Below w.heap.size w w' := by
  obtain ⟨a, len, cap, rfl, hr⟩ := numbers_open w v d hval h hw
  rcases hr with rfl | ⟨b, off, rows, rfl, hlen, hbig, hok⟩
  · exact numbers_empty w a cap
  · exact numbers_walk w b off len cap rows hlen.symm hbig hok
end Go.Proofs.Ytdhicfolchpmhaa
