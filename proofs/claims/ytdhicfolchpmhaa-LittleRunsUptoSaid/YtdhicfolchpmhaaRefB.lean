/- Walks: the document's At, All, at every width. -/
import Derived.Test.YtdhicfolchpmhaaRefA
namespace Go.Proofs.Ytdhicfolchpmhaa
open Go.RowKit
set_option linter.unusedVariables false
set_option linter.unusedSimpArgs false

theorem number104' (W : Nat) (hW : 1 ≤ W) (hW8 : W ≤ 8) (ao : Option Addr) (n cap : Nat) (l : List Int) (k : Nat) (w : World) (x y : Int) (hx : x = W) (hy : y = k) (hn : n = l.length) (hl : l.length ≤ 140737488351232) (hi : Ints .u8 w ao l) (hk : k + W ≤ l.length) :
    Calls Try.prog 104 #[.int .i64 x, .slice ao n cap, .int .i64 y] w fun e w' => e = .returned (.int .u64 (num ((l.drop k).take W))) ∧ w = w' := by
  subst hx hy
  exact number104 W hW hW8 ao n cap l k w hn hl hi hk

set_option maxHeartbeats 1000000 in
theorem refat (W : Nat) (hW : 1 ≤ W) (hW8 : W ≤ 8) (ao : Option Addr) (n cap : Nat) (l : List Int) (k : Nat) (w : World) (hn : n = l.length) (hl : l.length ≤ 140737488351232) (hi : Ints .u8 w ao l) (hk : k + W ≤ l.length) :
    Calls Try.prog 79 #[.int .i64 W, .slice ao n cap, .int .i64 k] w fun e w' => e = .returned (.tuple #[.int .u64 (num ((l.drop k).take W)), .int .i64 0]) ∧ w = w' := by
  have hc := hid (number104 W hW hW8 ao n cap l k w hn hl hi hk)
  clear hi
  subst hn
  have hw1 : IntKind.i64.wrap ((l.length : Int) - (W : Int)) = (l.length : Int) - (W : Int) := IntWalk.i64_in _ (by omega)
  have hk1 : (k : Int) ≤ (l.length : Int) - (W : Int) := by omega
  go_enter Try.func79, Try.ntmps79
  go_wp2_with fail
  refine hc.out.mono ?_
  rintro e w1 ⟨rfl, rfl⟩
  go_wp2_with fail
  go_ret2
  exact ⟨rfl, rfl⟩
set_option maxHeartbeats 1000000 in
theorem refatNo (W : Nat) (hW : 1 ≤ W) (hW8 : W ≤ 8) (ao : Option Addr) (n cap : Nat) (at_ : Int) (w : World) (hat : -9223372036854775808 ≤ at_ ∧ at_ ≤ 9223372036854775807) (hl : n ≤ 140737488355328) (h : ¬ (0 ≤ at_ ∧ at_ + W ≤ (n : Int))) :
    Calls Try.prog 79 #[.int .i64 W, .slice ao n cap, .int .i64 at_] w fun e w' => e = .returned (.tuple #[.int .u64 0, .int .i64 20]) ∧ w = w' := by
  have hw1 : IntKind.i64.wrap ((n : Int) - (W : Int)) = (n : Int) - (W : Int) := IntWalk.i64_in _ (by omega)
  by_cases h0 : at_ < 0
  · clear h
    go_enter Try.func79, Try.ntmps79
    go_wp2_with fail
    go_ret2
    exact ⟨rfl, rfl⟩
  · have h1 : (n : Int) - (W : Int) < at_ := by omega
    clear h
    go_enter Try.func79, Try.ntmps79
    go_wp2_with fail
    go_ret2
    exact ⟨rfl, rfl⟩

end Go.Proofs.Ytdhicfolchpmhaa
