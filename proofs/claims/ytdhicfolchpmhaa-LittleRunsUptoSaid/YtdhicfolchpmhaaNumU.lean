/- LittleNumbers: the contracts at every width in one. -/
import Derived.Test.YtdhicfolchpmhaaRefF
import Derived.Test.YtdhicfolchpmhaaKeepN
namespace Go.Proofs.Ytdhicfolchpmhaa
open Go.RowKit
set_option linter.unusedVariables false
set_option linter.unusedSimpArgs false

def Wid (W : Nat) : Prop := W = 1 ∨ W = 2 ∨ W = 4 ∨ W = 8
theorem Wid.of (y : Int) : Wid (wid y) := wid_cases y
theorem Wid.le {W : Nat} (h : Wid W) : 1 ≤ W ∧ W ≤ 8 := by rcases h with rfl | rfl | rfl | rfl <;> decide

theorem cutU {W : Nat} (h : Wid W) (ao : Option Addr) (n cap : Nat) (l : List Int) (w : World) (hn : n = l.length) (hl : l.length * 8 ≤ 140737488351240) (hi : Ints .u64 w ao l) :
    Calls Try.prog 23 #[.int .i64 W, .slice ao n cap] w fun e w' => ∃ v, e = .returned v ∧ w'.ownsRow w.heap.size 46 1 v n ((cutL W l).map (Value.int .u64)) ∧ Below w.heap.size w w' := by
  rcases h with rfl | rfl | rfl | rfl
  · exact cut1 ao n cap l w hn hl hi
  · exact cut2 ao n cap l w hn hl hi
  · exact cut4 ao n cap l w hn hl hi
  · exact cut8 ao n cap l w hn hl hi
theorem lputU {W : Nat} (h : Wid W) (ao : Option Addr) (n cap : Nat) (l : List Int) (w : World) (hn : n = l.length) (hl : l.length ≤ 10000000) (hi : Ints .u64 w ao l) (hx : ∀ x ∈ l, 0 ≤ x ∧ x < 256 ^ W) :
    Calls Try.prog 24 #[.int .i64 W, .slice ao n cap] w fun e w' => ∃ v, e = .returned (.tuple #[v, .bool true]) ∧ w'.ownsRow w.heap.size 5 1 v (n * W) ((putL W l).map (Value.int .u8)) ∧ Below w.heap.size w w' := by
  rcases h with rfl | rfl | rfl | rfl
  · have := lput1 ao n cap l w hn (by omega) hi hx
    simpa using this
  · exact lput2 ao n cap l w hn (by omega) hi hx
  · exact lput4 ao n cap l w hn (by omega) hi hx
  · exact lput8 ao n cap l w hn (by omega) hi hx
theorem allR_len (W : Nat) (l : List Int) : (allR W l).1.length ≤ l.length := by
  unfold allR
  split
  · simp only [allL, List.length_map, List.length_range]; exact Nat.div_le_self _ _
  · simp
theorem allsU {W : Nat} (h : Wid W) (ao : Option Addr) (n cap : Nat) (l : List Int) (w : World) (hn : n = l.length) (hl : l.length ≤ 10000000) (hcap : l.length ≤ cap) (hi : Ints .u8 w ao l) :
    Calls Try.prog 35 #[.int .i64 W, .slice ao n cap] w fun e w' => e = .returned (.bool true) ∧ Below w.heap.size w w' := by
  have := allR_len W l
  rcases h with rfl | rfl | rfl | rfl
  · exact alls1 ao n cap l w hn (by omega) (by omega) hcap hi
  · exact alls2 ao n cap l w hn (by omega) (by omega) hcap hi
  · exact alls4 ao n cap l w hn (by omega) (by omega) hcap hi
  · exact alls8 ao n cap l w hn (by omega) (by omega) hcap hi
theorem atsU {W : Nat} (h : Wid W) (ao : Option Addr) (n cap : Nat) (l : List Int) (at_ : Int) (w : World) (hat : -9223372036854775808 ≤ at_ ∧ at_ ≤ 9223372036854775807) (hn : n = l.length) (hl : l.length ≤ 10000000) (hcap : l.length ≤ cap) (hi : Ints .u8 w ao l) :
    Calls Try.prog 36 #[.int .i64 W, .slice ao n cap, .int .i64 at_] w fun e w' => e = .returned (.bool true) ∧ w = w' := by
  rcases h with rfl | rfl | rfl | rfl
  · exact ats1 ao n cap l at_ w hat hn (by omega) hcap hi
  · exact ats2 ao n cap l at_ w hat hn (by omega) hcap hi
  · exact ats4 ao n cap l at_ w hat hn (by omega) hcap hi
  · exact ats8 ao n cap l at_ w hat hn (by omega) hcap hi
theorem lwithU {W : Nat} (h : Wid W) (ao : Option Addr) (n cap : Nat) (l : List Int) (k : Nat) (x : Int) (w : World) (hn : n = l.length) (hl : l.length ≤ 10000000) (hcap : l.length ≤ cap) (hi : Ints .u8 w ao l) (hx : 0 ≤ x ∧ x ≤ 18446744073709551615) (hk : k + W ≤ l.length) :
    Calls Try.prog 30 #[.int .i64 W, .slice ao n cap, .int .i64 k, .int .u64 x] w fun e w' => ∃ v, e = .returned (.tuple #[v, .int .i64 0]) ∧ w'.ownsRow w.heap.size 5 1 v n ((withL W l k (x % 256 ^ W)).map (Value.int .u8)) ∧ Below w.heap.size w w' := by
  rcases h with rfl | rfl | rfl | rfl
  · exact lwith1 ao n cap l k x w hn (by omega) hcap hi hx hk
  · exact lwith2 ao n cap l k x w hn (by omega) hcap hi hx hk
  · exact lwith4 ao n cap l k x w hn (by omega) hcap hi hx hk
  · exact lwith8 ao n cap l k x w hn (by omega) hcap hi hx hk
theorem lwithNoU {W : Nat} (h : Wid W) (ao : Option Addr) (n cap : Nat) (at_ x : Int) (w : World) (hat : -9223372036854775808 ≤ at_ ∧ at_ ≤ 9223372036854775807) (hl : n ≤ 140737488355328) (h2 : ¬ (0 ≤ at_ ∧ at_ + W ≤ (n : Int))) (hx : 0 ≤ x ∧ x ≤ 18446744073709551615) :
    Calls Try.prog 30 #[.int .i64 W, .slice ao n cap, .int .i64 at_, .int .u64 x] w fun e w' => e = .returned (.tuple #[.slice none 0 0, .int .i64 20]) ∧ w = w' := by
  rcases h with rfl | rfl | rfl | rfl
  · exact lwithNo1 ao n cap at_ x w hat hl h2 hx
  · exact lwithNo2 ao n cap at_ x w hat hl h2 hx
  · exact lwithNo4 ao n cap at_ x w hat hl h2 hx
  · exact lwithNo8 ao n cap at_ x w hat hl h2 hx
end Go.Proofs.Ytdhicfolchpmhaa
