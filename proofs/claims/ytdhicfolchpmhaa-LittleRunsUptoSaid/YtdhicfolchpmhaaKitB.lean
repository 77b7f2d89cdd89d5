/- Helper lemmas: a block known whole, a copy into it. No condition. -/
import Derived.Test.YtdhicfolchpmhaaWalkC
import Derived.Test.YtdhicfolchpmhaaPureB
import Derived.Deep.RegionLaw
import Derived.Deep.RegionWith
import Derived.Laws.CopyOwn
namespace Go.Proofs.Ytdhicfolchpmhaa
open Go.RowKit
set_option linter.unusedVariables false
set_option linter.unusedSimpArgs false

theorem own_block {w : World} {base : Nat} {e : TypeId} {g n cap : Nat} {xs : List Value} (h : w.ownsRow base e 1 (.slice (some ⟨g, 0, none⟩) n cap) n xs) :
    ∃ cur : List Value, w.heap[g]? = some (.cells cur.toArray e (0, 0)) ∧ cur.length = cap ∧ cur.take n = xs := by
  obtain ⟨h1, h2⟩ := h
  rcases h2 with ⟨hv, _⟩ | ⟨g', cap', cur, hv, hg, hh, a, b, c, d⟩
  · simp at hv
  · simp only [Value.slice.injEq, Option.some.injEq, Addr.mk.injEq, and_true, true_and] at hv
    obtain ⟨rfl, rfl⟩ := hv
    exact ⟨cur.toList, by simpa using hh, by simpa using c, by simpa using d⟩
theorem own_of_block {w : World} {base : Nat} {e : TypeId} {g n cap : Nat} {xs cur : List Value} (hg : base ≤ g) (h : w.heap[g]? = some (.cells cur.toArray e (0, 0))) (hc : cur.length = cap) (ht : cur.take n = xs) (hn : n ≤ cap) (hm : cap ≤ maxLen) :
    w.ownsRow base e 1 (.slice (some ⟨g, 0, none⟩) n cap) n xs :=
  ⟨by rw [← ht, List.length_take]; omega, .inr ⟨g, cap, cur.toArray, rfl, hg, h, hn, hm, by simpa using hc, by simpa using ht⟩⟩

theorem splice_len {α : Type} (cur : List α) (k : Nat) (cs : List α) (h : k + cs.length ≤ cur.length) : (splice cur k cs).length = cur.length := by
  unfold splice
  simp only [List.length_append, List.length_take, List.length_drop]
  omega
theorem splice_with (W : Nat) (l : List Int) (k : Nat) (x : Int) (cur : List Value) (h : cur.take l.length = l.map (Value.int .u8)) (hk : k + W ≤ l.length) :
    (splice cur k ((le W x).map (Value.int .u8))).take l.length = (withL W l k x).map (Value.int .u8) := by
  have hcl : l.length ≤ cur.length := by
    have := congrArg List.length h
    rw [List.length_take, List.length_map] at this
    omega
  unfold splice withL
  rw [List.map_append, List.map_append, List.map_take, List.map_drop, ← h]
  rw [List.take_take, Nat.min_eq_left (by omega), List.drop_take, ← List.append_assoc]
  rw [List.take_append, List.take_of_length_le (by simp only [List.length_append, List.length_take, List.length_map, le_len]; omega)]
  congr 2
  all_goals first
    | (rw [List.length_map, le_len]; done)
    | (simp only [List.length_append, List.length_take, List.length_map, le_len]; omega)


theorem byt_of_ints {w : World} {ao : Option Addr} {l : List Int} (h : Ints .u8 w ao l) : Byt l := fun b hb => wf_u8.1 (h.wf b hb)
theorem ints_of_byt {l : List Int} (h : Byt l) : ∀ x ∈ l, (Lit.int .u8 x).wf = true := fun x hx => wf_u8.2 (h x hx)

end Go.Proofs.Ytdhicfolchpmhaa
