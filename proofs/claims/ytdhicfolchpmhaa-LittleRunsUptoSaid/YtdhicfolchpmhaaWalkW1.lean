/- Walks: package little's generic functions at width 1. -/
import Derived.Test.YtdhicfolchpmhaaWalkC
import Derived.Test.YtdhicfolchpmhaaPureB
namespace Go.Proofs.Ytdhicfolchpmhaa
open Go.RowKit
set_option linter.unusedVariables false
set_option linter.unusedSimpArgs false


set_option maxHeartbeats 400000 in
theorem width1 (w : World) : Calls Try.prog 92 #[] w fun e w' => e = .returned (.int .i64 1) ∧ w = w' := by
  go_enter Try.func92, Try.ntmps92
  go_wp2
  refine wp_loop_rounds 2 ?_
  repeat (rw [rounds_succ]; go_wp2)
  go_ret
  exact ⟨rfl, rfl⟩

set_option maxHeartbeats 2000000 in
theorem lay1 (base n : Nat) (v : Value) (xs : List Value) (x : Int) (w : World) (hx : 0 ≤ x ∧ x ≤ 255) (hown : w.ownsRow base 5 1 v n xs) (hbase : base ≤ w.heap.size) (hlen : n + 1 ≤ 140737488355328) :
    Calls Try.prog 88 #[v, .int .u8 x] w fun e w' => ∃ v', e = .returned v' ∧ w'.ownsRow base 5 1 v' (n + 1) (xs ++ (le 1 x).map (Value.int .u8)) ∧ Below base w w' := by
  have hbel := hid (Below.refl base w)
  have ho0 := hid hown
  clear hown
  have hfin : Hid (∀ (w' : World) (v' : Value), w'.ownsRow base 5 1 v' (n + 1) ((xs ++ [Value.int .u8 ((x) % 256)])) → w'.ownsRow base 5 1 v' (n + 1) (xs ++ (le 1 x).map (Value.int .u8))) := by
    intro w' v' h
    simpa [le] using h
  go_enter Try.func88, Try.ntmps88
  go_wp2_with (go_at_call 92; go_must (refine (width1 _).mono ?_); rintro e w' ⟨rfl, rfl⟩)
  refine wp_loop_rounds 2 ?_
  rw [rounds_succ]
  go_wp2_with (at_builtin; go_must (refine wpList_append_new rfl _ _ 23 rfl base 5 5 (.int .u8 0) 1 1 1 Try.underlying23 Try.info5 rfl (by decide) _ (n + 0) _ [.int .u8 _] (0, 0) ho0.out rfl (by simp [Value.oneCell']) (by unfold maxLen; omega) (by omega) hbase rfl rfl ?_); intro v1 w1 hn1 hb1 _)
  have ho1 := hid hn1
  have hbase1 : base ≤ w1.heap.size := by have := hb1.size; omega
  have hbel1 := hid (hbel.out.trans hb1)
  clear hn1 hb1
  go_wp2_with fail
  rw [rounds_succ]
  go_wp2_with fail
  go_ret
  refine ⟨_, rfl, hfin.out _ _ ?_, hbel1.out⟩
  have := ho1.out
  have e : x % 256 = x := by omega
  simpa [Int.ediv_ediv_of_nonneg, Nat.add_assoc, e] using this

theorem or0_1 (x : Int) (h : 0 ≤ x ∧ x ≤ 255) : bits BinOp.or .u64 0 x = x := by
  have := or_add 0 0 x (by decide) h (by omega)
  simpa using this
set_option maxHeartbeats 1000000 in
theorem take1 (b off n cap : Nat) (l : List Int) (w : World) (hl : l.length = 1) (hn : 1 ≤ n) (hb : Byt l) (hc : Hid (∀ i, i < 1 → w.cell? ⟨b, off + i, none⟩ = some (.int .u8 (l.getD i 0)))) :
    Calls Try.prog 93 #[.slice (some ⟨b, off, none⟩) n cap] w fun e w' => e = .returned (.int .u8 (num l)) ∧ w = w' := by
  match l, hl with
  | [x0], _ =>
    have h0 := hb x0 (by simp)
    have c0 : w.cell? ⟨b, off, none⟩ = some (.int .u8 x0) := by simpa using hc.out 0 (by decide)
    clear hb
    have ho0 := or0_1 x0 h0
    go_enter Try.func93, Try.ntmps93
    go_wp2_with (go_at_call 92; go_must (refine (width1 _).mono ?_); rintro e w' ⟨rfl, rfl⟩)
    refine wp_loop_rounds 2 ?_
    repeat (rw [rounds_succ]; go_wp2)
    go_ret
    exact ⟨ret_int (by simp only [num]; omega), rfl⟩

theorem has1 (ao : Option Addr) (n cap : Nat) (at_ : Int) (w : World) (hat : -9223372036854775808 ≤ at_ ∧ at_ ≤ 9223372036854775807) (hn : n ≤ 140737488355328) :
    Calls Try.prog 101 #[.slice ao n cap, .int .i64 at_] w fun e w' => e = .returned (.bool (decide (0 ≤ at_ ∧ at_ + 1 ≤ (n : Int)))) ∧ w = w' := by
  by_cases h0 : 0 ≤ at_
  · by_cases h1 : at_ + 1 ≤ (n : Int)
    · have hd : Hid (decide (0 ≤ at_ ∧ at_ + 1 ≤ (n : Int)) = true) := by unfold Hid; rw [decide_eq_true_iff]; exact ⟨h0, h1⟩
      go_enter Try.func101, Try.ntmps101
      go_wp2_with (go_at_call 92; go_must (refine (width1 _).mono ?_); rintro e w' ⟨rfl, rfl⟩)
      go_ret
      exact ⟨ret_bool (by first | (rw [hd.out]; done) | (rw [hd.out]; simp; omega) | (simp; omega)), rfl⟩
    · have hd : Hid (decide (0 ≤ at_ ∧ at_ + 1 ≤ (n : Int)) = false) := by unfold Hid; rw [decide_eq_false_iff_not]; exact fun h => h1 h.2
      go_enter Try.func101, Try.ntmps101
      go_wp2_with (go_at_call 92; go_must (refine (width1 _).mono ?_); rintro e w' ⟨rfl, rfl⟩)
      go_ret
      exact ⟨ret_bool (by first | (rw [hd.out]; done) | (rw [hd.out]; simp; omega) | (simp; omega)), rfl⟩
  · have hd : Hid (decide (0 ≤ at_ ∧ at_ + 1 ≤ (n : Int)) = false) := by unfold Hid; rw [decide_eq_false_iff_not]; exact fun h => h0 h.1
    go_enter Try.func101, Try.ntmps101
    go_wp2_with (go_at_call 92; go_must (refine (width1 _).mono ?_); rintro e w' ⟨rfl, rfl⟩)
    go_ret
    exact ⟨ret_bool (by first | (rw [hd.out]; done) | (rw [hd.out]; simp; omega) | (simp; omega)), rfl⟩

end Go.Proofs.Ytdhicfolchpmhaa
