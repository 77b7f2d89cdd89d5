/- Walks: package little's generic functions at width 4. -/
import Derived.Test.YtdhicfolchpmhaaWalkC
import Derived.Test.YtdhicfolchpmhaaPureB
namespace Go.Proofs.Ytdhicfolchpmhaa
open Go.RowKit
set_option linter.unusedVariables false
set_option linter.unusedSimpArgs false

theorem Try.infoE4 : (Try.prog.info? 24).map (fun i => (i.zero, i.size, i.bytes)) = some (some (.int .u32 0), 1, 4) := by kernel_rfl

set_option maxHeartbeats 400000 in
theorem width4 (w : World) : Calls Try.prog 96 #[] w fun e w' => e = .returned (.int .i64 4) ∧ w = w' := by
  go_enter Try.func96, Try.ntmps96
  go_wp2
  refine wp_loop_rounds 5 ?_
  repeat (rw [rounds_succ]; go_wp2)
  go_ret
  exact ⟨rfl, rfl⟩

set_option maxHeartbeats 2000000 in
theorem lay4 (base n : Nat) (v : Value) (xs : List Value) (x : Int) (w : World) (hx : 0 ≤ x ∧ x ≤ 4294967295) (hown : w.ownsRow base 5 1 v n xs) (hbase : base ≤ w.heap.size) (hlen : n + 4 ≤ 140737488355328) :
    Calls Try.prog 90 #[v, .int .u32 x] w fun e w' => ∃ v', e = .returned v' ∧ w'.ownsRow base 5 1 v' (n + 4) (xs ++ (le 4 x).map (Value.int .u8)) ∧ Below base w w' := by
  have hbel := hid (Below.refl base w)
  have ho0 := hid hown
  clear hown
  have hfin : Hid (∀ (w' : World) (v' : Value), w'.ownsRow base 5 1 v' (n + 4) (((((xs ++ [Value.int .u8 ((x) % 256)]) ++ [Value.int .u8 ((x / 256) % 256)]) ++ [Value.int .u8 ((x / 256 / 256) % 256)]) ++ [Value.int .u8 ((x / 256 / 256 / 256) % 256)])) → w'.ownsRow base 5 1 v' (n + 4) (xs ++ (le 4 x).map (Value.int .u8))) := by
    intro w' v' h
    simpa [le] using h
  go_enter Try.func90, Try.ntmps90
  go_wp2_with (go_at_call 96; go_must (refine (width4 _).mono ?_); rintro e w' ⟨rfl, rfl⟩)
  refine wp_loop_rounds 5 ?_
  rw [rounds_succ]
  go_wp2_with (at_builtin; go_must (refine wpList_append_new rfl _ _ 23 rfl base 5 5 (.int .u8 0) 1 1 1 Try.underlying23 Try.info5 rfl (by decide) _ (n + 0) _ [.int .u8 _] (0, 0) ho0.out rfl (by simp [Value.oneCell']) (by unfold maxLen; omega) (by omega) hbase rfl rfl ?_); intro v1 w1 hn1 hb1 _)
  have ho1 := hid hn1
  have hbase1 : base ≤ w1.heap.size := by have := hb1.size; omega
  have hbel1 := hid (hbel.out.trans hb1)
  clear hn1 hb1
  go_wp2_with fail
  rw [rounds_succ]
  go_wp2_with (at_builtin; go_must (refine wpList_append_new rfl _ _ 23 rfl base 5 5 (.int .u8 0) 1 1 1 Try.underlying23 Try.info5 rfl (by decide) _ (n + 1) _ [.int .u8 _] (0, 0) ho1.out rfl (by simp [Value.oneCell']) (by unfold maxLen; omega) (by omega) hbase1 rfl rfl ?_); intro v2 w2 hn2 hb2 _)
  have ho2 := hid hn2
  have hbase2 : base ≤ w2.heap.size := by have := hb2.size; omega
  have hbel2 := hid (hbel1.out.trans hb2)
  clear hn2 hb2
  go_wp2_with fail
  rw [rounds_succ]
  go_wp2_with (at_builtin; go_must (refine wpList_append_new rfl _ _ 23 rfl base 5 5 (.int .u8 0) 1 1 1 Try.underlying23 Try.info5 rfl (by decide) _ (n + 2) _ [.int .u8 _] (0, 0) ho2.out rfl (by simp [Value.oneCell']) (by unfold maxLen; omega) (by omega) hbase2 rfl rfl ?_); intro v3 w3 hn3 hb3 _)
  have ho3 := hid hn3
  have hbase3 : base ≤ w3.heap.size := by have := hb3.size; omega
  have hbel3 := hid (hbel2.out.trans hb3)
  clear hn3 hb3
  go_wp2_with fail
  rw [rounds_succ]
  go_wp2_with (at_builtin; go_must (refine wpList_append_new rfl _ _ 23 rfl base 5 5 (.int .u8 0) 1 1 1 Try.underlying23 Try.info5 rfl (by decide) _ (n + 3) _ [.int .u8 _] (0, 0) ho3.out rfl (by simp [Value.oneCell']) (by unfold maxLen; omega) (by omega) hbase3 rfl rfl ?_); intro v4 w4 hn4 hb4 _)
  have ho4 := hid hn4
  have hbase4 : base ≤ w4.heap.size := by have := hb4.size; omega
  have hbel4 := hid (hbel3.out.trans hb4)
  clear hn4 hb4
  go_wp2_with fail
  rw [rounds_succ]
  go_wp2_with fail
  go_ret
  refine ⟨_, rfl, hfin.out _ _ ?_, hbel4.out⟩
  have := ho4.out
  have e : x / 16777216 % 256 = x / 16777216 := by omega
  simpa [Int.ediv_ediv_of_nonneg, Nat.add_assoc, e] using this

theorem or0_4 (x : Int) (h : 0 ≤ x ∧ x ≤ 255) : bits BinOp.or .u64 0 x = x := by
  have := or_add 0 0 x (by decide) h (by omega)
  simpa using this
set_option maxHeartbeats 1000000 in
theorem take4 (b off n cap : Nat) (l : List Int) (w : World) (hl : l.length = 4) (hn : 4 ≤ n) (hb : Byt l) (hc : Hid (∀ i, i < 4 → w.cell? ⟨b, off + i, none⟩ = some (.int .u8 (l.getD i 0)))) :
    Calls Try.prog 97 #[.slice (some ⟨b, off, none⟩) n cap] w fun e w' => e = .returned (.int .u32 (num l)) ∧ w = w' := by
  match l, hl with
  | [x0, x1, x2, x3], _ =>
    have h0 := hb x0 (by simp)
    have c0 : w.cell? ⟨b, off, none⟩ = some (.int .u8 x0) := by simpa using hc.out 0 (by decide)
    have h1 := hb x1 (by simp)
    have c1 : w.cell? ⟨b, off + 1, none⟩ = some (.int .u8 x1) := by simpa using hc.out 1 (by decide)
    have h2 := hb x2 (by simp)
    have c2 : w.cell? ⟨b, off + 2, none⟩ = some (.int .u8 x2) := by simpa using hc.out 2 (by decide)
    have h3 := hb x3 (by simp)
    have c3 : w.cell? ⟨b, off + 3, none⟩ = some (.int .u8 x3) := by simpa using hc.out 3 (by decide)
    clear hb
    have ho0 := or0_4 x0 h0
    have ho1 : bits BinOp.or .u64 (x0) (x1 * 256) = x0 + x1 * 256 := by simpa using or_add 1 (x0) x1 (by simp; omega) h1 (by omega)
    have ho2 : bits BinOp.or .u64 (x0 + x1 * 256) (x2 * 65536) = x0 + x1 * 256 + x2 * 65536 := by simpa using or_add 2 (x0 + x1 * 256) x2 (by simp; omega) h2 (by omega)
    have ho3 : bits BinOp.or .u64 (x0 + x1 * 256 + x2 * 65536) (x3 * 16777216) = x0 + x1 * 256 + x2 * 65536 + x3 * 16777216 := by simpa using or_add 3 (x0 + x1 * 256 + x2 * 65536) x3 (by simp; omega) h3 (by omega)
    go_enter Try.func97, Try.ntmps97
    go_wp2_with (go_at_call 96; go_must (refine (width4 _).mono ?_); rintro e w' ⟨rfl, rfl⟩)
    refine wp_loop_rounds 5 ?_
    repeat (rw [rounds_succ]; go_wp2)
    go_ret
    exact ⟨ret_int (by simp only [num]; omega), rfl⟩

theorem has4 (ao : Option Addr) (n cap : Nat) (at_ : Int) (w : World) (hat : -9223372036854775808 ≤ at_ ∧ at_ ≤ 9223372036854775807) (hn : n ≤ 140737488355328) :
    Calls Try.prog 100 #[.slice ao n cap, .int .i64 at_] w fun e w' => e = .returned (.bool (decide (0 ≤ at_ ∧ at_ + 4 ≤ (n : Int)))) ∧ w = w' := by
  by_cases h0 : 0 ≤ at_
  · by_cases h1 : at_ + 4 ≤ (n : Int)
    · have hd : Hid (decide (0 ≤ at_ ∧ at_ + 4 ≤ (n : Int)) = true) := by unfold Hid; rw [decide_eq_true_iff]; exact ⟨h0, h1⟩
      go_enter Try.func100, Try.ntmps100
      go_wp2_with (go_at_call 96; go_must (refine (width4 _).mono ?_); rintro e w' ⟨rfl, rfl⟩)
      go_ret
      exact ⟨ret_bool (by first | (rw [hd.out]; done) | (rw [hd.out]; simp; omega) | (simp; omega)), rfl⟩
    · have hd : Hid (decide (0 ≤ at_ ∧ at_ + 4 ≤ (n : Int)) = false) := by unfold Hid; rw [decide_eq_false_iff_not]; exact fun h => h1 h.2
      go_enter Try.func100, Try.ntmps100
      go_wp2_with (go_at_call 96; go_must (refine (width4 _).mono ?_); rintro e w' ⟨rfl, rfl⟩)
      go_ret
      exact ⟨ret_bool (by first | (rw [hd.out]; done) | (rw [hd.out]; simp; omega) | (simp; omega)), rfl⟩
  · have hd : Hid (decide (0 ≤ at_ ∧ at_ + 4 ≤ (n : Int)) = false) := by unfold Hid; rw [decide_eq_false_iff_not]; exact fun h => h0 h.1
    go_enter Try.func100, Try.ntmps100
    go_wp2_with (go_at_call 96; go_must (refine (width4 _).mono ?_); rintro e w' ⟨rfl, rfl⟩)
    go_ret
    exact ⟨ret_bool (by first | (rw [hd.out]; done) | (rw [hd.out]; simp; omega) | (simp; omega)), rfl⟩

end Go.Proofs.Ytdhicfolchpmhaa
