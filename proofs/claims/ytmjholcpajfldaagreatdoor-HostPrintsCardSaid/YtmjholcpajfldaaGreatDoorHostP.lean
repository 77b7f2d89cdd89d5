/- Walks: four bytes of a word; a reply with a write. No condition. -/
import Derived.Test.YtmjholcpajfldaaGreatDoorHostO
namespace Go.Proofs.YtmjholcpajfldaaGreatDoor
open Go.RowKit
set_option linter.unusedVariables false
set_option linter.unusedSimpArgs false

set_option maxRecDepth 100000
theorem info5 : (Tryz.prog.info? 5).map (fun i => (i.zero, i.size, i.bytes)) = some (some (.int .u8 0), 1, 1) := by kernel_rfl
/-- k bytes of a number, the lowest first -/
def le : Nat → Int → List Int
  | 0, _ => []
  | k + 1, x => x % 256 :: le k (x / 256)
set_option maxHeartbeats 400000 in
theorem width4 (w : World) : Calls Tryz.prog 157 #[] w fun e w' => e = .returned (.int .i64 4) ∧ w = w' := by
  go_enter Tryz.func157, Tryz.ntmps157
  go_wp2
  refine wp_loop_rounds 5 ?_
  repeat (rw [rounds_succ]; go_wp2)
  go_ret
  exact ⟨rfl, rfl⟩

set_option maxHeartbeats 2000000 in
theorem lay4 (base n : Nat) (v : Value) (xs : List Value) (x : Int) (w : World) (hx : 0 ≤ x ∧ x ≤ 4294967295) (hown : w.ownsRow base 5 1 v n xs) (hbase : base ≤ w.heap.size) (hlen : n + 4 ≤ 140737488355328) :
    Calls Tryz.prog 119 #[v, .int .u32 x] w fun e w' => ∃ v', e = .returned v' ∧ w'.ownsRow base 5 1 v' (n + 4) (xs ++ (le 4 x).map (Value.int .u8)) ∧ Below base w w' := by
  have hbel := hid (Below.refl base w)
  have ho0 := hid hown
  clear hown
  have hfin : Hid (∀ (w' : World) (v' : Value), w'.ownsRow base 5 1 v' (n + 4) (((((xs ++ [Value.int .u8 ((x) % 256)]) ++ [Value.int .u8 ((x / 256) % 256)]) ++ [Value.int .u8 ((x / 256 / 256) % 256)]) ++ [Value.int .u8 ((x / 256 / 256 / 256) % 256)])) → w'.ownsRow base 5 1 v' (n + 4) (xs ++ (le 4 x).map (Value.int .u8))) := by
    intro w' v' h
    simpa [le] using h
  go_enter Tryz.func119, Tryz.ntmps119
  go_wp2_with (go_at_call 157; go_must (refine (width4 _).mono ?_); rintro e w' ⟨rfl, rfl⟩)
  refine wp_loop_rounds 5 ?_
  rw [rounds_succ]
  go_wp2_with (at_builtin; go_must (refine wpList_append_new rfl _ _ 27 rfl base 5 5 (.int .u8 0) 1 1 1 Tryz.underlying27 info5 rfl (by decide) _ (n + 0) _ [.int .u8 _] (0, 0) ho0.out rfl (by simp [Value.oneCell']) (by unfold maxLen; omega) (by omega) hbase rfl rfl ?_); intro v1 w1 hn1 hb1 _)
  have ho1 := hid hn1
  have hbase1 : base ≤ w1.heap.size := by have := hb1.size; omega
  have hbel1 := hid (hbel.out.trans hb1)
  clear hn1 hb1
  go_wp2_with fail
  rw [rounds_succ]
  go_wp2_with (at_builtin; go_must (refine wpList_append_new rfl _ _ 27 rfl base 5 5 (.int .u8 0) 1 1 1 Tryz.underlying27 info5 rfl (by decide) _ (n + 1) _ [.int .u8 _] (0, 0) ho1.out rfl (by simp [Value.oneCell']) (by unfold maxLen; omega) (by omega) hbase1 rfl rfl ?_); intro v2 w2 hn2 hb2 _)
  have ho2 := hid hn2
  have hbase2 : base ≤ w2.heap.size := by have := hb2.size; omega
  have hbel2 := hid (hbel1.out.trans hb2)
  clear hn2 hb2
  go_wp2_with fail
  rw [rounds_succ]
  go_wp2_with (at_builtin; go_must (refine wpList_append_new rfl _ _ 27 rfl base 5 5 (.int .u8 0) 1 1 1 Tryz.underlying27 info5 rfl (by decide) _ (n + 2) _ [.int .u8 _] (0, 0) ho2.out rfl (by simp [Value.oneCell']) (by unfold maxLen; omega) (by omega) hbase2 rfl rfl ?_); intro v3 w3 hn3 hb3 _)
  have ho3 := hid hn3
  have hbase3 : base ≤ w3.heap.size := by have := hb3.size; omega
  have hbel3 := hid (hbel2.out.trans hb3)
  clear hn3 hb3
  go_wp2_with fail
  rw [rounds_succ]
  go_wp2_with (at_builtin; go_must (refine wpList_append_new rfl _ _ 27 rfl base 5 5 (.int .u8 0) 1 1 1 Tryz.underlying27 info5 rfl (by decide) _ (n + 3) _ [.int .u8 _] (0, 0) ho3.out rfl (by simp [Value.oneCell']) (by unfold maxLen; omega) (by omega) hbase3 rfl rfl ?_); intro v4 w4 hn4 hb4 _)
  have ho4 := hid hn4
  have hbase4 : base ≤ w4.heap.size := by have := hb4.size; omega
  have hbel4 := hid (hbel3.out.trans hb4)
  clear hn4 hb4
  go_wp2_with fail
  rw [rounds_succ]
  go_wp2_with fail
  go_ret
  refine ⟨_, rfl, hfin.out _ _ ?_, hbel4.out⟩
  have := ho4.out
  have e : x / 16777216 % 256 = x / 16777216 := by omega
  simpa [Int.ediv_ediv_of_nonneg, Nat.add_assoc, e] using this


set_option maxHeartbeats 2000000 in
theorem put76 (ab : Nat) (x : Int) (w : World) (hx : 0 ≤ x ∧ x ≤ 4294967295) (ha : w.cell? ⟨ab, 0, none⟩ = some (.int .u32 x)) :
    Calls Tryz.prog 76 #[.slice (some ⟨ab, 0, none⟩) 1 1] w fun e w' => ∃ v', e = .returned v' ∧ w'.ownsRow w.heap.size 5 1 v' 4 ((le 4 x).map (Value.int .u8)) ∧ Below w.heap.size w w' := by
  have c := hid (lay4 w.heap.size 0 (.slice none 0 0) [] x w hx (World.ownsRow_nil _ _ _ _) (Nat.le_refl _) (by omega))
  go_enter Tryz.func76, Tryz.ntmps76
  go_wp2_with fail
  refine wp_loop_rounds 2 ?_
  rw [rounds_succ]
  go_wp2_with fail
  refine c.out.mono ?_
  clear c
  rintro e w1 ⟨v', rfl, ho, hb⟩
  have hO := hid ho
  have hB := hid hb
  clear ho hb
  go_wp2_with fail
  rw [rounds_succ]
  go_wp2_with fail
  go_ret
  exact ⟨_, rfl, by simpa using hO.out, hB.out⟩
theorem written75 (x : Int) (ao : Option Addr) (n c : Nat) (w : World) : Calls Tryz.prog 75 #[.int .u32 x, .slice ao n c] w fun e w' => ∃ g, e = .returned (.agg #[.int .u32 1, .slice (some ⟨g, 0, none⟩) 1 1]) ∧ Bx w' g #[.int .u32 x, .slice ao n c] 40 ∧ w.heap.size ≤ g ∧ Below w.heap.size w w' := by
  go_enter Tryz.func75, Tryz.ntmps75
  go_wp2_with fail
  have X0 := (Bx.new w #[.int .u32 1, .slice (some ⟨w.heap.size + 1, 0, none⟩) 1 1] 30).below ((Below.refl _ _).alloc (Nat.le_refl _) (.cells #[.int .u32 x, .slice ao n c] 40))
  have X1 : Bx ((w.alloc (.cells #[.int .u32 1, .slice (some ⟨w.heap.size + 1, 0, none⟩) 1 1] 30)).alloc (.cells #[.int .u32 x, .slice ao n c] 40)) (w.heap.size + 1) #[.int .u32 x, .slice ao n c] 40 := by simpa using Bx.new (w.alloc (.cells #[.int .u32 1, .slice (some ⟨w.heap.size + 1, 0, none⟩) 1 1] 30)) #[.int .u32 x, .slice ao n c] 40
  refine bodyPost_ret (v := .agg #[.int .u32 1, .slice (some ⟨w.heap.size + 1, 0, none⟩) 1 1]) (results_cell_row rfl _ _ w.heap.size _ _ _ _ rfl X0 Tryz.underlying30 rfl (by kernel_rfl)) rfl ?_
  exact ⟨_, rfl, X1, by omega, ((Below.refl _ _).alloc (Nat.le_refl _) _).alloc (by simp) _⟩

end Go.Proofs.YtmjholcpajfldaaGreatDoor
