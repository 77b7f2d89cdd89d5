/- Walks: hosts that are none. No condition. -/
import Derived.Laws.BytesArg
import Derived.Laws.IdiomStrings
import Derived.Test.YtmjholcpajfldaaGreatDoorHostB
namespace Go.Proofs.YtmjholcpajfldaaGreatDoor
open Go.RowKit
set_option linter.unusedVariables false
set_option linter.unusedSimpArgs false

set_option maxRecDepth 100000

/-- a host that was not made: what made tells, now and later -/
def NoHo (w : World) (p : Value) : Prop := ∀ w1, Below w.heap.size w w1 → Calls Tryz.prog 21 #[p] w1 fun e w' => e = .returned (.bool false) ∧ w1 = w'
theorem NoHo.mono {w w1 : World} {p : Value} (h : NoHo w p) (hb : Below w.heap.size w w1) : NoHo w1 p := fun w2 h2 => h w2 (hb.trans (h2.mono hb.size))
theorem NoHo.nil (w : World) : NoHo w (.pointer none) := fun w1 _ => made21_nil w1
theorem NoHo.zero {w : World} {h : Nat} (hc : w.cell? ⟨h, 2, none⟩ = some (.int .u64 0)) : NoHo w (.pointer (some ⟨h, 0, none⟩)) := fun w1 hb => made21_zero (cell_on hc hb)

set_option maxHeartbeats 1000000 in
theorem answer9_no (p : Value) (dv a2 : Value) (x : Int) (w : World) (hp : NoHo w p) :
    Calls Tryz.prog 9 #[p, dv, .agg #[.int .u32 0, .int .u32 x, a2, .int .u32 0]] w fun e w' => e = .returned (.tuple #[.agg #[.int .u32 0, .slice none 0 0], .int .i64 1]) ∧ Below w.heap.size w w' := by
  have h := hid (fun w1 h => hp w1 h)
  clear hp
  go_enter Tryz.func9, Tryz.ntmps9
  go_wp2_with (go_at_call 21; refine (h.out _ (by (repeat (first | exact Below.refl _ _ | refine Below.drew ?_ | refine Below.alloc ?_ (by simp <;> omega) _)))).mono ?_; rintro e w1 ⟨rfl, rfl⟩)
  refine bodyPost_ret (v := .tuple #[.agg #[.int .u32 0, .slice none 0 0], .int .i64 1]) ?_ rfl ⟨rfl, by (repeat (first | exact Below.refl _ _ | refine Below.drew ?_ | refine Below.alloc ?_ (by simp <;> omega) _))⟩
  rw [results_cell_tmp rfl]
  have hload := run_loadVar_row (P := Tryz.prog) ((w.alloc (.cells #[.int .u32 0, .int .u32 x, a2, .int .u32 0] 36)).alloc (.cells #[.int .u32 0, .slice none 0 0] 30)) (w.heap.size + 1) 30 30 _ (0, 0) _ (by simpa using heap_alloc_new (w.alloc (.cells #[.int .u32 0, .int .u32 x, a2, .int .u32 0] 36)) _) Tryz.underlying30 rfl (by kernel_rfl)
  simp [asAddr, Result.andThen, hload]
theorem get28_no (p : Value) (s : ByteArray) (w : World) (hp : NoHo w p) : Calls Tryz.prog 28 #[p, .string s] w fun e w' => e = .returned (.tuple #[.int .u32 0, .int .i64 1]) ∧ w = w' := by
  have h := hid (hp w (Below.refl _ _))
  clear hp
  go_enter Tryz.func28, Tryz.ntmps28
  go_wp2_with (go_at_call 21; refine h.out.mono ?_; rintro e w1 ⟨rfl, rfl⟩)
  go_ret2
  exact ⟨rfl, rfl⟩
theorem tick29_no (p : Value) (x : Int) (w : World) (hp : NoHo w p) : Calls Tryz.prog 29 #[p, .int .u32 x] w fun e w' => e = .returned (.int .i64 1) ∧ w = w' := by
  have h := hid (hp w (Below.refl _ _))
  clear hp
  go_enter Tryz.func29, Tryz.ntmps29
  go_wp2_with (go_at_call 21; refine h.out.mono ?_; rintro e w1 ⟨rfl, rfl⟩)
  go_ret
  exact ⟨rfl, rfl⟩
theorem set30_no (p : Value) (s : ByteArray) (x : Int) (w : World) (hp : NoHo w p) : Calls Tryz.prog 30 #[p, .string s, .int .u32 x] w fun e w' => e = .returned (.int .i64 1) ∧ w = w' := by
  have h := hid (hp w (Below.refl _ _))
  clear hp
  go_enter Tryz.func30, Tryz.ntmps30
  go_wp2_with (go_at_call 21; refine h.out.mono ?_; rintro e w1 ⟨rfl, rfl⟩)
  go_ret
  exact ⟨rfl, rfl⟩
theorem console15_no (p : Value) (w : World) (hp : NoHo w p) : Calls Tryz.prog 15 #[p] w fun e w' => e = .returned (.string ⟨#[]⟩) ∧ w = w' := by
  have h := hid (hp w (Below.refl _ _))
  clear hp
  go_enter Tryz.func15, Tryz.ntmps15
  go_wp2_with (go_at_call 21; refine h.out.mono ?_; rintro e w1 ⟨rfl, rfl⟩)
  go_ret
  exact ⟨rfl, rfl⟩
theorem state20_no (p : Value) (w : World) (hp : NoHo w p) : Calls Tryz.prog 20 #[p] w fun e w' => e = .returned (.agg #[.slice none 0 0, .slice none 0 0, .int .u64 0, .int .u32 0]) ∧ Below w.heap.size w w' := by
  have h := hid (fun w1 h => hp w1 h)
  clear hp
  go_enter Tryz.func20, Tryz.ntmps20
  go_wp2_with (go_at_call 21; refine (h.out _ (by (repeat (first | exact Below.refl _ _ | refine Below.drew ?_ | refine Below.alloc ?_ (by simp <;> omega) _)))).mono ?_; rintro e w1 ⟨rfl, rfl⟩)
  refine bodyPost_ret (v := .agg #[.slice none 0 0, .slice none 0 0, .int .u64 0, .int .u32 0]) (results_cell_row rfl _ _ w.heap.size _ _ _ _ rfl (heap_alloc_new w _) Tryz.underlying45 rfl (by kernel_rfl)) rfl ?_
  exact ⟨rfl, by (repeat (first | exact Below.refl _ _ | refine Below.drew ?_ | refine Below.alloc ?_ (by simp <;> omega) _))⟩
theorem same18_nil (w : World) : Calls Tryz.prog 18 #[.agg #[.slice none 0 0, .slice none 0 0, .int .u64 0, .int .u32 0], .agg #[.slice none 0 0, .slice none 0 0, .int .u64 0, .int .u32 0]] w fun e w' => e = .returned (.bool true) ∧ Below w.heap.size w w' := by
  have hcn : ∀ w, (convert 27 9 (.slice none 0 0)).run Tryz.prog w = .ok (.string ⟨#[]⟩) w := fun w => run_convert_bytes_nil w 27 5 Tryz.underlying27 Tryz.underlying5 0 0 9 Tryz.underlying9
  go_enter Tryz.func18, Tryz.ntmps18
  go_wp2_with fail
  refine wp_loop_rounds 1 ?_
  rw [rounds_succ]
  go_wp2_with fail
  go_ret
  exact ⟨rfl, by (repeat (first | exact Below.refl _ _ | refine Below.drew ?_ | refine Below.alloc ?_ (by simp <;> omega) _))⟩

end Go.Proofs.YtmjholcpajfldaaGreatDoor
