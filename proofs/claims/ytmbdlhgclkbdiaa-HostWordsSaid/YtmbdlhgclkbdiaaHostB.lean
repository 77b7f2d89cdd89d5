/- Walks: the host's words, one by one. -/
import Derived.Test.YtmbdlhgclkbdiaaHostA
namespace Go.Proofs.Ytmbdlhgclkbdiaa
open Go.RowKit
set_option linter.unusedVariables false
set_option linter.unusedSimpArgs false

set_option maxHeartbeats 1000000 in
set_option maxRecDepth 10000 in
theorem word21 (k : Nat) (hk : k < 24) (x : Int) (hx : x = 16 + k) (w : World) : Calls Try.prog 21 #[.int .u32 x] w fun e w' => e = .returned (.string (nm k)) ∧ w.grownBy w' none := by
  have h1 : (x < 16) = False := eq_false (by omega)
  have h2 : (39 < x) = False := eq_false (by omega)
  have h3 : IntKind.i64.wrap x = x := IntWalk.i64_in _ (by omega)
  have h4 : IntKind.i64.wrap (x - 16) = k := by rw [IntWalk.i64_in _ (by omega)]; omega
  have hk0 : (0 : Int) ≤ k := Int.natCast_nonneg k
  have hk1 : (k : Int) < 24 := by omega
  have hc : (w.alloc (.cells (hostN.map Value.string).toArray 62)).cell? ⟨w.heap.size, k, none⟩ = some (.string (nm k)) := by
    rw [World.cell?_alloc_mark]
    simpa using hostS_at k hk
  clear hx
  go_enter Try.func21, Try.ntmps21
  go_wp2_with (refine wpList_store_fresh rfl 62 _ _ rfl _ (hostN.map Value.string).toArray rfl rfl (by kernel_rfl) rfl (by kernel_rfl) ?_)
  go_ret
  exact ⟨rfl, World.grownBy_alloc _ _ _⟩
set_option maxHeartbeats 1000000 in
set_option maxRecDepth 10000 in
theorem word21no (x : Int) (hx : 0 ≤ x ∧ x ≤ 4294967295) (hn : ¬ (16 ≤ x ∧ x ≤ 39)) (w : World) : Calls Try.prog 21 #[.int .u32 x] w fun e w' => e = .returned (.string ⟨#[]⟩) ∧ w.grownBy w' none := by
  by_cases h : x < 16
  · have h1 : (x < 16) = True := eq_true h
    clear hx hn h
    go_enter Try.func21, Try.ntmps21
    go_wp2_with (refine wpList_store_fresh rfl 62 _ _ rfl _ (hostN.map Value.string).toArray rfl rfl (by kernel_rfl) rfl (by kernel_rfl) ?_)
    go_ret
    exact ⟨rfl, World.grownBy_alloc _ _ _⟩
  · have h1 : (x < 16) = False := eq_false h
    have h2 : (39 < x) = True := eq_true (by omega)
    clear hx hn h
    go_enter Try.func21, Try.ntmps21
    go_wp2_with (refine wpList_store_fresh rfl 62 _ _ rfl _ (hostN.map Value.string).toArray rfl rfl (by kernel_rfl) rfl (by kernel_rfl) ?_)
    go_ret
    exact ⟨rfl, World.grownBy_alloc _ _ _⟩
theorem extract_two (A : Array Value) (j : Nat) (u v : Value) (h1 : A[j]? = some u) (h2 : A[j + 1]? = some v) : A.extract j (j + 2) = #[u, v] := by
  have hl : j + 1 < A.size := (Array.getElem?_eq_some_iff.1 h2).1
  apply Array.ext_getElem?
  intro i
  rw [Array.getElem?_extract]
  match i with
  | 0 => simp [h1]; omega
  | 1 => simp [h2]; omega
  | n + 2 => simp; omega
theorem agg54 (w : World) : (isAgg 54).run Try.prog w = .ok true w := by
  unfold isAgg
  rw [Sem.run_bind, run_underlying Try.underlying54 w]
  rfl
theorem size54 (w : World) : (sizeOf 54).run Try.prog w = .ok 2 w := by
  have h : (Try.prog.info? 54).map (·.size) = some 2 := by kernel_rfl
  cases hq : Try.prog.info? 54 with
  | none => simp [hq] at h
  | some i =>
    have : i.size = 2 := by simpa [hq] using h
    simp [sizeOf, typeInfo, hq, this]
theorem run_rows (A : Array Value) (hA : RowsOk A) (k : Nat) (hk : k < 24) (kd : IntKind) (w : World) : (Instr.index 55 (.agg A) (.int kd (k : Int))).run Try.prog w = .ok (.agg #[.string (nm k), .int .i64 (ar k)]) w := by
  have hx := extract_two A (k * 2) _ _ (hA.at1 k hk) (hA.at2 k hk)
  have h1 : (0 : Int) ≤ k ∧ (k : Int) < ((24 : Nat) : Int) := by omega
  unfold Instr.index
  simp only [asIntOf, Sem.run_bind, Sem.run_pure, Result.andThen_ok, run_underlying Try.underlying55, h1, and_self, if_true, Int.toNat_natCast, size54, part, agg54, hx]

theorem grown_of_below {w w' : World} (h : Below w.heap.size w w') : w.grownBy w' none := ⟨h.os, h.tape, h.output, h.size, fun k hk _ => h.block k hk⟩
theorem below_of_grown {w w' : World} (h : w.grownBy w' none) : Below w.heap.size w w' := (Below.refl _ _).grown h (Nat.le_refl _) (fun q hq => by simp at hq)

set_option maxHeartbeats 1000000 in
set_option maxRecDepth 10000 in
theorem known34 (k : Nat) (hk : k < 24) (x : Int) (hx : x = 16 + k) (w : World) : Calls Try.prog 34 #[.int .u32 x] w fun e w' => e = .returned (.tuple #[.agg #[.string (nm k), .int .i64 (ar k)], .bool true]) ∧ w.grownBy w' none := by
  have h1 : (x < 16) = False := eq_false (by omega)
  have h2 : (39 < x) = False := eq_false (by omega)
  have h4 : IntKind.u32.wrap (x - 16) = k := by rw [IntKind.wrap_u32]; omega
  clear hx
  go_enter Try.func34, Try.ntmps34
  go_wp2_with fail
  refine (rows32 _).mono ?_
  rintro e w1 ⟨A, rfl, hA, hg⟩
  have hr := run_rows A hA k hk .u32 w1
  have hlw : w.heap.size < w1.heap.size := by have := hg.size; simp at this; omega
  have hb0 : w1.heap[w.heap.size]? = some (.cells #[.string ⟨#[]⟩, .int .i64 0] 54 (0, 0)) := (hg.block _ (by simp) (by simp)).trans (heap_alloc_new w _)
  have hq0 : w1.cell? ⟨w.heap.size, 0, none⟩ = some (.string ⟨#[]⟩) := (cell_of_row w1 _ 0 _ 54 (0, 0) hb0).trans rfl
  have hq1 : w1.cell? ⟨w.heap.size, 1, none⟩ = some (.int .i64 0) := (cell_of_row w1 _ 1 _ 54 (0, 0) hb0).trans rfl
  have hf0 : w1.frozen? ⟨w.heap.size, 0, none⟩ = false := frozen_of_row w1 _ 0 _ 54 hb0
  have hf1 : w1.frozen? ⟨w.heap.size, 1, none⟩ = false := frozen_of_row w1 _ 1 _ 54 hb0
  have hb2 := hid (heap_setCell_same _ w.heap.size 1 _ 54 (.int .i64 (ar k)) (heap_setCell_same w1 w.heap.size 0 _ 54 (.string (nm k)) hb0))
  clear hb0
  have hB : Hid (Below w.heap.size w w1) := ((Below.refl _ _).alloc (Nat.le_refl _) _).trans ((below_of_grown hg).mono (by simp))
  clear hg hA
  go_wp2_with fail
  (try simp only [Exit.inBlock, Exit.then])
  refine bodyPost_ret (v := .tuple #[.agg #[.string (nm k), .int .i64 (ar k)], .bool true]) ?_ rfl ⟨rfl, grown_of_below (Below.setCell (Below.setCell hB.out (Nat.le_refl _) _) (Nat.le_refl _) _)⟩
  rw [results_cell_tmp rfl]
  have hload := run_loadVar_row (P := Try.prog) _ w.heap.size 54 54 _ (0, 0) _ hb2.out Try.underlying54 rfl (by kernel_rfl)
  simp [asAddr, Result.andThen, hload]

set_option maxHeartbeats 1000000 in
set_option maxRecDepth 10000 in
theorem known34no (x : Int) (hx : 0 ≤ x ∧ x ≤ 4294967295) (hn : ¬ (16 ≤ x ∧ x ≤ 39)) (w : World) : Calls Try.prog 34 #[.int .u32 x] w fun e w' => e = .returned (.tuple #[.agg #[.string ⟨#[]⟩, .int .i64 0], .bool false]) ∧ w.grownBy w' none := by
  have hload := hid (run_loadVar_row (P := Try.prog) (w.alloc (.cells #[.string ⟨#[]⟩, .int .i64 0] 54)) w.heap.size 54 54 _ (0, 0) _ (heap_alloc_new w _) Try.underlying54 rfl (by kernel_rfl))
  by_cases h : x < 16
  · have h1 : (x < 16) = True := eq_true h
    clear hx hn h
    go_enter Try.func34, Try.ntmps34
    go_wp2_with fail
    (try simp only [Exit.inBlock, Exit.then])
    refine bodyPost_ret (v := .tuple #[.agg #[.string ⟨#[]⟩, .int .i64 0], .bool false]) ?_ rfl ⟨rfl, World.grownBy_alloc _ _ _⟩
    rw [results_cell_tmp rfl]
    have hl := hload.out
    simp [asAddr, Result.andThen, hl]
  · have h1 : (x < 16) = False := eq_false h
    have h2 : (39 < x) = True := eq_true (by omega)
    clear hx hn h
    go_enter Try.func34, Try.ntmps34
    go_wp2_with fail
    (try simp only [Exit.inBlock, Exit.then])
    refine bodyPost_ret (v := .tuple #[.agg #[.string ⟨#[]⟩, .int .i64 0], .bool false]) ?_ rfl ⟨rfl, World.grownBy_alloc _ _ _⟩
    rw [results_cell_tmp rfl]
    have hl := hload.out
    simp [asAddr, Result.andThen, hl]

set_option maxHeartbeats 1000000 in
set_option maxRecDepth 10000 in
theorem word18 (k : Nat) (hk : k < 24) (x : Int) (hx : x = 16 + k) (w : World) : Calls Try.prog 18 #[.int .u32 x] w fun e w' => e = .returned (.string (nm k)) ∧ w.grownBy w' none := by
  have h34 := hid (fun w => known34 k hk x hx w)
  clear hx
  go_enter Try.func18, Try.ntmps18
  go_wp2_with fail
  refine (h34.out _).mono ?_
  rintro e w1 ⟨rfl, hg⟩
  have hg' := hid hg
  clear hg
  go_wp2_with fail
  go_ret
  exact ⟨rfl, grown_trans hg'.out (World.grownBy_alloc _ _ _)⟩
set_option maxHeartbeats 1000000 in
set_option maxRecDepth 10000 in
theorem word18no (x : Int) (hx : 0 ≤ x ∧ x ≤ 4294967295) (hn : ¬ (16 ≤ x ∧ x ≤ 39)) (w : World) : Calls Try.prog 18 #[.int .u32 x] w fun e w' => e = .returned (.string ⟨#[]⟩) ∧ w.grownBy w' none := by
  have h34 := hid (fun w => known34no x hx hn w)
  clear hx hn
  go_enter Try.func18, Try.ntmps18
  go_wp2_with fail
  refine (h34.out _).mono ?_
  rintro e w1 ⟨rfl, hg⟩
  have hg' := hid hg
  clear hg
  go_wp2_with fail
  go_ret
  exact ⟨rfl, grown_trans hg'.out (World.grownBy_alloc _ _ _)⟩
end Go.Proofs.Ytmbdlhgclkbdiaa
