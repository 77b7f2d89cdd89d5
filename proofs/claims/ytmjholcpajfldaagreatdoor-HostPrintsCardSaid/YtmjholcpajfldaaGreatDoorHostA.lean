/- Walks: the host's rows and what is known. No condition. -/
import Derived.OwnWalk
import Derived.Deep.RegionHeld3
import Derived.Deep.WholeRow
import Derived.Test.YtmjholcpajfldaaGreatDoorKitH
import Derived.Test.YtmjholcpajfldaaGreatDoorProg
namespace Go.Proofs.YtmjholcpajfldaaGreatDoor
open Go.RowKit
set_option linter.unusedVariables false
set_option linter.unusedSimpArgs false

def hostN : List ByteArray := [⟨#[112, 114, 105, 110, 116]⟩, ⟨#[112, 117, 116]⟩, ⟨#[105, 110, 116]⟩, ⟨#[104, 101, 120]⟩, ⟨#[102, 108, 111, 97, 116]⟩, ⟨#[99, 108, 101, 97, 114]⟩, ⟨#[108, 101, 110, 103, 116, 104]⟩, ⟨#[114, 117, 110, 101, 115]⟩, ⟨#[112, 97, 114, 115, 101]⟩, ⟨#[112, 97, 114, 115, 101, 102]⟩, ⟨#[103, 101, 116]⟩, ⟨#[115, 101, 116]⟩, ⟨#[115, 101, 101, 100]⟩, ⟨#[114, 97, 110, 100, 111, 109]⟩, ⟨#[99, 108, 111, 99, 107]⟩, ⟨#[115, 113, 114, 116]⟩, ⟨#[102, 108, 111, 111, 114]⟩, ⟨#[97, 98, 115]⟩, ⟨#[97, 100, 100]⟩, ⟨#[109, 117, 108]⟩, ⟨#[100, 105, 118]⟩, ⟨#[116, 117, 114, 110]⟩, ⟨#[102, 97, 114]⟩, ⟨#[119, 97, 118, 101]⟩]
def hostR : List Int := [1, 1, 1, 1, 1, 0, 1, 1, 2, 2, 2, 2, 1, 1, 0, 1, 1, 1, 3, 3, 3, 3, 1, 3]
def nm (k : Nat) : ByteArray := hostN.getD k ⟨#[]⟩
def ar (k : Nat) : Int := hostR.getD k 0
def hostV : List Value := [.string ⟨#[112, 114, 105, 110, 116]⟩, .int .i64 1, .string ⟨#[112, 117, 116]⟩, .int .i64 1, .string ⟨#[105, 110, 116]⟩, .int .i64 1, .string ⟨#[104, 101, 120]⟩, .int .i64 1, .string ⟨#[102, 108, 111, 97, 116]⟩, .int .i64 1, .string ⟨#[99, 108, 101, 97, 114]⟩, .int .i64 0, .string ⟨#[108, 101, 110, 103, 116, 104]⟩, .int .i64 1, .string ⟨#[114, 117, 110, 101, 115]⟩, .int .i64 1, .string ⟨#[112, 97, 114, 115, 101]⟩, .int .i64 2, .string ⟨#[112, 97, 114, 115, 101, 102]⟩, .int .i64 2, .string ⟨#[103, 101, 116]⟩, .int .i64 2, .string ⟨#[115, 101, 116]⟩, .int .i64 2, .string ⟨#[115, 101, 101, 100]⟩, .int .i64 1, .string ⟨#[114, 97, 110, 100, 111, 109]⟩, .int .i64 1, .string ⟨#[99, 108, 111, 99, 107]⟩, .int .i64 0, .string ⟨#[115, 113, 114, 116]⟩, .int .i64 1, .string ⟨#[102, 108, 111, 111, 114]⟩, .int .i64 1, .string ⟨#[97, 98, 115]⟩, .int .i64 1, .string ⟨#[97, 100, 100]⟩, .int .i64 3, .string ⟨#[109, 117, 108]⟩, .int .i64 3, .string ⟨#[100, 105, 118]⟩, .int .i64 3, .string ⟨#[116, 117, 114, 110]⟩, .int .i64 3, .string ⟨#[102, 97, 114]⟩, .int .i64 1, .string ⟨#[119, 97, 118, 101]⟩, .int .i64 3]
structure RowsOk (A : Array Value) : Prop where
  size : A.size = 48
  at1 : ∀ k, k < 24 → A[k * 2]? = some (.string (nm k))
  at2 : ∀ k, k < 24 → A[k * 2 + 1]? = some (.int .i64 (ar k))
theorem all24 {p : Nat → Prop} [DecidablePred p] (h : (List.range 24).all (fun k => decide (p k)) = true) : ∀ k, k < 24 → p k := fun k hk => by
  have := List.all_eq_true.1 h k (List.mem_range.2 hk)
  simpa using this
theorem rows_ok : RowsOk hostV.toArray := ⟨rfl, fun k hk => by
  match k, hk with
  | 0, _ => exact rfl
  | 1, _ => exact rfl
  | 2, _ => exact rfl
  | 3, _ => exact rfl
  | 4, _ => exact rfl
  | 5, _ => exact rfl
  | 6, _ => exact rfl
  | 7, _ => exact rfl
  | 8, _ => exact rfl
  | 9, _ => exact rfl
  | 10, _ => exact rfl
  | 11, _ => exact rfl
  | 12, _ => exact rfl
  | 13, _ => exact rfl
  | 14, _ => exact rfl
  | 15, _ => exact rfl
  | 16, _ => exact rfl
  | 17, _ => exact rfl
  | 18, _ => exact rfl
  | 19, _ => exact rfl
  | 20, _ => exact rfl
  | 21, _ => exact rfl
  | 22, _ => exact rfl
  | 23, _ => exact rfl
  | n + 24, h => exact absurd h (by omega), fun k hk => by
  match k, hk with
  | 0, _ => exact rfl
  | 1, _ => exact rfl
  | 2, _ => exact rfl
  | 3, _ => exact rfl
  | 4, _ => exact rfl
  | 5, _ => exact rfl
  | 6, _ => exact rfl
  | 7, _ => exact rfl
  | 8, _ => exact rfl
  | 9, _ => exact rfl
  | 10, _ => exact rfl
  | 11, _ => exact rfl
  | 12, _ => exact rfl
  | 13, _ => exact rfl
  | 14, _ => exact rfl
  | 15, _ => exact rfl
  | 16, _ => exact rfl
  | 17, _ => exact rfl
  | 18, _ => exact rfl
  | 19, _ => exact rfl
  | 20, _ => exact rfl
  | 21, _ => exact rfl
  | 22, _ => exact rfl
  | 23, _ => exact rfl
  | n + 24, h => exact absurd h (by omega)⟩
theorem hostS_at (k : Nat) (h : k < 24) : (hostN.map Value.string)[k]? = some (.string (nm k)) := by
  simp [nm, List.getD, List.getElem?_eq_getElem (show k < hostN.length from h)]

/-- A whole row into the block that was made last. -/
theorem wpList_store_fresh {P : Program} {w : World} {ops : Array Oper} {rest : List Oper} {o : Oper} {a : Act} {Q : Exit → Act → World → Prop} (hgd : o.guard = none) (ty : TypeId) (x y : Operand) (ho : o.op = .store ty x y) (c c' : Array Value)
    (hx : a.eval x = .pointer (some ⟨w.heap.size, 0, none⟩)) (hy : a.eval y = .agg c') (hi : (P.info? ty).map (·.size) = some c'.size) (hs : c.size = c'.size) (h1 : c'.all (·.oneCell') = true)
    (h : wpList P ops Q rest (a.put o.dst undef) (w.alloc (.cells c' ty))) : wpList P ops Q (o :: rest) a (w.alloc (.cells c ty)) := by
  refine wpList_plain hgd fun K hK => ?_
  unfold Oper.wp execOp
  simp only [ho, hx, hy, run_storeAt_new w ty c c' hi hs h1, Sem.run_bind, Sem.run_pure, Result.andThen_ok]
  exact hK _ _ h

set_option maxHeartbeats 1000000 in
set_option maxRecDepth 10000 in
theorem rows36 (w : World) : Calls Tryz.prog 36 #[] w fun e w' => ∃ A : Array Value, e = .returned (.agg A) ∧ RowsOk A ∧ w.grownBy w' none := by
  go_enter Tryz.func36, Tryz.ntmps36
  go_wp2_with (first
    | (refine wpList_build rfl 67 _ rfl #[.string ⟨#[112, 114, 105, 110, 116]⟩, .int .i64 1] (by kernel_rfl) ?_)
    | (refine wpList_build rfl 67 _ rfl #[.string ⟨#[112, 117, 116]⟩, .int .i64 1] (by kernel_rfl) ?_)
    | (refine wpList_build rfl 67 _ rfl #[.string ⟨#[105, 110, 116]⟩, .int .i64 1] (by kernel_rfl) ?_)
    | (refine wpList_build rfl 67 _ rfl #[.string ⟨#[104, 101, 120]⟩, .int .i64 1] (by kernel_rfl) ?_)
    | (refine wpList_build rfl 67 _ rfl #[.string ⟨#[102, 108, 111, 97, 116]⟩, .int .i64 1] (by kernel_rfl) ?_)
    | (refine wpList_build rfl 67 _ rfl #[.string ⟨#[99, 108, 101, 97, 114]⟩, .int .i64 0] (by kernel_rfl) ?_)
    | (refine wpList_build rfl 67 _ rfl #[.string ⟨#[108, 101, 110, 103, 116, 104]⟩, .int .i64 1] (by kernel_rfl) ?_)
    | (refine wpList_build rfl 67 _ rfl #[.string ⟨#[114, 117, 110, 101, 115]⟩, .int .i64 1] (by kernel_rfl) ?_)
    | (refine wpList_build rfl 67 _ rfl #[.string ⟨#[112, 97, 114, 115, 101]⟩, .int .i64 2] (by kernel_rfl) ?_)
    | (refine wpList_build rfl 67 _ rfl #[.string ⟨#[112, 97, 114, 115, 101, 102]⟩, .int .i64 2] (by kernel_rfl) ?_)
    | (refine wpList_build rfl 67 _ rfl #[.string ⟨#[103, 101, 116]⟩, .int .i64 2] (by kernel_rfl) ?_)
    | (refine wpList_build rfl 67 _ rfl #[.string ⟨#[115, 101, 116]⟩, .int .i64 2] (by kernel_rfl) ?_)
    | (refine wpList_build rfl 67 _ rfl #[.string ⟨#[115, 101, 101, 100]⟩, .int .i64 1] (by kernel_rfl) ?_)
    | (refine wpList_build rfl 67 _ rfl #[.string ⟨#[114, 97, 110, 100, 111, 109]⟩, .int .i64 1] (by kernel_rfl) ?_)
    | (refine wpList_build rfl 67 _ rfl #[.string ⟨#[99, 108, 111, 99, 107]⟩, .int .i64 0] (by kernel_rfl) ?_)
    | (refine wpList_build rfl 67 _ rfl #[.string ⟨#[115, 113, 114, 116]⟩, .int .i64 1] (by kernel_rfl) ?_)
    | (refine wpList_build rfl 67 _ rfl #[.string ⟨#[102, 108, 111, 111, 114]⟩, .int .i64 1] (by kernel_rfl) ?_)
    | (refine wpList_build rfl 67 _ rfl #[.string ⟨#[97, 98, 115]⟩, .int .i64 1] (by kernel_rfl) ?_)
    | (refine wpList_build rfl 67 _ rfl #[.string ⟨#[97, 100, 100]⟩, .int .i64 3] (by kernel_rfl) ?_)
    | (refine wpList_build rfl 67 _ rfl #[.string ⟨#[109, 117, 108]⟩, .int .i64 3] (by kernel_rfl) ?_)
    | (refine wpList_build rfl 67 _ rfl #[.string ⟨#[100, 105, 118]⟩, .int .i64 3] (by kernel_rfl) ?_)
    | (refine wpList_build rfl 67 _ rfl #[.string ⟨#[116, 117, 114, 110]⟩, .int .i64 3] (by kernel_rfl) ?_)
    | (refine wpList_build rfl 67 _ rfl #[.string ⟨#[102, 97, 114]⟩, .int .i64 1] (by kernel_rfl) ?_)
    | (refine wpList_build rfl 67 _ rfl #[.string ⟨#[119, 97, 118, 101]⟩, .int .i64 3] (by kernel_rfl) ?_)
    | (refine wpList_build rfl 90 _ rfl hostV.toArray (by kernel_rfl) ?_)
    | (refine wpList_store_fresh rfl 90 _ _ rfl _ hostV.toArray rfl rfl (by kernel_rfl) rfl (by kernel_rfl) ?_))
  (try simp only [Exit.inBlock, Exit.then])
  refine bodyPost_ret (results_cell_row rfl _ _ w.heap.size _ hostV.toArray _ _ rfl (heap_alloc_new w _) Tryz.underlying90 rfl (by kernel_rfl)) rfl ?_
  exact ⟨_, rfl, rows_ok, World.grownBy_alloc _ _ _⟩

theorem extract_two (A : Array Value) (j : Nat) (u v : Value) (h1 : A[j]? = some u) (h2 : A[j + 1]? = some v) : A.extract j (j + 2) = #[u, v] := by
  have hl : j + 1 < A.size := (Array.getElem?_eq_some_iff.1 h2).1
  apply Array.ext_getElem?
  intro i
  rw [Array.getElem?_extract]
  match i with
  | 0 => simp [h1]; omega
  | 1 => simp [h2]; omega
  | n + 2 => simp; omega
theorem agg67 (w : World) : (isAgg 67).run Tryz.prog w = .ok true w := by
  unfold isAgg
  rw [Sem.run_bind, run_underlying Tryz.underlying67 w]
  rfl
theorem size67 (w : World) : (sizeOf 67).run Tryz.prog w = .ok 2 w := by
  have h : (Tryz.prog.info? 67).map (·.size) = some 2 := by kernel_rfl
  cases hq : Tryz.prog.info? 67 with
  | none => simp [hq] at h
  | some i =>
    have : i.size = 2 := by simpa [hq] using h
    simp [sizeOf, typeInfo, hq, this]
theorem run_rows (A : Array Value) (hA : RowsOk A) (k : Nat) (hk : k < 24) (kd : IntKind) (w : World) : (Instr.index 90 (.agg A) (.int kd (k : Int))).run Tryz.prog w = .ok (.agg #[.string (nm k), .int .i64 (ar k)]) w := by
  have hx := extract_two A (k * 2) _ _ (hA.at1 k hk) (hA.at2 k hk)
  have h1 : (0 : Int) ≤ k ∧ (k : Int) < ((24 : Nat) : Int) := by omega
  unfold Instr.index
  simp only [asIntOf, Sem.run_bind, Sem.run_pure, Result.andThen_ok, run_underlying Tryz.underlying90, h1, and_self, if_true, Int.toNat_natCast, size67, part, agg67, hx]

theorem grown_of_below {w w' : World} (h : Below w.heap.size w w') : w.grownBy w' none := ⟨h.os, h.tape, h.output, h.size, fun k hk _ => h.block k hk⟩
theorem below_of_grown {w w' : World} (h : w.grownBy w' none) : Below w.heap.size w w' := (Below.refl _ _).grown h (Nat.le_refl _) (fun q hq => by simp at hq)

set_option maxHeartbeats 1000000 in
set_option maxRecDepth 10000 in
theorem known23 (k : Nat) (hk : k < 24) (x : Int) (hx : x = 16 + k) (w : World) : Calls Tryz.prog 23 #[.int .u32 x] w fun e w' => e = .returned (.tuple #[.agg #[.string (nm k), .int .i64 (ar k)], .bool true]) ∧ w.grownBy w' none := by
  have h1 : (x < 16) = False := eq_false (by omega)
  have h2 : (39 < x) = False := eq_false (by omega)
  have h4 : IntKind.u32.wrap (x - 16) = k := by rw [IntKind.wrap_u32]; omega
  clear hx
  go_enter Tryz.func23, Tryz.ntmps23
  go_wp2_with fail
  refine (rows36 _).mono ?_
  rintro e w1 ⟨A, rfl, hA, hg⟩
  have hr := run_rows A hA k hk .u32 w1
  have hlw : w.heap.size < w1.heap.size := by have := hg.size; simp at this; omega
  have hb0 : w1.heap[w.heap.size]? = some (.cells #[.string ⟨#[]⟩, .int .i64 0] 67 (0, 0)) := (hg.block _ (by simp) (by simp)).trans (heap_alloc_new w _)
  have hq0 : w1.cell? ⟨w.heap.size, 0, none⟩ = some (.string ⟨#[]⟩) := (cell_of_row w1 _ 0 _ 67 (0, 0) hb0).trans rfl
  have hq1 : w1.cell? ⟨w.heap.size, 1, none⟩ = some (.int .i64 0) := (cell_of_row w1 _ 1 _ 67 (0, 0) hb0).trans rfl
  have hf0 : w1.frozen? ⟨w.heap.size, 0, none⟩ = false := frozen_of_row w1 _ 0 _ 67 hb0
  have hf1 : w1.frozen? ⟨w.heap.size, 1, none⟩ = false := frozen_of_row w1 _ 1 _ 67 hb0
  have hb2 := hid (heap_setCell_same _ w.heap.size 1 _ 67 (.int .i64 (ar k)) (heap_setCell_same w1 w.heap.size 0 _ 67 (.string (nm k)) hb0))
  clear hb0
  have hB : Hid (Below w.heap.size w w1) := ((Below.refl _ _).alloc (Nat.le_refl _) _).trans ((below_of_grown hg).mono (by simp))
  clear hg hA
  go_wp2_with fail
  (try simp only [Exit.inBlock, Exit.then])
  refine bodyPost_ret (v := .tuple #[.agg #[.string (nm k), .int .i64 (ar k)], .bool true]) ?_ rfl ⟨rfl, grown_of_below (Below.setCell (Below.setCell hB.out (Nat.le_refl _) _) (Nat.le_refl _) _)⟩
  rw [results_cell_tmp rfl]
  have hload := run_loadVar_row (P := Tryz.prog) _ w.heap.size 67 67 _ (0, 0) _ hb2.out Tryz.underlying67 rfl (by kernel_rfl)
  simp [asAddr, Result.andThen, hload]

set_option maxHeartbeats 1000000 in
set_option maxRecDepth 10000 in
theorem known23no (x : Int) (hx : 0 ≤ x ∧ x ≤ 4294967295) (hn : ¬ (16 ≤ x ∧ x ≤ 39)) (w : World) : Calls Tryz.prog 23 #[.int .u32 x] w fun e w' => e = .returned (.tuple #[.agg #[.string ⟨#[]⟩, .int .i64 0], .bool false]) ∧ w.grownBy w' none := by
  have hload := hid (run_loadVar_row (P := Tryz.prog) (w.alloc (.cells #[.string ⟨#[]⟩, .int .i64 0] 67)) w.heap.size 67 67 _ (0, 0) _ (heap_alloc_new w _) Tryz.underlying67 rfl (by kernel_rfl))
  by_cases h : x < 16
  · have h1 : (x < 16) = True := eq_true h
    clear hx hn h
    go_enter Tryz.func23, Tryz.ntmps23
    go_wp2_with fail
    (try simp only [Exit.inBlock, Exit.then])
    refine bodyPost_ret (v := .tuple #[.agg #[.string ⟨#[]⟩, .int .i64 0], .bool false]) ?_ rfl ⟨rfl, World.grownBy_alloc _ _ _⟩
    rw [results_cell_tmp rfl]
    have hl := hload.out
    simp [asAddr, Result.andThen, hl]
  · have h1 : (x < 16) = False := eq_false h
    have h2 : (39 < x) = True := eq_true (by omega)
    clear hx hn h
    go_enter Tryz.func23, Tryz.ntmps23
    go_wp2_with fail
    (try simp only [Exit.inBlock, Exit.then])
    refine bodyPost_ret (v := .tuple #[.agg #[.string ⟨#[]⟩, .int .i64 0], .bool false]) ?_ rfl ⟨rfl, World.grownBy_alloc _ _ _⟩
    rw [results_cell_tmp rfl]
    have hl := hload.out
    simp [asAddr, Result.andThen, hl]


end Go.Proofs.YtmjholcpajfldaaGreatDoor
