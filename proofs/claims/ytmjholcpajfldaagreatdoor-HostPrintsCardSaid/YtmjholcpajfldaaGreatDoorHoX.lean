/- The start's shape. No condition. -/
import Derived.Test.YtmjholcpajfldaaGreatDoorHoV
namespace Go.Proofs.YtmjholcpajfldaaGreatDoor
open Go.RowKit
set_option linter.unusedVariables false
set_option linter.unusedSimpArgs false

set_option maxRecDepth 100000
/-- as the kit's shaped_of_RefB, but for one global, which comes by law -/
theorem shaped_but {P : Program} {w : World} (g0 : Nat) (hv : ((List.range P.globals.size).all fun g => g == g0 || (match (((begin P (fun _ _ => 0) default).world).heap[g]?).bind Obj.row? with
    | none => true
    | some (zero, t) =>
      match w.heap[g]? with
      | some (.cells cs t' frozen) => decide (t' = t) && decide (frozen = (0, 0)) && cs.size == zero.size && (!P.buildable t || Row.okRefB P w t cs)
      | _ => false)) = true)
    (hr : (w.heap.toList.drop P.globals.size).take ((begin P (fun _ _ => 0) default).world.heap.size - P.globals.size) =
      (begin P (fun _ _ => 0) default).world.heap.toList.drop P.globals.size)
    (h0 : ∀ zero t, (((begin P (fun _ _ => 0) default).world).heap[g0]?).bind Obj.row? = some (zero, t) → ∃ cs, w.heap[g0]? = some (.cells cs t) ∧ cs.size = zero.size ∧ (P.buildable t = true → Row.ok P w .any 0 t cs)) : w.Shaped P := by
  refine ⟨fun g zero t hg hz => ?_, fun k h1 h2 => ?_⟩
  case refine_2 =>
    have := congrArg (·[k - P.globals.size]?) hr
    simp only [List.getElem?_take, List.getElem?_drop, Array.getElem?_toList] at this
    rw [if_pos (by omega), Nat.add_sub_cancel' h1] at this
    exact this
  by_cases hgg : g = g0
  · subst hgg; exact h0 zero t hz
  simp only [List.all_eq_true, List.mem_range] at hv
  have := hv g hg
  rw [show (g == g0) = false from beq_eq_false_iff_ne.2 hgg, Bool.false_or, hz] at this
  simp only at this
  split at this
  · rename_i cs t' fr hw
    simp only [Bool.and_eq_true, decide_eq_true_eq, beq_iff_eq, Bool.or_eq_true, Bool.not_eq_true'] at this
    obtain ⟨⟨⟨rfl, rfl⟩, hs⟩, hb⟩ := this
    refine ⟨cs, hw, hs, fun hbuild => ?_⟩
    rcases hb with hb | hb
    · rw [hbuild] at hb; cases hb
    · exact Row.ok_of_okRefB hb
  · cases this
theorem pow_types : Tryz.prog.cellTypes Tryz.prog.depth 334 = some (List.replicate 1392 22) := by kernel_rfl
theorem pow_all (w : World) : powCells.all (fun v => Cell.okRefB Tryz.prog w 22 v) = true := by kernel_rfl
theorem pow_size : powCells.toArray.size = 1392 := by kernel_rfl
theorem pow_zero : ((((begin Tryz.prog (fun _ _ => 0) default).world).heap[15]?).bind Obj.row?).map (fun x => (x.1.size, x.2)) = some (1392, 334) := by kernel_rfl
theorem pow_row (w : World) : Row.ok Tryz.prog w .any 0 334 powCells.toArray := by
  refine ⟨_, pow_types, ⟨1, by rw [pow_size, List.length_replicate]⟩, fun i v hv => ⟨22, ?_, ?_⟩⟩
  · rw [List.length_replicate, List.getElem?_replicate, if_pos (Nat.mod_lt _ (by decide))]
  · have hm : v ∈ powCells := by
      rw [← Array.getElem?_toList] at hv
      exact List.mem_of_getElem? hv
    exact Cell.ok_of_okRefB (List.all_eq_true.1 (pow_all w) v hm)
theorem start_shaped (os : Os) (args : Array Value) : ((laidWorld os).forCall (fun _ _ => 0) ⟨#[], args, []⟩).Shaped Tryz.prog := by
  refine shaped_but 15 (by kernel_rfl) (by kernel_rfl) ?_
  intro zero t hz
  have h := pow_zero
  rw [hz] at h
  simp only [Option.map_some, Option.some.injEq, Prod.mk.injEq] at h
  obtain ⟨h1, rfl⟩ := h
  exact ⟨powCells.toArray, pow_heap os args, by rw [pow_size, h1], fun _ => pow_row _⟩


end Go.Proofs.YtmjholcpajfldaaGreatDoor
