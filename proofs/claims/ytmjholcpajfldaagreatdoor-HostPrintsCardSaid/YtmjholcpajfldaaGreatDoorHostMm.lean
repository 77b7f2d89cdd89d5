/- Maps whose entries' births are known to be apart. No condition. -/
import Derived.Test.YtmjholcpajfldaaGreatDoorHostMc
namespace Go.Proofs.YtmjholcpajfldaaGreatDoor
open Go.RowKit
set_option linter.unusedVariables false
set_option linter.unusedSimpArgs false

set_option maxRecDepth 100000
open Go.MapKept (run_checkKey run_findKey run_setObj_map IsKey bytes_beq run_keyThatStays heap_set)

/-- the births of the entries of the map in block b are apart, and ahead of its clock -/
def Mb (w : World) (b : Nat) : Prop := ∃ (es : Array MapEntry) (clock : Nat), w.heap[b]? = some (.map es clock) ∧ (es.toList.map (·.born)).Nodup ∧ ∀ x ∈ es.toList, x.born < clock
theorem Mb.of_nil {w : World} {b : Nat} (h : Mp w b []) : Mb w b := by
  obtain ⟨es, c, h1, h2⟩ := h
  have h3 : es.toList = [] := by simpa using h2
  exact ⟨es, c, h1, by rw [h3]; exact List.nodup_nil, fun x hx => by rw [h3] at hx; cases hx⟩
theorem Mb.on {w w' : World} {b : Nat} (h : Mb w b) {row : Option Nat} (hg : w.grownBy w' row) (hn : some b ≠ row) : Mb w' b := by
  obtain ⟨es, c, h1, h2⟩ := h
  exact ⟨es, c, (hg.block b (lt_of_block h1) hn).trans h1, h2⟩
theorem Mb.below {w w' : World} {b : Nat} (h : Mb w b) (hb : Below w.heap.size w w') : Mb w' b := by
  obtain ⟨es, c, h1, h2⟩ := h
  exact ⟨es, c, (hb.block b (lt_of_block h1)).trans h1, h2⟩
theorem update2 {P : Program} {w : World} {b T K E : Nat} {l : List (ByteArray × Value)} (h : Mp w b l) (hm : Mb w b) (hT : P.underlying T = some (.map K E)) (hK : P.underlying K = some .string) (s : ByteArray) (v : Value) :
    ∃ w', (Instr.mapUpdate T (.map (some b)) (.string s) v).run P w = .ok () w' ∧ w.grownBy w' (some b) ∧ w'.heap.size = w.heap.size ∧ Mp w' b (putM s v l) ∧ Mb w' b := by
  obtain ⟨w', h1, h2, h3, h4⟩ := h.update hT hK s v
  refine ⟨w', h1, h2, h3, h4, ?_⟩
  obtain ⟨es, k, e1, e2⟩ := h
  obtain ⟨es', k', e1', e3, e4⟩ := hm
  rw [e1] at e1'
  simp only [Option.some.injEq, Obj.map.injEq] at e1'
  obtain ⟨rfl, rfl⟩ := e1'
  have hf := findNow_str s es.toList l 0 e2
  have hck : (Instr.checkKey false 10000 K (.string s)).run P w = .ok () w := run_checkKey hK (k := .string s) (by simp [IsKey]) false 9999
  cases hl : lookI s l 0 with
  | none =>
    rw [hl] at hf
    have hr : (Instr.mapUpdate T (.map (some b)) (.string s) v).run P w = .ok () { w with heap := w.heap.setIfInBounds b (.map (es.push { key := .string s, val := v, born := k }) (k + 1)) } := by
      simp [Instr.mapUpdate, run_underlying hT, MapKept.run_getObj_map e1, hck, run_findKey hK hf, run_setObj_map _ e1, Result.andThen]
    rw [h1] at hr
    simp only [Result.ok.injEq, true_and] at hr
    rw [hr]
    refine ⟨_, _, (heap_set e1).1, ?_, ?_⟩
    · rw [Array.toList_push, List.map_append, List.nodup_append]
      refine ⟨e3, by simp, ?_⟩
      intro a ha c hc e
      obtain ⟨x, hx, rfl⟩ := List.mem_map.1 ha
      have := e4 x hx
      simp at hc
      omega
    · intro x hx
      rw [Array.toList_push, List.mem_append] at hx
      rcases hx with hx | hx
      · have := e4 x hx; omega
      · simp at hx; subst hx; simp
  | some a =>
    obtain ⟨j, y⟩ := a
    rw [hl] at hf
    obtain ⟨hj, hp, hat⟩ := lookI_some s v l j y hl
    have hlen : es.toList.length = l.length := by simpa using congrArg List.length e2
    have hj2 : j < es.size := by have : es.toList.length = es.size := rfl; omega
    have hkey : (es[j]'hj2).key = .string s := by
      have := congrArg (fun q => q[j]?) e2
      simp only [List.getElem?_map, hat, Option.map_some] at this
      rw [Array.getElem?_toList, Array.getElem?_eq_getElem hj2] at this
      simp only [Option.map_some, Option.some.injEq, Prod.mk.injEq] at this
      exact this.1
    obtain ⟨es2, hr, hes⟩ : ∃ es2 : Array MapEntry, (Instr.mapUpdate T (.map (some b)) (.string s) v).run P w = .ok () { w with heap := w.heap.setIfInBounds b (.map es2 k) } ∧ es2.toList.map (·.born) = es.toList.map (·.born) := by
      refine ⟨_, by simp [Instr.mapUpdate, run_underlying hT, MapKept.run_getObj_map e1, hck, run_findKey hK hf, Array.getElem?_eq_getElem hj2, hkey, run_keyThatStays (d := .string) (k := .string s) (by simp [IsKey]), run_setObj_map _ e1, Result.andThen]; rfl, ?_⟩
      apply List.ext_getElem?
      intro i
      rw [List.getElem?_map, List.getElem?_map, Array.getElem?_toList, Array.getElem?_toList, Array.getElem?_modify]
      by_cases hi : j = i
      · subst i
        simp [Array.getElem?_eq_getElem hj2]
      · simp [hi]
    rw [h1] at hr
    simp only [Result.ok.injEq, true_and] at hr
    rw [hr]
    refine ⟨_, _, (heap_set e1).1, by rw [hes]; exact e3, fun x hx => ?_⟩
    have hx2 : x.born ∈ es.toList.map (·.born) := by rw [← hes]; exact List.mem_map_of_mem hx
    obtain ⟨z, hz, hz2⟩ := List.mem_map.1 hx2
    rw [← hz2]
    exact e4 z hz

end Go.Proofs.YtmjholcpajfldaaGreatDoor
