/- Maps whose entries are known: string keys, any elements. No condition. -/
import Derived.MapKept
import Derived.Carry
import Derived.Test.YtmjholcpajfldaaGreatDoorKitH
namespace Go.Proofs.YtmjholcpajfldaaGreatDoor
open Go.RowKit
set_option linter.unusedVariables false
set_option linter.unusedSimpArgs false

open Go.MapKept (run_checkKey run_findKey run_setObj_map IsKey bytes_beq run_keyThatStays heap_set)

/-- the first entry of a key, and its place -/
def lookI {α : Type} (s : ByteArray) : List (ByteArray × α) → Nat → Option (Nat × α)
  | [], _ => none
  | x :: r, i => if s == x.1 then some (i, x.2) else lookI s r (i + 1)
def getM {α : Type} (s : ByteArray) (l : List (ByteArray × α)) : Option α := (lookI s l 0).map (·.2)
def putM {α : Type} (s : ByteArray) (v : α) : List (ByteArray × α) → List (ByteArray × α)
  | [] => [(s, v)]
  | x :: r => if s == x.1 then (s, v) :: r else x :: putM s v r
theorem lookI_shift {α : Type} (s : ByteArray) : ∀ (l : List (ByteArray × α)) (i : Nat), lookI s l i = (lookI s l 0).map fun x => (x.1 + i, x.2)
  | [], i => rfl
  | x :: r, i => by
    simp only [lookI]
    split
    · simp
    · rw [lookI_shift s r (i + 1), lookI_shift s r (0 + 1)]
      cases lookI s r 0 <;> simp <;> omega
theorem getM_cons {α : Type} (s : ByteArray) (x : ByteArray × α) (r : List (ByteArray × α)) : getM s (x :: r) = if s == x.1 then some x.2 else getM s r := by
  unfold getM
  simp only [lookI]
  split
  · rfl
  · rw [lookI_shift s r (0 + 1)]
    cases lookI s r 0 <;> rfl
/-- block b is a map of these entries -/
def Mp (w : World) (b : Nat) (l : List (ByteArray × Value)) : Prop :=
  ∃ (es : Array MapEntry) (clock : Nat), w.heap[b]? = some (.map es clock) ∧ es.toList.map (fun e => (e.key, e.val)) = l.map fun x => (Value.string x.1, x.2)
theorem Mp.new (w : World) : Mp (w.alloc (.map #[] 0)) w.heap.size [] := ⟨#[], 0, heap_alloc_new w _, rfl⟩
theorem Mp.lt {w : World} {b : Nat} {l : List (ByteArray × Value)} (h : Mp w b l) : b < w.heap.size := by
  obtain ⟨es, c, h, _⟩ := h
  exact lt_of_block h
theorem Mp.on {w w' : World} {b : Nat} {l : List (ByteArray × Value)} (h : Mp w b l) {row : Option Nat} (hg : w.grownBy w' row) (hn : some b ≠ row) : Mp w' b l := by
  obtain ⟨es, c, h, h2⟩ := h
  exact ⟨es, c, (hg.block b (lt_of_block h) hn).trans h, h2⟩
theorem findNow_str (s : ByteArray) : ∀ (es : List MapEntry) (l : List (ByteArray × Value)) (i : Nat), es.map (fun e => (e.key, e.val)) = l.map (fun x => (Value.string x.1, x.2)) → Instr.findNow .string (.string s) es i = some (lookI s l i)
  | [], [], i, _ => rfl
  | [], x :: l, i, h => by cases h
  | e :: es, [], i, h => by cases h
  | e :: es, x :: l, i, h => by
    simp only [List.map_cons, List.cons.injEq, Prod.mk.injEq] at h
    obtain ⟨⟨h1, h2⟩, h3⟩ := h
    simp only [Instr.findNow, h1, Instr.sameNow, lookI]
    cases hq : s == x.1
    · simp only [Bool.false_eq_true, if_false]
      exact findNow_str s es l (i + 1) h3
    · simp only [if_true, h2]
theorem lookI_none {α : Type} (s : ByteArray) (v : α) : ∀ (l : List (ByteArray × α)), lookI s l 0 = none → putM s v l = l ++ [(s, v)]
  | [], _ => rfl
  | x :: r, h => by
    simp only [lookI] at h
    cases hq : s == x.1
    · rw [hq, lookI_shift] at h
      simp only [Bool.false_eq_true, if_false, Option.map_eq_none_iff] at h
      simp only [putM, hq, Bool.false_eq_true, if_false, lookI_none s v r h, List.cons_append]
    · rw [hq] at h
      cases h
theorem lookI_some {α : Type} (s : ByteArray) (v : α) : ∀ (l : List (ByteArray × α)) (j : Nat) (y : α), lookI s l 0 = some (j, y) → j < l.length ∧ putM s v l = l.set j (s, v) ∧ l[j]? = some (s, y)
  | [], j, y, h => by cases h
  | x :: r, j, y, h => by
    simp only [lookI] at h
    cases hq : s == x.1
    · rw [hq, lookI_shift] at h
      simp only [Bool.false_eq_true, if_false] at h
      cases hr : lookI s r 0 with
      | none => rw [hr] at h; cases h
      | some a =>
        obtain ⟨a1, a2⟩ := a
        rw [hr] at h
        simp only [Option.map_some, Option.some.injEq, Prod.mk.injEq] at h
        obtain ⟨rfl, rfl⟩ := h
        obtain ⟨h1, h2, h3⟩ := lookI_some s v r a1 a2 hr
        refine ⟨by simp; omega, ?_, by simpa using h3⟩
        simp only [putM, hq, Bool.false_eq_true, if_false, h2, List.set_cons_succ, Nat.zero_add]
    · rw [hq] at h
      simp only [if_true, Option.some.injEq, Prod.mk.injEq] at h
      obtain ⟨rfl, rfl⟩ := h
      have : x.1 = s := ((bytes_beq s x.1).1 hq).symm
      refine ⟨by simp, by simp [putM, hq], ?_⟩
      rw [← this]
      rfl
section
variable {P : Program} {w : World} {b : Nat} {l : List (ByteArray × Value)} {T K E : TypeId}
theorem Mp.lookup (h : Mp w b l) (hT : P.underlying T = some (.map K E)) (hK : P.underlying K = some .string) (s : ByteArray) (z : Value) (hz : (zeroValue E).run P w = .ok z w) (c : Bool) :
    (Instr.lookup T (.map (some b)) (.string s) c).run P w = .ok (if c then .tuple #[(getM s l).getD z, .bool (getM s l).isSome] else (getM s l).getD z) w := by
  obtain ⟨es, k, h1, h2⟩ := h
  have hf := findNow_str s es.toList l 0 h2
  have hck : (Instr.checkKey es.isEmpty 10000 K (.string s)).run P w = .ok () w := run_checkKey hK (k := .string s) (by simp [IsKey]) es.isEmpty 9999
  cases hl : lookI s l 0 with
  | none =>
    rw [hl] at hf
    have hg : getM s l = none := by unfold getM; rw [hl]; rfl
    rw [hg]
    simp [Instr.lookup, run_underlying hT, MapKept.run_getObj_map h1, hck, run_findKey hK hf, hz, Result.andThen]
  | some a =>
    obtain ⟨j, y⟩ := a
    rw [hl] at hf
    have hg : getM s l = some y := by unfold getM; rw [hl]; rfl
    rw [hg]
    simp [Instr.lookup, run_underlying hT, MapKept.run_getObj_map h1, hck, run_findKey hK hf, Result.andThen]
theorem Mp.lookup_nil (hT : P.underlying T = some (.map K E)) (hK : P.underlying K = some .string) (s : ByteArray) (z : Value) (hz : (zeroValue E).run P w = .ok z w) (c : Bool) :
    (Instr.lookup T (.map none) (.string s) c).run P w = .ok (if c then .tuple #[z, .bool false] else z) w := by
  have hck : (Instr.checkKey true 10000 K (.string s)).run P w = .ok () w := run_checkKey hK (k := .string s) (by simp [IsKey]) true 9999
  have hf : Instr.findNow .string (.string s) ([] : List MapEntry) 0 = some none := rfl
  simp [Instr.lookup, run_underlying hT, hck, run_findKey hK hf, hz, Result.andThen]
theorem Mp.update (h : Mp w b l) (hT : P.underlying T = some (.map K E)) (hK : P.underlying K = some .string) (s : ByteArray) (v : Value) :
    ∃ w', (Instr.mapUpdate T (.map (some b)) (.string s) v).run P w = .ok () w' ∧ w.grownBy w' (some b) ∧ w'.heap.size = w.heap.size ∧ Mp w' b (putM s v l) := by
  obtain ⟨es, k, h1, h2⟩ := h
  have hf := findNow_str s es.toList l 0 h2
  have hck : (Instr.checkKey false 10000 K (.string s)).run P w = .ok () w := run_checkKey hK (k := .string s) (by simp [IsKey]) false 9999
  have hgr : ∀ o, w.grownBy { w with heap := w.heap.setIfInBounds b o } (some b) := fun o => ⟨rfl, rfl, rfl, by simp, fun i hi hn => by
    have : b ≠ i := fun q => hn (by rw [q])
    simp [this]⟩
  cases hl : lookI s l 0 with
  | none =>
    rw [hl] at hf
    refine ⟨_, by simp [Instr.mapUpdate, run_underlying hT, MapKept.run_getObj_map h1, hck, run_findKey hK hf, run_setObj_map _ h1, Result.andThen]; rfl, hgr _, by simp, ?_⟩
    refine ⟨_, _, (heap_set h1).1, ?_⟩
    rw [lookI_none s v l hl]
    simp [h2]
  | some a =>
    obtain ⟨j, y⟩ := a
    rw [hl] at hf
    obtain ⟨hj, hp, hat⟩ := lookI_some s v l j y hl
    have hlen : es.toList.length = l.length := by simpa using congrArg List.length h2
    have hj2 : j < es.size := by have : es.toList.length = es.size := rfl; omega
    have hkey : (es[j]'hj2).key = .string s := by
      have := congrArg (fun q => q[j]?) h2
      simp only [List.getElem?_map, hat, Option.map_some] at this
      rw [Array.getElem?_toList, Array.getElem?_eq_getElem hj2] at this
      simp only [Option.map_some, Option.some.injEq, Prod.mk.injEq] at this
      exact this.1
    refine ⟨_, by simp [Instr.mapUpdate, run_underlying hT, MapKept.run_getObj_map h1, hck, run_findKey hK hf, Array.getElem?_eq_getElem hj2, hkey, run_keyThatStays (d := .string) (k := .string s) (by simp [IsKey]), run_setObj_map _ h1, Result.andThen]; rfl, hgr _, by simp, ?_⟩
    refine ⟨_, _, (heap_set h1).1, ?_⟩
    rw [hp]
    simp only [List.map_set, ← h2]
    apply List.ext_getElem?
    intro i
    have ha : (es.modify j fun e => ({ key := Value.string s, val := v, born := e.born } : MapEntry)).toList[i]? = if j = i then (es[i]?).map (fun e => ({ key := Value.string s, val := v, born := e.born } : MapEntry)) else es[i]? := by
      rw [Array.getElem?_toList, Array.getElem?_modify]
    rw [List.getElem?_map, ha, List.getElem?_set]
    by_cases hi : j = i
    · subst i
      simp [hj2, Array.getElem?_eq_getElem hj2]
    · simp [hi, List.getElem?_map, Array.getElem?_toList]
end

end Go.Proofs.YtmjholcpajfldaaGreatDoor
