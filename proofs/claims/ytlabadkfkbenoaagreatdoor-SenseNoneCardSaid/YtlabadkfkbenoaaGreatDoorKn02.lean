/- Walks and plain laws, merged: SenM TreeP TreeA TreeG TreeH. No condition. -/
import Derived.MapKept
import Derived.Carry
import Derived.Test.YtlabadkfkbenoaaGreatDoorKn01
import Derived.OwnWalk
import Derived.Deep.RegionLaw
import Derived.RegionCalls
import Derived.Test.YtlabadkfkbenoaaGreatDoorProg
namespace Go.Proofs.YtlabadkfkbenoaaGreatDoor
open Go.RowKit
set_option linter.unusedVariables false
set_option linter.unusedSimpArgs false
set_option maxRecDepth 100000
section
open Go.MapKept (run_checkKey run_findKey run_setObj_map IsKey bytes_beq run_keyThatStays heap_set)
/-- the first entry of a key, and its place -/
def lookI {α : Type} (s : ByteArray) : List (ByteArray × α) → Nat → Option (Nat × α)
 | [], _ => none
 | x :: r, i => if s == x.1 then some (i, x.2) else lookI s r (i + 1)
def getM {α : Type} (s : ByteArray) (l : List (ByteArray × α)) : Option α := (lookI s l 0).map (·.2)
def putM {α : Type} (s : ByteArray) (v : α) : List (ByteArray × α) → List (ByteArray × α)
 | [] => [(s, v)]
 | x :: r => if s == x.1 then (s, v) :: r else x :: putM s v r
theorem lookI_shift {α : Type} (s : ByteArray) : ∀ (l : List (ByteArray × α)) (i : Nat), lookI s l i = (lookI s l 0).map fun x => (x.1 + i, x.2)
 | [], i => rfl
 | x :: r, i => by
  simp only [lookI]
  split
  ·simp
  ·rw [lookI_shift s r (i + 1), lookI_shift s r (0 + 1)]
   cases lookI s r 0 <;> simp <;> omega
theorem getM_cons {α : Type} (s : ByteArray) (x : ByteArray × α) (r : List (ByteArray × α)) : getM s (x :: r) = if s == x.1 then some x.2 else getM s r := by
 unfold getM
 simp only [lookI]
 split
 ·rfl
 ·rw [lookI_shift s r (0 + 1)]
  cases lookI s r 0 <;> rfl
/-- block b is a map of these entries -/
def Mp (w : World) (b : Nat) (l : List (ByteArray × Value)) : Prop :=
 ∃ (es : Array MapEntry) (clock : Nat), w.heap[b]? = some (.map es clock) ∧ es.toList.map (fun e => (e.key, e.val)) = l.map fun x => (Value.string x.1, x.2)
theorem Mp.new (w : World) : Mp (w.alloc (.map #[] 0)) w.heap.size [] := ⟨#[], 0, heap_alloc_new w _, rfl⟩
theorem Mp.lt {w : World} {b : Nat} {l : List (ByteArray × Value)} (h : Mp w b l) : b < w.heap.size := by
 obtain ⟨es, c, h, _⟩ := h
 exact lt_of_block h
theorem Mp.on {w w' : World} {b : Nat} {l : List (ByteArray × Value)} (h : Mp w b l) {row : Option Nat} (hg : w.grownBy w' row) (hn : some b ≠ row) : Mp w' b l := by
 obtain ⟨es, c, h, h2⟩ := h
 exact ⟨es, c, (hg.block b (lt_of_block h) hn).trans h, h2⟩
theorem findNow_str (s : ByteArray) : ∀ (es : List MapEntry) (l : List (ByteArray × Value)) (i : Nat), es.map (fun e => (e.key, e.val)) = l.map (fun x => (Value.string x.1, x.2)) → Instr.findNow .string (.string s) es i = some (lookI s l i)
 | [], [], i, _ => rfl
 | [], x :: l, i, h => by cases h
 | e :: es, [], i, h => by cases h
 | e :: es, x :: l, i, h => by
  simp only [List.map_cons, List.cons.injEq, Prod.mk.injEq] at h
  obtain ⟨⟨h1, h2⟩, h3⟩ := h
  simp only [Instr.findNow, h1, Instr.sameNow, lookI]
  cases hq : s == x.1
  ·simp only [Bool.false_eq_true, if_false]
   exact findNow_str s es l (i + 1) h3
  ·simp only [if_true, h2]
theorem lookI_none {α : Type} (s : ByteArray) (v : α) : ∀ (l : List (ByteArray × α)), lookI s l 0 = none → putM s v l = l ++ [(s, v)]
 | [], _ => rfl
 | x :: r, h => by
  simp only [lookI] at h
  cases hq : s == x.1
  ·rw [hq, lookI_shift] at h
   simp only [Bool.false_eq_true, if_false, Option.map_eq_none_iff] at h
   simp only [putM, hq, Bool.false_eq_true, if_false, lookI_none s v r h, List.cons_append]
  ·rw [hq] at h
   cases h
theorem lookI_some {α : Type} (s : ByteArray) (v : α) : ∀ (l : List (ByteArray × α)) (j : Nat) (y : α), lookI s l 0 = some (j, y) → j < l.length ∧ putM s v l = l.set j (s, v) ∧ l[j]? = some (s, y)
 | [], j, y, h => by cases h
 | x :: r, j, y, h => by
  simp only [lookI] at h
  cases hq : s == x.1
  ·rw [hq, lookI_shift] at h
   simp only [Bool.false_eq_true, if_false] at h
   cases hr : lookI s r 0 with
   | none => rw [hr] at h; cases h
   | some a =>
    obtain ⟨a1, a2⟩ := a
    rw [hr] at h
    simp only [Option.map_some, Option.some.injEq, Prod.mk.injEq] at h
    obtain ⟨rfl, rfl⟩ := h
    obtain ⟨h1, h2, h3⟩ := lookI_some s v r a1 a2 hr
    refine ⟨by simp; omega, ?_, by simpa using h3⟩
    simp only [putM, hq, Bool.false_eq_true, if_false, h2, List.set_cons_succ, Nat.zero_add]
  ·rw [hq] at h
   simp only [if_true, Option.some.injEq, Prod.mk.injEq] at h
   obtain ⟨rfl, rfl⟩ := h
   have : x.1 = s := ((bytes_beq s x.1).1 hq).symm
   refine ⟨by simp, by simp [putM, hq], ?_⟩
   rw [← this]
   rfl
section
variable {P : Program} {w : World} {b : Nat} {l : List (ByteArray × Value)} {T K E : TypeId}
theorem Mp.lookup (h : Mp w b l) (hT : P.underlying T = some (.map K E)) (hK : P.underlying K = some .string) (s : ByteArray) (z : Value) (hz : (zeroValue E).run P w = .ok z w) (c : Bool) :
  (Instr.lookup T (.map (some b)) (.string s) c).run P w = .ok (if c then .tuple #[(getM s l).getD z, .bool (getM s l).isSome] else (getM s l).getD z) w := by
 obtain ⟨es, k, h1, h2⟩ := h
 have hf := findNow_str s es.toList l 0 h2
 have hck : (Instr.checkKey es.isEmpty 10000 K (.string s)).run P w = .ok () w := run_checkKey hK (k := .string s) (by simp [IsKey]) es.isEmpty 9999
 cases hl : lookI s l 0 with
 | none =>
  rw [hl] at hf
  have hg : getM s l = none := by unfold getM; rw [hl]; rfl
  rw [hg]
  simp [Instr.lookup, run_underlying hT, MapKept.run_getObj_map h1, hck, run_findKey hK hf, hz, Result.andThen]
 | some a =>
  obtain ⟨j, y⟩ := a
  rw [hl] at hf
  have hg : getM s l = some y := by unfold getM; rw [hl]; rfl
  rw [hg]
  simp [Instr.lookup, run_underlying hT, MapKept.run_getObj_map h1, hck, run_findKey hK hf, Result.andThen]
theorem Mp.update (h : Mp w b l) (hT : P.underlying T = some (.map K E)) (hK : P.underlying K = some .string) (s : ByteArray) (v : Value) :
  ∃ w', (Instr.mapUpdate T (.map (some b)) (.string s) v).run P w = .ok () w' ∧ w.grownBy w' (some b) ∧ w'.heap.size = w.heap.size ∧ Mp w' b (putM s v l) := by
 obtain ⟨es, k, h1, h2⟩ := h
 have hf := findNow_str s es.toList l 0 h2
 have hck : (Instr.checkKey false 10000 K (.string s)).run P w = .ok () w := run_checkKey hK (k := .string s) (by simp [IsKey]) false 9999
 have hgr : ∀ o, w.grownBy { w with heap := w.heap.setIfInBounds b o } (some b) := fun o => ⟨rfl, rfl, rfl, by simp, fun i hi hn => by
  have : b ≠ i := fun q => hn (by rw [q])
  simp [this]⟩
 cases hl : lookI s l 0 with
 | none =>
  rw [hl] at hf
  refine ⟨_, by simp [Instr.mapUpdate, run_underlying hT, MapKept.run_getObj_map h1, hck, run_findKey hK hf, run_setObj_map _ h1, Result.andThen]; rfl, hgr _, by simp, ?_⟩
  refine ⟨_, _, (heap_set h1).1, ?_⟩
  rw [lookI_none s v l hl]
  simp [h2]
 | some a =>
  obtain ⟨j, y⟩ := a
  rw [hl] at hf
  obtain ⟨hj, hp, hat⟩ := lookI_some s v l j y hl
  have hlen : es.toList.length = l.length := by simpa using congrArg List.length h2
  have hj2 : j < es.size := by have : es.toList.length = es.size := rfl; omega
  have hkey : (es[j]'hj2).key = .string s := by
   have := congrArg (fun q => q[j]?) h2
   simp only [List.getElem?_map, hat, Option.map_some] at this
   rw [Array.getElem?_toList, Array.getElem?_eq_getElem hj2] at this
   simp only [Option.map_some, Option.some.injEq, Prod.mk.injEq] at this
   exact this.1
  refine ⟨_, by simp [Instr.mapUpdate, run_underlying hT, MapKept.run_getObj_map h1, hck, run_findKey hK hf, Array.getElem?_eq_getElem hj2, hkey, run_keyThatStays (d := .string) (k := .string s) (by simp [IsKey]), run_setObj_map _ h1, Result.andThen]; rfl, hgr _, by simp, ?_⟩
  refine ⟨_, _, (heap_set h1).1, ?_⟩
  rw [hp]
  simp only [List.map_set, ← h2]
  apply List.ext_getElem?
  intro i
  have ha : (es.modify j fun e => ({ key := Value.string s, val := v, born := e.born } : MapEntry)).toList[i]? = if j = i then (es[i]?).map (fun e => ({ key := Value.string s, val := v, born := e.born } : MapEntry)) else es[i]? := by
   rw [Array.getElem?_toList, Array.getElem?_modify]
  rw [List.getElem?_map, ha, List.getElem?_set]
  by_cases hi : j = i
  ·subst i
   simp [hj2, Array.getElem?_eq_getElem hj2]
  ·simp [hi, List.getElem?_map, Array.getElem?_toList]
end
end
section
/-- an expression but for its kids -/
structure EH where
 at_ : Int
 kind : Int
 word : Int
 type : Int
 name : ByteArray
 sign : ByteArray
/-- a list of expressions: the first one, its kids, the others -/
inductive Exs where
 | nil : Exs
 | cons (h : EH) (kids rest : Exs) : Exs
/-- a statement but for its lists -/
structure SH where
 at_ : Int
 kind : Int
 name : ByteArray
 type : Int
 sign : ByteArray
inductive Sts where
 | nil : Sts
 | cons (h : SH) (exprs : Exs) (body els rest : Sts) : Sts
def Exs.len : Exs → Nat
 | .nil => 0
 | .cons _ _ r => r.len + 1
def Sts.len : Sts → Nat
 | .nil => 0
 | .cons _ _ _ _ r => r.len + 1
def Exs.sz : Exs → Nat
 | .nil => 0
 | .cons _ k r => k.sz + r.sz + 1
def Sts.sz : Sts → Nat
 | .nil => 0
 | .cons _ x b e r => x.sz + b.sz + e.sz + r.sz + 1
theorem Exs.len_le : ∀ l : Exs, l.len ≤ l.sz
 | .nil => Nat.le_refl _
 | .cons _ k r => by have := Exs.len_le r; simp only [Exs.len, Exs.sz]; omega
theorem Sts.len_le : ∀ l : Sts, l.len ≤ l.sz
 | .nil => Nat.le_refl _
 | .cons _ x b e r => by have := Sts.len_le r; simp only [Sts.len, Sts.sz]; omega
/-- where a list lies: anywhere, or at the head of a block of its own type, not frozen, that Z holds, a mark behind it -/
def markV (t : TypeId) : Value := if t = 46 then .string ⟨#[109, 97, 114, 107]⟩ else .int .i64 (-7)
def Zone (w : World) (o : Option (Nat → Prop)) (t : TypeId) (b off n len cap : Nat) : Prop :=
 ∀ Z, o = some Z → Z b ∧ off = 0 ∧ (∃ cs : Array Value, w.heap[b]? = some (.cells cs t (0, 0))) ∧ len < cap ∧ w.cell? ⟨b, len * n, none⟩ = some (markV t)
theorem Zone.mono {w w' : World} {o : Option (Nat → Prop)} {t : TypeId} {b off n len cap : Nat} (h : Zone w o t b off n len cap) (hb : Below w.heap.size w w') : Zone w' o t b off n len cap := fun B hB => by
 obtain ⟨h1, h2, ⟨cs, h3⟩, h4, h5⟩ := h B hB
 have hlt : b < w.heap.size := by
  rcases Nat.lt_or_ge b w.heap.size with q | q
  ·exact q
  ·rw [Array.getElem?_eq_none q] at h3; cases h3
 exact ⟨h1, h2, ⟨cs, (hb.block b hlt).trans h3⟩, h4, (hb.cell hlt).trans h5⟩
/-- a head lies here; p: its place too -/
structure HeadE (w : World) (p : Bool) (h : EH) (b q : Nat) : Prop where
 c0 : ∃ t, w.cell? ⟨b, q, none⟩ = some (.int .i64 t) ∧ (p = true → t = h.at_)
 c1 : w.cell? ⟨b, q + 1, none⟩ = some (.int .u8 h.kind)
 c2 : w.cell? ⟨b, q + 2, none⟩ = some (.int .u32 h.word)
 c3 : w.cell? ⟨b, q + 3, none⟩ = some (.int .u8 h.type)
 c4 : w.cell? ⟨b, q + 4, none⟩ = some (.string h.name)
 c5 : w.cell? ⟨b, q + 5, none⟩ = some (.string h.sign)
theorem cell_on {w w' : World} {a : Addr} {v : Value} (h : w.cell? a = some v) (hb : Below w.heap.size w w') : w'.cell? a = some v := (hb.cell (World.block_lt_of_cell? w _ h)).trans h
theorem HeadE.mono {w w' : World} {p : Bool} {h : EH} {b q : Nat} (x : HeadE w p h b q) (hb : Below w.heap.size w w') : HeadE w' p h b q := by
 obtain ⟨⟨t, y0, y0'⟩, y1, y2, y3, y4, y5⟩ := x
 exact ⟨⟨t, cell_on y0 hb, y0'⟩, cell_on y1 hb, cell_on y2 hb, cell_on y3 hb, cell_on y4 hb, cell_on y5 hb⟩
structure HeadS (w : World) (p : Bool) (h : SH) (b q : Nat) : Prop where
 c0 : ∃ t, w.cell? ⟨b, q, none⟩ = some (.int .i64 t) ∧ (p = true → t = h.at_)
 c1 : w.cell? ⟨b, q + 1, none⟩ = some (.int .u8 h.kind)
 c2 : w.cell? ⟨b, q + 2, none⟩ = some (.string h.name)
 c3 : w.cell? ⟨b, q + 3, none⟩ = some (.int .u8 h.type)
 c4 : w.cell? ⟨b, q + 4, none⟩ = some (.string h.sign)
theorem HeadS.mono {w w' : World} {p : Bool} {h : SH} {b q : Nat} (x : HeadS w p h b q) (hb : Below w.heap.size w w') : HeadS w' p h b q := by
 obtain ⟨⟨t, y0, y0'⟩, y1, y2, y3, y4⟩ := x
 exact ⟨⟨t, cell_on y0 hb, y0'⟩, cell_on y1 hb, cell_on y2 hb, cell_on y3 hb, cell_on y4 hb⟩
/-- a list of expressions, the first one at place k of the row -/
def ExsIn (w : World) (p : Bool) (o : Option (Nat → Prop)) : Exs → Nat → Nat → Nat → Prop
 | .nil, _, _, _ => True
 | .cons h kids rest, b, off, k =>
  HeadE w p h b (off + k * 7) ∧
  (∃ ka kb koff kcap, w.cell? ⟨b, off + k * 7 + 6, none⟩ = some (.slice ka kids.len kcap) ∧ ((kids.len = 0 ∧ o = none) ∨ (ka = some ⟨kb, koff, none⟩ ∧ Zone w o 134 kb koff 7 kids.len kcap)) ∧ ExsIn w p o kids kb koff 0) ∧
  ExsIn w p o rest b off (k + 1)
/-- a slice of expressions -/
def SlE (w : World) (p : Bool) (o : Option (Nat → Prop)) (l : Exs) (v : Value) : Prop :=
 ∃ ka kb koff kcap, v = .slice ka l.len kcap ∧ ((l.len = 0 ∧ o = none) ∨ (ka = some ⟨kb, koff, none⟩ ∧ Zone w o 134 kb koff 7 l.len kcap)) ∧ ExsIn w p o l kb koff 0
theorem ExsIn.cons {w : World} {p : Bool} {o : Option (Nat → Prop)} {h : EH} {kids rest : Exs} {b off k : Nat} (x : ExsIn w p o (.cons h kids rest) b off k) :
  HeadE w p h b (off + k * 7) ∧ (∃ v, w.cell? ⟨b, off + k * 7 + 6, none⟩ = some v ∧ SlE w p o kids v) ∧ ExsIn w p o rest b off (k + 1) := by
 obtain ⟨x1, ⟨ka, kb, koff, kcap, y1, y2, y3⟩, x3⟩ := x
 exact ⟨x1, ⟨_, y1, ka, kb, koff, kcap, rfl, y2, y3⟩, x3⟩
theorem ExsIn.mk {w : World} {p : Bool} {o : Option (Nat → Prop)} {h : EH} {kids rest : Exs} {b off k : Nat} {v : Value} (h1 : HeadE w p h b (off + k * 7)) (h2 : w.cell? ⟨b, off + k * 7 + 6, none⟩ = some v) (h3 : SlE w p o kids v) (h4 : ExsIn w p o rest b off (k + 1)) :
  ExsIn w p o (.cons h kids rest) b off k := by
 obtain ⟨ka, kb, koff, kcap, rfl, y2, y3⟩ := h3
 exact ⟨h1, ⟨ka, kb, koff, kcap, h2, y2, y3⟩, h4⟩
theorem ExsIn.mono {w w' : World} {p : Bool} {o : Option (Nat → Prop)} (hb : Below w.heap.size w w') : ∀ {l : Exs} {b off k : Nat}, ExsIn w p o l b off k → ExsIn w' p o l b off k
 | .nil, _, _, _, _ => trivial
 | .cons h kids rest, b, off, k, ⟨x1, ⟨ka, kb, koff, kcap, y1, y2, y3⟩, x3⟩ =>
  ⟨x1.mono hb, ⟨ka, kb, koff, kcap, cell_on y1 hb, y2.imp id (fun z => ⟨z.1, z.2.mono hb⟩), ExsIn.mono hb y3⟩, ExsIn.mono hb x3⟩
theorem SlE.mono {w w' : World} {p : Bool} {o : Option (Nat → Prop)} {l : Exs} {v : Value} (h : SlE w p o l v) (hb : Below w.heap.size w w') : SlE w' p o l v := by
 obtain ⟨ka, kb, koff, kcap, rfl, y2, y3⟩ := h
 exact ⟨ka, kb, koff, kcap, rfl, y2.imp id (fun z => ⟨z.1, z.2.mono hb⟩), y3.mono hb⟩
theorem HeadE.any {w : World} {p : Bool} {h : EH} {b q : Nat} (x : HeadE w p h b q) : HeadE w false h b q := by
 obtain ⟨⟨t, y0, y0'⟩, y1, y2, y3, y4, y5⟩ := x
 exact ⟨⟨t, y0, fun e => by cases e⟩, y1, y2, y3, y4, y5⟩
theorem Zone.any {w : World} {t : TypeId} {b off n len cap : Nat} : Zone w none t b off n len cap := fun _ h => by cases h
/-- the places forgotten -/
theorem ExsIn.any {w : World} {p : Bool} {o : Option (Nat → Prop)} : ∀ {l : Exs} {b off k : Nat}, ExsIn w p o l b off k → ExsIn w false o l b off k
 | .nil, _, _, _, _ => trivial
 | .cons h kids rest, b, off, k, ⟨x1, ⟨ka, kb, koff, kcap, y1, y2, y3⟩, x3⟩ => ⟨x1.any, ⟨ka, kb, koff, kcap, y1, y2, y3.any⟩, x3.any⟩
/-- the zone forgotten -/
theorem ExsIn.free {w : World} {p : Bool} {o : Option (Nat → Prop)} : ∀ {l : Exs} {b off k : Nat}, ExsIn w p o l b off k → ExsIn w p none l b off k
 | .nil, _, _, _, _ => trivial
 | .cons h kids rest, b, off, k, ⟨x1, ⟨ka, kb, koff, kcap, y1, y2, y3⟩, x3⟩ => ⟨x1, ⟨ka, kb, koff, kcap, y1, y2.imp (fun z => ⟨z.1, rfl⟩) (fun z => ⟨z.1, Zone.any⟩), y3.free⟩, x3.free⟩
theorem SlE.any {w : World} {p : Bool} {o : Option (Nat → Prop)} {l : Exs} {v : Value} (h : SlE w p o l v) : SlE w false o l v := by
 obtain ⟨ka, kb, koff, kcap, rfl, y2, y3⟩ := h
 exact ⟨ka, kb, koff, kcap, rfl, y2, y3.any⟩
theorem SlE.free {w : World} {p : Bool} {o : Option (Nat → Prop)} {l : Exs} {v : Value} (h : SlE w p o l v) : SlE w p none l v := by
 obtain ⟨ka, kb, koff, kcap, rfl, y2, y3⟩ := h
 exact ⟨ka, kb, koff, kcap, rfl, y2.imp (fun z => ⟨z.1, rfl⟩) (fun z => ⟨z.1, Zone.any⟩), y3.free⟩
/-- a list of statements -/
def StsIn (w : World) (p : Bool) (o : Option (Nat → Prop)) : Sts → Nat → Nat → Nat → Prop
 | .nil, _, _, _ => True
 | .cons h x body els rest, b, off, k =>
  HeadS w p h b (off + k * 8) ∧
  (∃ v, w.cell? ⟨b, off + k * 8 + 5, none⟩ = some v ∧ SlE w p o x v) ∧
  (∃ ka kb koff kcap, w.cell? ⟨b, off + k * 8 + 6, none⟩ = some (.slice ka body.len kcap) ∧ ((body.len = 0 ∧ o = none) ∨ (ka = some ⟨kb, koff, none⟩ ∧ Zone w o 109 kb koff 8 body.len kcap)) ∧ StsIn w p o body kb koff 0) ∧
  (∃ ka kb koff kcap, w.cell? ⟨b, off + k * 8 + 7, none⟩ = some (.slice ka els.len kcap) ∧ ((els.len = 0 ∧ o = none) ∨ (ka = some ⟨kb, koff, none⟩ ∧ Zone w o 109 kb koff 8 els.len kcap)) ∧ StsIn w p o els kb koff 0) ∧
  StsIn w p o rest b off (k + 1)
def SlS (w : World) (p : Bool) (o : Option (Nat → Prop)) (l : Sts) (v : Value) : Prop :=
 ∃ ka kb koff kcap, v = .slice ka l.len kcap ∧ ((l.len = 0 ∧ o = none) ∨ (ka = some ⟨kb, koff, none⟩ ∧ Zone w o 109 kb koff 8 l.len kcap)) ∧ StsIn w p o l kb koff 0
theorem StsIn.cons {w : World} {p : Bool} {o : Option (Nat → Prop)} {h : SH} {x : Exs} {body els rest : Sts} {b off k : Nat} (y : StsIn w p o (.cons h x body els rest) b off k) :
  HeadS w p h b (off + k * 8) ∧ (∃ v, w.cell? ⟨b, off + k * 8 + 5, none⟩ = some v ∧ SlE w p o x v) ∧ (∃ v, w.cell? ⟨b, off + k * 8 + 6, none⟩ = some v ∧ SlS w p o body v) ∧ (∃ v, w.cell? ⟨b, off + k * 8 + 7, none⟩ = some v ∧ SlS w p o els v) ∧ StsIn w p o rest b off (k + 1) := by
 obtain ⟨x1, x2, ⟨ka, kb, koff, kcap, y1, y2, y3⟩, ⟨ja, jb, joff, jcap, z1, z2, z3⟩, x4⟩ := y
 exact ⟨x1, x2, ⟨_, y1, ka, kb, koff, kcap, rfl, y2, y3⟩, ⟨_, z1, ja, jb, joff, jcap, rfl, z2, z3⟩, x4⟩
theorem StsIn.mk {w : World} {p : Bool} {o : Option (Nat → Prop)} {h : SH} {x : Exs} {body els rest : Sts} {b off k : Nat} {v5 v6 v7 : Value} (h1 : HeadS w p h b (off + k * 8)) (h2 : w.cell? ⟨b, off + k * 8 + 5, none⟩ = some v5) (h3 : SlE w p o x v5)
  (h4 : w.cell? ⟨b, off + k * 8 + 6, none⟩ = some v6) (h5 : SlS w p o body v6) (h6 : w.cell? ⟨b, off + k * 8 + 7, none⟩ = some v7) (h7 : SlS w p o els v7) (h8 : StsIn w p o rest b off (k + 1)) :
  StsIn w p o (.cons h x body els rest) b off k := by
 obtain ⟨ka, kb, koff, kcap, rfl, y2, y3⟩ := h5
 obtain ⟨ja, jb, joff, jcap, rfl, z2, z3⟩ := h7
 exact ⟨h1, ⟨v5, h2, h3⟩, ⟨ka, kb, koff, kcap, h4, y2, y3⟩, ⟨ja, jb, joff, jcap, h6, z2, z3⟩, h8⟩
theorem StsIn.mono {w w' : World} {p : Bool} {o : Option (Nat → Prop)} (hb : Below w.heap.size w w') : ∀ {l : Sts} {b off k : Nat}, StsIn w p o l b off k → StsIn w' p o l b off k
 | .nil, _, _, _, _ => trivial
 | .cons h x body els rest, b, off, k, ⟨x1, ⟨v, x2, x3⟩, ⟨ka, kb, koff, kcap, y1, y2, y3⟩, ⟨ja, jb, joff, jcap, z1, z2, z3⟩, x4⟩ =>
  ⟨x1.mono hb, ⟨v, cell_on x2 hb, x3.mono hb⟩, ⟨ka, kb, koff, kcap, cell_on y1 hb, y2.imp id (fun z => ⟨z.1, z.2.mono hb⟩), StsIn.mono hb y3⟩, ⟨ja, jb, joff, jcap, cell_on z1 hb, z2.imp id (fun z => ⟨z.1, z.2.mono hb⟩), StsIn.mono hb z3⟩, StsIn.mono hb x4⟩
theorem SlS.mono {w w' : World} {p : Bool} {o : Option (Nat → Prop)} {l : Sts} {v : Value} (h : SlS w p o l v) (hb : Below w.heap.size w w') : SlS w' p o l v := by
 obtain ⟨ka, kb, koff, kcap, rfl, y2, y3⟩ := h
 exact ⟨ka, kb, koff, kcap, rfl, y2.imp id (fun z => ⟨z.1, z.2.mono hb⟩), y3.mono hb⟩
theorem HeadS.any {w : World} {p : Bool} {h : SH} {b q : Nat} (x : HeadS w p h b q) : HeadS w false h b q := by
 obtain ⟨⟨t, y0, y0'⟩, y1, y2, y3, y4⟩ := x
 exact ⟨⟨t, y0, fun e => by cases e⟩, y1, y2, y3, y4⟩
theorem StsIn.any {w : World} {p : Bool} {o : Option (Nat → Prop)} : ∀ {l : Sts} {b off k : Nat}, StsIn w p o l b off k → StsIn w false o l b off k
 | .nil, _, _, _, _ => trivial
 | .cons h x body els rest, b, off, k, ⟨x1, ⟨v, x2, x3⟩, ⟨ka, kb, koff, kcap, y1, y2, y3⟩, ⟨ja, jb, joff, jcap, z1, z2, z3⟩, x4⟩ =>
  ⟨x1.any, ⟨v, x2, x3.any⟩, ⟨ka, kb, koff, kcap, y1, y2, y3.any⟩, ⟨ja, jb, joff, jcap, z1, z2, z3.any⟩, x4.any⟩
theorem StsIn.free {w : World} {p : Bool} {o : Option (Nat → Prop)} : ∀ {l : Sts} {b off k : Nat}, StsIn w p o l b off k → StsIn w p none l b off k
 | .nil, _, _, _, _ => trivial
 | .cons h x body els rest, b, off, k, ⟨x1, ⟨v, x2, x3⟩, ⟨ka, kb, koff, kcap, y1, y2, y3⟩, ⟨ja, jb, joff, jcap, z1, z2, z3⟩, x4⟩ =>
  ⟨x1, ⟨v, x2, x3.free⟩, ⟨ka, kb, koff, kcap, y1, y2.imp (fun z => ⟨z.1, rfl⟩) (fun z => ⟨z.1, Zone.any⟩), y3.free⟩, ⟨ja, jb, joff, jcap, z1, z2.imp (fun z => ⟨z.1, rfl⟩) (fun z => ⟨z.1, Zone.any⟩), z3.free⟩, x4.free⟩
theorem SlS.any {w : World} {p : Bool} {o : Option (Nat → Prop)} {l : Sts} {v : Value} (h : SlS w p o l v) : SlS w false o l v := by
 obtain ⟨ka, kb, koff, kcap, rfl, y2, y3⟩ := h
 exact ⟨ka, kb, koff, kcap, rfl, y2, y3.any⟩
theorem SlS.free {w : World} {p : Bool} {o : Option (Nat → Prop)} {l : Sts} {v : Value} (h : SlS w p o l v) : SlS w p none l v := by
 obtain ⟨ka, kb, koff, kcap, rfl, y2, y3⟩ := h
 exact ⟨ka, kb, koff, kcap, rfl, y2.imp (fun z => ⟨z.1, rfl⟩) (fun z => ⟨z.1, Zone.any⟩), y3.free⟩
/-! ### the same -/
end
section
abbrev aggE (t : Int) (h : EH) (v : Value) : Value := .agg #[.int .i64 t, .int .u8 h.kind, .int .u32 h.word, .int .u8 h.type, .string h.name, .string h.sign, v]
theorem below2 (w : World) (o o' : Obj) : Below w.heap.size w ((w.alloc o).alloc o') := ((Below.refl _ _).alloc (Nat.le_refl _) o).alloc (by simp) o'
theorem SlS.shape {w : World} {p : Bool} {o : Option (Nat → Prop)} {l : Sts} {v : Value} (h : SlS w p o l v) : ∃ a n c, v = .slice a n c := by
 obtain ⟨ka, kb, koff, kcap, rfl, -⟩ := h
 exact ⟨_, _, _, rfl⟩
theorem box_on {wr w2 : World} {c1 c2 : Array Value} {t1 t2 : TypeId} (h : Below ((wr.alloc (.cells c1 t1)).alloc (.cells c2 t2)).heap.size ((wr.alloc (.cells c1 t1)).alloc (.cells c2 t2)) w2) :
  (∀ i, w2.cell? ⟨wr.heap.size, i, none⟩ = c1[i]?) ∧ (∀ i, w2.cell? ⟨wr.heap.size + 1, i, none⟩ = c2[i]?) := by
 refine ⟨fun i => ?_, fun i => ?_⟩
 ·rw [h.cell (by simp; omega), World.cell?_alloc_past _ _ _ (by simp), World.cell?_alloc_at _ _ _ _ rfl]
 ·rw [h.cell (by simp), World.cell?_alloc_at _ _ _ _ (by simp)]
end
section
abbrev PW := ByteArray × Int
/-- parameters that lie at a place -/
def PsIn (w : World) (l : List PW) (b off : Nat) : Prop := ∀ i (h : i < l.length), w.cell? ⟨b, off + i * 2, none⟩ = some (.string l[i].1) ∧ w.cell? ⟨b, off + i * 2 + 1, none⟩ = some (.int .u8 l[i].2)
def SlP (w : World) (l : List PW) (v : Value) : Prop := ∃ ka kb koff kcap, v = .slice ka l.length kcap ∧ (l.length = 0 ∨ ka = some ⟨kb, koff, none⟩) ∧ PsIn w l kb koff
theorem PsIn.mono {w w' : World} {l : List PW} {b off : Nat} (h : PsIn w l b off) (hb : Below w.heap.size w w') : PsIn w' l b off := fun i hi => ⟨cell_on (h i hi).1 hb, cell_on (h i hi).2 hb⟩
theorem SlP.mono {w w' : World} {l : List PW} {v : Value} (h : SlP w l v) (hb : Below w.heap.size w w') : SlP w' l v := by
 obtain ⟨ka, kb, koff, kcap, rfl, y2, y3⟩ := h
 exact ⟨ka, kb, koff, kcap, rfl, y2, y3.mono hb⟩
theorem SlP.shape {w : World} {l : List PW} {v : Value} (h : SlP w l v) : ∃ a n c, v = .slice a n c := by
 obtain ⟨ka, kb, koff, kcap, rfl, -⟩ := h
 exact ⟨_, _, _, rfl⟩
end
section
/-- a slice of records: type t, n cells each; each one as R says -/
def SlR {α : Type} (w : World) (o : Option (Nat → Prop)) (t : TypeId) (n : Nat) (R : α → Nat → Nat → Prop) (l : List α) (v : Value) : Prop :=
 ∃ ka kb koff kcap, v = .slice ka l.length kcap ∧ ((l.length = 0 ∧ o = none) ∨ (ka = some ⟨kb, koff, none⟩ ∧ Zone w o t kb koff n l.length kcap)) ∧ ∀ i (h : i < l.length), R l[i] kb (koff + i * n)
theorem SlR.mono {α : Type} {w w' : World} {o : Option (Nat → Prop)} {t : TypeId} {n : Nat} {R R' : α → Nat → Nat → Prop} {l : List α} {v : Value} (h : SlR w o t n R l v) (hb : Below w.heap.size w w') (hR : ∀ a b q, R a b q → R' a b q) : SlR w' o t n R' l v := by
 obtain ⟨ka, kb, koff, kcap, rfl, y2, y3⟩ := h
 exact ⟨ka, kb, koff, kcap, rfl, y2.imp id (fun z => ⟨z.1, z.2.mono hb⟩), fun i hi => hR _ _ _ (y3 i hi)⟩
theorem SlR.free {α : Type} {w : World} {o : Option (Nat → Prop)} {t : TypeId} {n : Nat} {R R' : α → Nat → Nat → Prop} {l : List α} {v : Value} (h : SlR w o t n R l v) (hR : ∀ a b q, R a b q → R' a b q) : SlR w none t n R' l v := by
 obtain ⟨ka, kb, koff, kcap, rfl, y2, y3⟩ := h
 exact ⟨ka, kb, koff, kcap, rfl, y2.imp (fun z => ⟨z.1, rfl⟩) (fun z => ⟨z.1, Zone.any⟩), fun i hi => hR _ _ _ (y3 i hi)⟩
theorem SlR.same {α : Type} {w : World} {o : Option (Nat → Prop)} {t : TypeId} {n : Nat} {R R' : α → Nat → Nat → Prop} {l : List α} {v : Value} (h : SlR w o t n R l v) (hR : ∀ a b q, R a b q → R' a b q) : SlR w o t n R' l v := by
 obtain ⟨ka, kb, koff, kcap, rfl, y2, y3⟩ := h
 exact ⟨ka, kb, koff, kcap, rfl, y2, fun i hi => hR _ _ _ (y3 i hi)⟩
theorem SlR.shape {α : Type} {w : World} {o : Option (Nat → Prop)} {t : TypeId} {n : Nat} {R : α → Nat → Nat → Prop} {l : List α} {v : Value} (h : SlR w o t n R l v) : ∃ a c, v = .slice a l.length c := by
 obtain ⟨ka, kb, koff, kcap, rfl, -⟩ := h
 exact ⟨_, _, rfl⟩
/-- a parameter -/
structure ParR (w : World) (a : PW) (b q : Nat) : Prop where
 c0 : w.cell? ⟨b, q, none⟩ = some (.string a.1)
 c1 : w.cell? ⟨b, q + 1, none⟩ = some (.int .u8 a.2)
theorem ParR.mono {w w' : World} {a : PW} {b q : Nat} (h : ParR w a b q) (hb : Below w.heap.size w w') : ParR w' a b q := ⟨cell_on h.c0 hb, cell_on h.c1 hb⟩
abbrev SlPz (w : World) (o : Option (Nat → Prop)) (l : List PW) (v : Value) : Prop := SlR w o 46 2 (ParR w) l v
theorem SlPz.plain {w : World} {o : Option (Nat → Prop)} {l : List PW} {v : Value} (h : SlPz w o l v) : SlP w l v := by
 obtain ⟨ka, kb, koff, kcap, rfl, y2, y3⟩ := h
 exact ⟨ka, kb, koff, kcap, rfl, y2.imp And.left (fun z => z.1), fun i hi => ⟨(y3 i hi).c0, (y3 i hi).c1⟩⟩
/-- a global -/
structure GH where
 at_ : Int
 name : ByteArray
 type : Int
 len : Int
 word : Int
structure GloR (w : World) (p : Bool) (a : GH) (b q : Nat) : Prop where
 c0 : ∃ t, w.cell? ⟨b, q, none⟩ = some (.int .i64 t) ∧ (p = true → t = a.at_)
 c1 : w.cell? ⟨b, q + 1, none⟩ = some (.string a.name)
 c2 : w.cell? ⟨b, q + 2, none⟩ = some (.int .u8 a.type)
 c3 : w.cell? ⟨b, q + 3, none⟩ = some (.int .u32 a.len)
 c4 : w.cell? ⟨b, q + 4, none⟩ = some (.int .u32 a.word)
theorem GloR.mono {w w' : World} {p : Bool} {a : GH} {b q : Nat} (h : GloR w p a b q) (hb : Below w.heap.size w w') : GloR w' p a b q := by
 obtain ⟨⟨t, y0, y0'⟩, y1, y2, y3, y4⟩ := h
 exact ⟨⟨t, cell_on y0 hb, y0'⟩, cell_on y1 hb, cell_on y2 hb, cell_on y3 hb, cell_on y4 hb⟩
theorem GloR.any {w : World} {p : Bool} {a : GH} {b q : Nat} (h : GloR w p a b q) : GloR w false a b q := by
 obtain ⟨⟨t, y0, y0'⟩, y1, y2, y3, y4⟩ := h
 exact ⟨⟨t, y0, fun e => by cases e⟩, y1, y2, y3, y4⟩
/-- a host's function -/
structure HH where
 at_ : Int
 name : ByteArray
 params : List PW
 type : Int
 number : Int
structure HosR (w : World) (p : Bool) (o : Option (Nat → Prop)) (a : HH) (b q : Nat) : Prop where
 c0 : ∃ t, w.cell? ⟨b, q, none⟩ = some (.int .i64 t) ∧ (p = true → t = a.at_)
 c1 : w.cell? ⟨b, q + 1, none⟩ = some (.string a.name)
 c2 : ∃ v, w.cell? ⟨b, q + 2, none⟩ = some v ∧ SlPz w o a.params v
 c3 : w.cell? ⟨b, q + 3, none⟩ = some (.int .u8 a.type)
 c4 : w.cell? ⟨b, q + 4, none⟩ = some (.int .u32 a.number)
theorem HosR.mono {w w' : World} {p : Bool} {o : Option (Nat → Prop)} {a : HH} {b q : Nat} (h : HosR w p o a b q) (hb : Below w.heap.size w w') : HosR w' p o a b q := by
 obtain ⟨⟨t, y0, y0'⟩, y1, ⟨v, y2, y2'⟩, y3, y4⟩ := h
 exact ⟨⟨t, cell_on y0 hb, y0'⟩, cell_on y1 hb, ⟨v, cell_on y2 hb, y2'.mono hb (fun _ _ _ h => h.mono hb)⟩, cell_on y3 hb, cell_on y4 hb⟩
theorem HosR.any {w : World} {p : Bool} {o : Option (Nat → Prop)} {a : HH} {b q : Nat} (h : HosR w p o a b q) : HosR w false o a b q := by
 obtain ⟨⟨t, y0, y0'⟩, y1, y2, y3, y4⟩ := h
 exact ⟨⟨t, y0, fun e => by cases e⟩, y1, y2, y3, y4⟩
theorem HosR.free {w : World} {p : Bool} {o : Option (Nat → Prop)} {a : HH} {b q : Nat} (h : HosR w p o a b q) : HosR w p none a b q := by
 obtain ⟨y0, y1, ⟨v, y2, y2'⟩, y3, y4⟩ := h
 exact ⟨y0, y1, ⟨v, y2, y2'.free (fun _ _ _ h => h)⟩, y3, y4⟩
/-- a function -/
structure FH where
 at_ : Int
 name : ByteArray
 params : List PW
 type : Int
 opn : Bool
 body : Sts
structure FunR (w : World) (p : Bool) (o : Option (Nat → Prop)) (a : FH) (b q : Nat) : Prop where
 c0 : ∃ t, w.cell? ⟨b, q, none⟩ = some (.int .i64 t) ∧ (p = true → t = a.at_)
 c1 : w.cell? ⟨b, q + 1, none⟩ = some (.string a.name)
 c2 : ∃ v, w.cell? ⟨b, q + 2, none⟩ = some v ∧ SlPz w o a.params v
 c3 : w.cell? ⟨b, q + 3, none⟩ = some (.int .u8 a.type)
 c4 : w.cell? ⟨b, q + 4, none⟩ = some (.bool a.opn)
 c5 : ∃ v, w.cell? ⟨b, q + 5, none⟩ = some v ∧ SlS w p o a.body v
theorem FunR.mono {w w' : World} {p : Bool} {o : Option (Nat → Prop)} {a : FH} {b q : Nat} (h : FunR w p o a b q) (hb : Below w.heap.size w w') : FunR w' p o a b q := by
 obtain ⟨⟨t, y0, y0'⟩, y1, ⟨v, y2, y2'⟩, y3, y4, ⟨x, y5, y5'⟩⟩ := h
 exact ⟨⟨t, cell_on y0 hb, y0'⟩, cell_on y1 hb, ⟨v, cell_on y2 hb, y2'.mono hb (fun _ _ _ h => h.mono hb)⟩, cell_on y3 hb, cell_on y4 hb, ⟨x, cell_on y5 hb, y5'.mono hb⟩⟩
theorem FunR.any {w : World} {p : Bool} {o : Option (Nat → Prop)} {a : FH} {b q : Nat} (h : FunR w p o a b q) : FunR w false o a b q := by
 obtain ⟨⟨t, y0, y0'⟩, y1, y2, y3, y4, ⟨x, y5, y5'⟩⟩ := h
 exact ⟨⟨t, y0, fun e => by cases e⟩, y1, y2, y3, y4, ⟨x, y5, y5'.any⟩⟩
theorem FunR.free {w : World} {p : Bool} {o : Option (Nat → Prop)} {a : FH} {b q : Nat} (h : FunR w p o a b q) : FunR w p none a b q := by
 obtain ⟨y0, y1, ⟨v, y2, y2'⟩, y3, y4, ⟨x, y5, y5'⟩⟩ := h
 exact ⟨y0, y1, ⟨v, y2, y2'.free (fun _ _ _ h => h)⟩, y3, y4, ⟨x, y5, y5'.free⟩⟩
/-- a unit -/
structure UT where
 gs : List GH
 hs : List HH
 fs : List FH
abbrev SlG (w : World) (p : Bool) (o : Option (Nat → Prop)) (l : List GH) (v : Value) : Prop := SlR w o 105 5 (GloR w p) l v
abbrev SlH (w : World) (p : Bool) (o : Option (Nat → Prop)) (l : List HH) (v : Value) : Prop := SlR w o 101 5 (HosR w p o) l v
abbrev SlF (w : World) (p : Bool) (o : Option (Nat → Prop)) (l : List FH) (v : Value) : Prop := SlR w o 43 6 (FunR w p o) l v
def UIn (w : World) (p : Bool) (o : Option (Nat → Prop)) (u : UT) (v : Value) : Prop :=
 ∃ vg vh vf, v = .agg #[vg, vh, vf] ∧ SlG w p o u.gs vg ∧ SlH w p o u.hs vh ∧ SlF w p o u.fs vf
theorem UIn.mono {w w' : World} {p : Bool} {o : Option (Nat → Prop)} {u : UT} {v : Value} (h : UIn w p o u v) (hb : Below w.heap.size w w') : UIn w' p o u v := by
 obtain ⟨vg, vh, vf, rfl, h1, h2, h3⟩ := h
 exact ⟨vg, vh, vf, rfl, h1.mono hb (fun _ _ _ h => h.mono hb), h2.mono hb (fun _ _ _ h => h.mono hb), h3.mono hb (fun _ _ _ h => h.mono hb)⟩
theorem UIn.any {w : World} {p : Bool} {o : Option (Nat → Prop)} {u : UT} {v : Value} (h : UIn w p o u v) : UIn w false o u v := by
 obtain ⟨vg, vh, vf, rfl, h1, h2, h3⟩ := h
 exact ⟨vg, vh, vf, rfl, h1.same (fun _ _ _ h => h.any), h2.same (fun _ _ _ h => h.any), h3.same (fun _ _ _ h => h.any)⟩
theorem UIn.free {w : World} {p : Bool} {o : Option (Nat → Prop)} {u : UT} {v : Value} (h : UIn w p o u v) : UIn w p none u v := by
 obtain ⟨vg, vh, vf, rfl, h1, h2, h3⟩ := h
 exact ⟨vg, vh, vf, rfl, h1.free (fun _ _ _ h => h), h2.free (fun _ _ _ h => h.free), h3.free (fun _ _ _ h => h.free)⟩
/-- nothing is too large -/
structure UT.Ok (u : UT) : Prop where
 g : u.gs.length ≤ 100000000
 h : u.hs.length ≤ 100000000
 f : u.fs.length ≤ 100000000
 hp : ∀ x ∈ u.hs, x.params.length ≤ 100000000
 fp : ∀ x ∈ u.fs, x.params.length ≤ 100000000
 fb : ∀ x ∈ u.fs, x.body.sz ≤ 100000000
/-! ### the same -/
/-! ### two units boxed -/
structure Box2 (w wr : World) (c c' : Array Value) : Prop where
 below : Below w.heap.size w wr
 a : ∀ i, wr.cell? ⟨w.heap.size, i, none⟩ = c[i]?
 b : ∀ i, wr.cell? ⟨w.heap.size + 1, i, none⟩ = c'[i]?
 size : w.heap.size + 2 ≤ wr.heap.size
theorem Box2.start (w : World) (c c' : Array Value) (t t' : TypeId) : Box2 w ((w.alloc (.cells c t)).alloc (.cells c' t')) c c' where
 below := below2 _ _ _
 a := (box_on (Below.refl _ _)).1
 b := (box_on (Below.refl _ _)).2
 size := by simp
theorem Box2.step {w wr w' : World} {c c' : Array Value} (h : Box2 w wr c c') (hb : Below wr.heap.size wr w') : Box2 w w' c c' where
 below := h.below.trans (hb.mono h.below.size)
 a := fun i => by rw [hb.cell (by have := h.size; simp; omega)]; exact h.a i
 b := fun i => by rw [hb.cell (by have := h.size; simp; omega)]; exact h.b i
 size := by have := h.size; have := hb.size; omega
theorem Box2.drew {w wr : World} {c c' : Array Value} (h : Box2 w wr c c') : Box2 w wr.drew c c' := h.step (Below.refl _ _).drew
end
end Go.Proofs.YtlabadkfkbenoaaGreatDoor
