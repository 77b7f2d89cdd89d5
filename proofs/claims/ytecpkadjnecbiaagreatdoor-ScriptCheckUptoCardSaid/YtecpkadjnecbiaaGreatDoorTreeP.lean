/- ScriptSame: trees in memory: lists of expressions, lists of statements. No condition. -/
import Derived.Test.YtecpkadjnecbiaaGreatDoorKit
import Derived.OwnWalk
namespace Go.Proofs.YtecpkadjnecbiaaGreatDoor
open Go.RowKit
set_option linter.unusedVariables false
set_option linter.unusedSimpArgs false

/-- an expression but for its kids -/
structure EH where
  at_ : Int
  kind : Int
  word : Int
  type : Int
  name : ByteArray
  sign : ByteArray
/-- a list of expressions: the first one, its kids, the others -/
inductive Exs where
  | nil : Exs
  | cons (h : EH) (kids rest : Exs) : Exs
/-- a statement but for its lists -/
structure SH where
  at_ : Int
  kind : Int
  name : ByteArray
  type : Int
  sign : ByteArray
inductive Sts where
  | nil : Sts
  | cons (h : SH) (exprs : Exs) (body els rest : Sts) : Sts

def Exs.len : Exs → Nat
  | .nil => 0
  | .cons _ _ r => r.len + 1
def Sts.len : Sts → Nat
  | .nil => 0
  | .cons _ _ _ _ r => r.len + 1
def Exs.sz : Exs → Nat
  | .nil => 0
  | .cons _ k r => k.sz + r.sz + 1
def Sts.sz : Sts → Nat
  | .nil => 0
  | .cons _ x b e r => x.sz + b.sz + e.sz + r.sz + 1
theorem Exs.len_le : ∀ l : Exs, l.len ≤ l.sz
  | .nil => Nat.le_refl _
  | .cons _ k r => by have := Exs.len_le r; simp only [Exs.len, Exs.sz]; omega
theorem Sts.len_le : ∀ l : Sts, l.len ≤ l.sz
  | .nil => Nat.le_refl _
  | .cons _ x b e r => by have := Sts.len_le r; simp only [Sts.len, Sts.sz]; omega

/-- where a list lies: anywhere, or at the head of a block of its own type, not frozen, that Z holds, a mark behind it -/
def markV (t : TypeId) : Value := if t = 56 then .string ⟨#[109, 97, 114, 107]⟩ else .int .i64 (-7)
def Zone (w : World) (o : Option (Nat → Prop)) (t : TypeId) (b off n len cap : Nat) : Prop :=
  ∀ Z, o = some Z → Z b ∧ off = 0 ∧ (∃ cs : Array Value, w.heap[b]? = some (.cells cs t (0, 0))) ∧ len < cap ∧ w.cell? ⟨b, len * n, none⟩ = some (markV t)
theorem Zone.mono {w w' : World} {o : Option (Nat → Prop)} {t : TypeId} {b off n len cap : Nat} (h : Zone w o t b off n len cap) (hb : Below w.heap.size w w') : Zone w' o t b off n len cap := fun B hB => by
  obtain ⟨h1, h2, ⟨cs, h3⟩, h4, h5⟩ := h B hB
  have hlt : b < w.heap.size := by
    rcases Nat.lt_or_ge b w.heap.size with q | q
    · exact q
    · rw [Array.getElem?_eq_none q] at h3; cases h3
  exact ⟨h1, h2, ⟨cs, (hb.block b hlt).trans h3⟩, h4, (hb.cell hlt).trans h5⟩

/-- a head lies here; p: its place too -/
structure HeadE (w : World) (p : Bool) (h : EH) (b q : Nat) : Prop where
  c0 : ∃ t, w.cell? ⟨b, q, none⟩ = some (.int .i64 t) ∧ (p = true → t = h.at_)
  c1 : w.cell? ⟨b, q + 1, none⟩ = some (.int .u8 h.kind)
  c2 : w.cell? ⟨b, q + 2, none⟩ = some (.int .u32 h.word)
  c3 : w.cell? ⟨b, q + 3, none⟩ = some (.int .u8 h.type)
  c4 : w.cell? ⟨b, q + 4, none⟩ = some (.string h.name)
  c5 : w.cell? ⟨b, q + 5, none⟩ = some (.string h.sign)
theorem cell_on {w w' : World} {a : Addr} {v : Value} (h : w.cell? a = some v) (hb : Below w.heap.size w w') : w'.cell? a = some v := (hb.cell (World.block_lt_of_cell? w _ h)).trans h
theorem HeadE.mono {w w' : World} {p : Bool} {h : EH} {b q : Nat} (x : HeadE w p h b q) (hb : Below w.heap.size w w') : HeadE w' p h b q := by
  obtain ⟨⟨t, y0, y0'⟩, y1, y2, y3, y4, y5⟩ := x
  exact ⟨⟨t, cell_on y0 hb, y0'⟩, cell_on y1 hb, cell_on y2 hb, cell_on y3 hb, cell_on y4 hb, cell_on y5 hb⟩
structure HeadS (w : World) (p : Bool) (h : SH) (b q : Nat) : Prop where
  c0 : ∃ t, w.cell? ⟨b, q, none⟩ = some (.int .i64 t) ∧ (p = true → t = h.at_)
  c1 : w.cell? ⟨b, q + 1, none⟩ = some (.int .u8 h.kind)
  c2 : w.cell? ⟨b, q + 2, none⟩ = some (.string h.name)
  c3 : w.cell? ⟨b, q + 3, none⟩ = some (.int .u8 h.type)
  c4 : w.cell? ⟨b, q + 4, none⟩ = some (.string h.sign)
theorem HeadS.mono {w w' : World} {p : Bool} {h : SH} {b q : Nat} (x : HeadS w p h b q) (hb : Below w.heap.size w w') : HeadS w' p h b q := by
  obtain ⟨⟨t, y0, y0'⟩, y1, y2, y3, y4⟩ := x
  exact ⟨⟨t, cell_on y0 hb, y0'⟩, cell_on y1 hb, cell_on y2 hb, cell_on y3 hb, cell_on y4 hb⟩

/-- a list of expressions, the first one at place k of the row -/
def ExsIn (w : World) (p : Bool) (o : Option (Nat → Prop)) : Exs → Nat → Nat → Nat → Prop
  | .nil, _, _, _ => True
  | .cons h kids rest, b, off, k =>
    HeadE w p h b (off + k * 7) ∧
    (∃ ka kb koff kcap, w.cell? ⟨b, off + k * 7 + 6, none⟩ = some (.slice ka kids.len kcap) ∧ ((kids.len = 0 ∧ o = none) ∨ (ka = some ⟨kb, koff, none⟩ ∧ Zone w o 64 kb koff 7 kids.len kcap)) ∧ ExsIn w p o kids kb koff 0) ∧
    ExsIn w p o rest b off (k + 1)
/-- a slice of expressions -/
def SlE (w : World) (p : Bool) (o : Option (Nat → Prop)) (l : Exs) (v : Value) : Prop :=
  ∃ ka kb koff kcap, v = .slice ka l.len kcap ∧ ((l.len = 0 ∧ o = none) ∨ (ka = some ⟨kb, koff, none⟩ ∧ Zone w o 64 kb koff 7 l.len kcap)) ∧ ExsIn w p o l kb koff 0
theorem ExsIn.cons {w : World} {p : Bool} {o : Option (Nat → Prop)} {h : EH} {kids rest : Exs} {b off k : Nat} (x : ExsIn w p o (.cons h kids rest) b off k) :
    HeadE w p h b (off + k * 7) ∧ (∃ v, w.cell? ⟨b, off + k * 7 + 6, none⟩ = some v ∧ SlE w p o kids v) ∧ ExsIn w p o rest b off (k + 1) := by
  obtain ⟨x1, ⟨ka, kb, koff, kcap, y1, y2, y3⟩, x3⟩ := x
  exact ⟨x1, ⟨_, y1, ka, kb, koff, kcap, rfl, y2, y3⟩, x3⟩
theorem ExsIn.mk {w : World} {p : Bool} {o : Option (Nat → Prop)} {h : EH} {kids rest : Exs} {b off k : Nat} {v : Value} (h1 : HeadE w p h b (off + k * 7)) (h2 : w.cell? ⟨b, off + k * 7 + 6, none⟩ = some v) (h3 : SlE w p o kids v) (h4 : ExsIn w p o rest b off (k + 1)) :
    ExsIn w p o (.cons h kids rest) b off k := by
  obtain ⟨ka, kb, koff, kcap, rfl, y2, y3⟩ := h3
  exact ⟨h1, ⟨ka, kb, koff, kcap, h2, y2, y3⟩, h4⟩
theorem ExsIn.mono {w w' : World} {p : Bool} {o : Option (Nat → Prop)} (hb : Below w.heap.size w w') : ∀ {l : Exs} {b off k : Nat}, ExsIn w p o l b off k → ExsIn w' p o l b off k
  | .nil, _, _, _, _ => trivial
  | .cons h kids rest, b, off, k, ⟨x1, ⟨ka, kb, koff, kcap, y1, y2, y3⟩, x3⟩ =>
    ⟨x1.mono hb, ⟨ka, kb, koff, kcap, cell_on y1 hb, y2.imp id (fun z => ⟨z.1, z.2.mono hb⟩), ExsIn.mono hb y3⟩, ExsIn.mono hb x3⟩
theorem SlE.mono {w w' : World} {p : Bool} {o : Option (Nat → Prop)} {l : Exs} {v : Value} (h : SlE w p o l v) (hb : Below w.heap.size w w') : SlE w' p o l v := by
  obtain ⟨ka, kb, koff, kcap, rfl, y2, y3⟩ := h
  exact ⟨ka, kb, koff, kcap, rfl, y2.imp id (fun z => ⟨z.1, z.2.mono hb⟩), y3.mono hb⟩
theorem HeadE.any {w : World} {p : Bool} {h : EH} {b q : Nat} (x : HeadE w p h b q) : HeadE w false h b q := by
  obtain ⟨⟨t, y0, y0'⟩, y1, y2, y3, y4, y5⟩ := x
  exact ⟨⟨t, y0, fun e => by cases e⟩, y1, y2, y3, y4, y5⟩
theorem Zone.any {w : World} {t : TypeId} {b off n len cap : Nat} : Zone w none t b off n len cap := fun _ h => by cases h
/-- the places forgotten -/
theorem ExsIn.any {w : World} {p : Bool} {o : Option (Nat → Prop)} : ∀ {l : Exs} {b off k : Nat}, ExsIn w p o l b off k → ExsIn w false o l b off k
  | .nil, _, _, _, _ => trivial
  | .cons h kids rest, b, off, k, ⟨x1, ⟨ka, kb, koff, kcap, y1, y2, y3⟩, x3⟩ => ⟨x1.any, ⟨ka, kb, koff, kcap, y1, y2, y3.any⟩, x3.any⟩
/-- the zone forgotten -/
theorem ExsIn.free {w : World} {p : Bool} {o : Option (Nat → Prop)} : ∀ {l : Exs} {b off k : Nat}, ExsIn w p o l b off k → ExsIn w p none l b off k
  | .nil, _, _, _, _ => trivial
  | .cons h kids rest, b, off, k, ⟨x1, ⟨ka, kb, koff, kcap, y1, y2, y3⟩, x3⟩ => ⟨x1, ⟨ka, kb, koff, kcap, y1, y2.imp (fun z => ⟨z.1, rfl⟩) (fun z => ⟨z.1, Zone.any⟩), y3.free⟩, x3.free⟩
theorem SlE.any {w : World} {p : Bool} {o : Option (Nat → Prop)} {l : Exs} {v : Value} (h : SlE w p o l v) : SlE w false o l v := by
  obtain ⟨ka, kb, koff, kcap, rfl, y2, y3⟩ := h
  exact ⟨ka, kb, koff, kcap, rfl, y2, y3.any⟩
theorem SlE.free {w : World} {p : Bool} {o : Option (Nat → Prop)} {l : Exs} {v : Value} (h : SlE w p o l v) : SlE w p none l v := by
  obtain ⟨ka, kb, koff, kcap, rfl, y2, y3⟩ := h
  exact ⟨ka, kb, koff, kcap, rfl, y2.imp (fun z => ⟨z.1, rfl⟩) (fun z => ⟨z.1, Zone.any⟩), y3.free⟩

/-- a list of statements -/
def StsIn (w : World) (p : Bool) (o : Option (Nat → Prop)) : Sts → Nat → Nat → Nat → Prop
  | .nil, _, _, _ => True
  | .cons h x body els rest, b, off, k =>
    HeadS w p h b (off + k * 8) ∧
    (∃ v, w.cell? ⟨b, off + k * 8 + 5, none⟩ = some v ∧ SlE w p o x v) ∧
    (∃ ka kb koff kcap, w.cell? ⟨b, off + k * 8 + 6, none⟩ = some (.slice ka body.len kcap) ∧ ((body.len = 0 ∧ o = none) ∨ (ka = some ⟨kb, koff, none⟩ ∧ Zone w o 60 kb koff 8 body.len kcap)) ∧ StsIn w p o body kb koff 0) ∧
    (∃ ka kb koff kcap, w.cell? ⟨b, off + k * 8 + 7, none⟩ = some (.slice ka els.len kcap) ∧ ((els.len = 0 ∧ o = none) ∨ (ka = some ⟨kb, koff, none⟩ ∧ Zone w o 60 kb koff 8 els.len kcap)) ∧ StsIn w p o els kb koff 0) ∧
    StsIn w p o rest b off (k + 1)
def SlS (w : World) (p : Bool) (o : Option (Nat → Prop)) (l : Sts) (v : Value) : Prop :=
  ∃ ka kb koff kcap, v = .slice ka l.len kcap ∧ ((l.len = 0 ∧ o = none) ∨ (ka = some ⟨kb, koff, none⟩ ∧ Zone w o 60 kb koff 8 l.len kcap)) ∧ StsIn w p o l kb koff 0
theorem StsIn.cons {w : World} {p : Bool} {o : Option (Nat → Prop)} {h : SH} {x : Exs} {body els rest : Sts} {b off k : Nat} (y : StsIn w p o (.cons h x body els rest) b off k) :
    HeadS w p h b (off + k * 8) ∧ (∃ v, w.cell? ⟨b, off + k * 8 + 5, none⟩ = some v ∧ SlE w p o x v) ∧ (∃ v, w.cell? ⟨b, off + k * 8 + 6, none⟩ = some v ∧ SlS w p o body v) ∧ (∃ v, w.cell? ⟨b, off + k * 8 + 7, none⟩ = some v ∧ SlS w p o els v) ∧ StsIn w p o rest b off (k + 1) := by
  obtain ⟨x1, x2, ⟨ka, kb, koff, kcap, y1, y2, y3⟩, ⟨ja, jb, joff, jcap, z1, z2, z3⟩, x4⟩ := y
  exact ⟨x1, x2, ⟨_, y1, ka, kb, koff, kcap, rfl, y2, y3⟩, ⟨_, z1, ja, jb, joff, jcap, rfl, z2, z3⟩, x4⟩
theorem StsIn.mk {w : World} {p : Bool} {o : Option (Nat → Prop)} {h : SH} {x : Exs} {body els rest : Sts} {b off k : Nat} {v5 v6 v7 : Value} (h1 : HeadS w p h b (off + k * 8)) (h2 : w.cell? ⟨b, off + k * 8 + 5, none⟩ = some v5) (h3 : SlE w p o x v5)
    (h4 : w.cell? ⟨b, off + k * 8 + 6, none⟩ = some v6) (h5 : SlS w p o body v6) (h6 : w.cell? ⟨b, off + k * 8 + 7, none⟩ = some v7) (h7 : SlS w p o els v7) (h8 : StsIn w p o rest b off (k + 1)) :
    StsIn w p o (.cons h x body els rest) b off k := by
  obtain ⟨ka, kb, koff, kcap, rfl, y2, y3⟩ := h5
  obtain ⟨ja, jb, joff, jcap, rfl, z2, z3⟩ := h7
  exact ⟨h1, ⟨v5, h2, h3⟩, ⟨ka, kb, koff, kcap, h4, y2, y3⟩, ⟨ja, jb, joff, jcap, h6, z2, z3⟩, h8⟩
theorem StsIn.mono {w w' : World} {p : Bool} {o : Option (Nat → Prop)} (hb : Below w.heap.size w w') : ∀ {l : Sts} {b off k : Nat}, StsIn w p o l b off k → StsIn w' p o l b off k
  | .nil, _, _, _, _ => trivial
  | .cons h x body els rest, b, off, k, ⟨x1, ⟨v, x2, x3⟩, ⟨ka, kb, koff, kcap, y1, y2, y3⟩, ⟨ja, jb, joff, jcap, z1, z2, z3⟩, x4⟩ =>
    ⟨x1.mono hb, ⟨v, cell_on x2 hb, x3.mono hb⟩, ⟨ka, kb, koff, kcap, cell_on y1 hb, y2.imp id (fun z => ⟨z.1, z.2.mono hb⟩), StsIn.mono hb y3⟩, ⟨ja, jb, joff, jcap, cell_on z1 hb, z2.imp id (fun z => ⟨z.1, z.2.mono hb⟩), StsIn.mono hb z3⟩, StsIn.mono hb x4⟩
theorem SlS.mono {w w' : World} {p : Bool} {o : Option (Nat → Prop)} {l : Sts} {v : Value} (h : SlS w p o l v) (hb : Below w.heap.size w w') : SlS w' p o l v := by
  obtain ⟨ka, kb, koff, kcap, rfl, y2, y3⟩ := h
  exact ⟨ka, kb, koff, kcap, rfl, y2.imp id (fun z => ⟨z.1, z.2.mono hb⟩), y3.mono hb⟩
theorem HeadS.any {w : World} {p : Bool} {h : SH} {b q : Nat} (x : HeadS w p h b q) : HeadS w false h b q := by
  obtain ⟨⟨t, y0, y0'⟩, y1, y2, y3, y4⟩ := x
  exact ⟨⟨t, y0, fun e => by cases e⟩, y1, y2, y3, y4⟩
theorem StsIn.any {w : World} {p : Bool} {o : Option (Nat → Prop)} : ∀ {l : Sts} {b off k : Nat}, StsIn w p o l b off k → StsIn w false o l b off k
  | .nil, _, _, _, _ => trivial
  | .cons h x body els rest, b, off, k, ⟨x1, ⟨v, x2, x3⟩, ⟨ka, kb, koff, kcap, y1, y2, y3⟩, ⟨ja, jb, joff, jcap, z1, z2, z3⟩, x4⟩ =>
    ⟨x1.any, ⟨v, x2, x3.any⟩, ⟨ka, kb, koff, kcap, y1, y2, y3.any⟩, ⟨ja, jb, joff, jcap, z1, z2, z3.any⟩, x4.any⟩
theorem StsIn.free {w : World} {p : Bool} {o : Option (Nat → Prop)} : ∀ {l : Sts} {b off k : Nat}, StsIn w p o l b off k → StsIn w p none l b off k
  | .nil, _, _, _, _ => trivial
  | .cons h x body els rest, b, off, k, ⟨x1, ⟨v, x2, x3⟩, ⟨ka, kb, koff, kcap, y1, y2, y3⟩, ⟨ja, jb, joff, jcap, z1, z2, z3⟩, x4⟩ =>
    ⟨x1, ⟨v, x2, x3.free⟩, ⟨ka, kb, koff, kcap, y1, y2.imp (fun z => ⟨z.1, rfl⟩) (fun z => ⟨z.1, Zone.any⟩), y3.free⟩, ⟨ja, jb, joff, jcap, z1, z2.imp (fun z => ⟨z.1, rfl⟩) (fun z => ⟨z.1, Zone.any⟩), z3.free⟩, x4.free⟩
theorem SlS.any {w : World} {p : Bool} {o : Option (Nat → Prop)} {l : Sts} {v : Value} (h : SlS w p o l v) : SlS w false o l v := by
  obtain ⟨ka, kb, koff, kcap, rfl, y2, y3⟩ := h
  exact ⟨ka, kb, koff, kcap, rfl, y2, y3.any⟩
theorem SlS.free {w : World} {p : Bool} {o : Option (Nat → Prop)} {l : Sts} {v : Value} (h : SlS w p o l v) : SlS w p none l v := by
  obtain ⟨ka, kb, koff, kcap, rfl, y2, y3⟩ := h
  exact ⟨ka, kb, koff, kcap, rfl, y2.imp (fun z => ⟨z.1, rfl⟩) (fun z => ⟨z.1, Zone.any⟩), y3.free⟩

/-! ### the same -/
def eqE (p : Bool) (a b : EH) : Bool := (!p || a.at_ == b.at_) && a.kind == b.kind && a.word == b.word && a.type == b.type && a.name.toList == b.name.toList && a.sign.toList == b.sign.toList
def sameE (p : Bool) : Exs → Exs → Bool
  | .nil, .nil => true
  | .cons h k r, .cons h' k' r' => eqE p h h' && sameE p k k' && sameE p r r'
  | .nil, .cons _ _ _ => false
  | .cons _ _ _, .nil => false
def eqS (p : Bool) (a b : SH) : Bool := (!p || a.at_ == b.at_) && a.kind == b.kind && a.name.toList == b.name.toList && a.type == b.type && a.sign.toList == b.sign.toList
def sameS (p : Bool) : Sts → Sts → Bool
  | .nil, .nil => true
  | .cons h x b e r, .cons h' x' b' e' r' => eqS p h h' && sameE p x x' && sameS p b b' && sameS p e e' && sameS p r r'
  | .nil, .cons _ _ _ _ _ => false
  | .cons _ _ _ _ _, .nil => false
theorem sameE_len (p : Bool) : ∀ {a b : Exs}, a.len ≠ b.len → sameE p a b = false
  | .nil, .nil, h => absurd rfl h
  | .cons _ _ r, .cons _ _ r', h => by
    have := sameE_len p (a := r) (b := r') (fun e => h (by simp only [Exs.len]; omega))
    simp [sameE, this]
  | .nil, .cons _ _ _, _ => rfl
  | .cons _ _ _, .nil, _ => rfl
theorem sameS_len (p : Bool) : ∀ {a b : Sts}, a.len ≠ b.len → sameS p a b = false
  | .nil, .nil, h => absurd rfl h
  | .cons _ _ _ _ r, .cons _ _ _ _ r', h => by
    have := sameS_len p (a := r) (b := r') (fun e => h (by simp only [Sts.len]; omega))
    simp [sameS, this]
  | .nil, .cons _ _ _ _ _, _ => rfl
  | .cons _ _ _ _ _, .nil, _ => rfl
theorem eqE_refl (p : Bool) (a : EH) : eqE p a a = true := by simp [eqE]
theorem eqS_refl (p : Bool) (a : SH) : eqS p a a = true := by simp [eqS]
theorem sameE_refl (p : Bool) : ∀ a : Exs, sameE p a a = true
  | .nil => rfl
  | .cons h k r => by simp [sameE, eqE_refl, sameE_refl p k, sameE_refl p r]
theorem sameS_refl (p : Bool) : ∀ a : Sts, sameS p a a = true
  | .nil => rfl
  | .cons h x b e r => by simp [sameS, eqS_refl, sameE_refl, sameS_refl p b, sameS_refl p e, sameS_refl p r]
theorem eqE_comm (p : Bool) (a b : EH) : eqE p a b = eqE p b a := by
  simp only [eqE, Bool.beq_comm (a := a.at_), BEq.comm (a := a.at_), BEq.comm (a := a.kind), BEq.comm (a := a.word), BEq.comm (a := a.type), BEq.comm (a := a.name.toList), BEq.comm (a := a.sign.toList)]
theorem eqS_comm (p : Bool) (a b : SH) : eqS p a b = eqS p b a := by
  simp only [eqS, BEq.comm (a := a.at_), BEq.comm (a := a.kind), BEq.comm (a := a.type), BEq.comm (a := a.name.toList), BEq.comm (a := a.sign.toList)]
theorem sameE_comm (p : Bool) : ∀ a b : Exs, sameE p a b = sameE p b a
  | .nil, .nil => rfl
  | .cons h k r, .cons h' k' r' => by simp only [sameE]; rw [eqE_comm p h h', sameE_comm p k k', sameE_comm p r r']
  | .nil, .cons _ _ _ => rfl
  | .cons _ _ _, .nil => rfl
theorem sameS_comm (p : Bool) : ∀ a b : Sts, sameS p a b = sameS p b a
  | .nil, .nil => rfl
  | .cons h x b e r, .cons h' x' b' e' r' => by simp only [sameS]; rw [eqS_comm p h h', sameE_comm p x x', sameS_comm p b b', sameS_comm p e e', sameS_comm p r r']
  | .nil, .cons _ _ _ _ _ => rfl
  | .cons _ _ _ _ _, .nil => rfl
end Go.Proofs.YtecpkadjnecbiaaGreatDoor
