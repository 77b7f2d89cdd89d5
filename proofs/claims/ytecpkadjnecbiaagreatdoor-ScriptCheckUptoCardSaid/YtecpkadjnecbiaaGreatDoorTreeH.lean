/- ScriptSame: units in memory. No condition. -/
import Derived.Test.YtecpkadjnecbiaaGreatDoorTreeG
namespace Go.Proofs.YtecpkadjnecbiaaGreatDoor
open Go.RowKit
set_option linter.unusedVariables false
set_option linter.unusedSimpArgs false

/-- a slice of records: type t, n cells each; each one as R says -/
def SlR {α : Type} (w : World) (o : Option (Nat → Prop)) (t : TypeId) (n : Nat) (R : α → Nat → Nat → Prop) (l : List α) (v : Value) : Prop :=
  ∃ ka kb koff kcap, v = .slice ka l.length kcap ∧ ((l.length = 0 ∧ o = none) ∨ (ka = some ⟨kb, koff, none⟩ ∧ Zone w o t kb koff n l.length kcap)) ∧ ∀ i (h : i < l.length), R l[i] kb (koff + i * n)
theorem SlR.mono {α : Type} {w w' : World} {o : Option (Nat → Prop)} {t : TypeId} {n : Nat} {R R' : α → Nat → Nat → Prop} {l : List α} {v : Value} (h : SlR w o t n R l v) (hb : Below w.heap.size w w') (hR : ∀ a b q, R a b q → R' a b q) : SlR w' o t n R' l v := by
  obtain ⟨ka, kb, koff, kcap, rfl, y2, y3⟩ := h
  exact ⟨ka, kb, koff, kcap, rfl, y2.imp id (fun z => ⟨z.1, z.2.mono hb⟩), fun i hi => hR _ _ _ (y3 i hi)⟩
theorem SlR.free {α : Type} {w : World} {o : Option (Nat → Prop)} {t : TypeId} {n : Nat} {R R' : α → Nat → Nat → Prop} {l : List α} {v : Value} (h : SlR w o t n R l v) (hR : ∀ a b q, R a b q → R' a b q) : SlR w none t n R' l v := by
  obtain ⟨ka, kb, koff, kcap, rfl, y2, y3⟩ := h
  exact ⟨ka, kb, koff, kcap, rfl, y2.imp (fun z => ⟨z.1, rfl⟩) (fun z => ⟨z.1, Zone.any⟩), fun i hi => hR _ _ _ (y3 i hi)⟩
theorem SlR.same {α : Type} {w : World} {o : Option (Nat → Prop)} {t : TypeId} {n : Nat} {R R' : α → Nat → Nat → Prop} {l : List α} {v : Value} (h : SlR w o t n R l v) (hR : ∀ a b q, R a b q → R' a b q) : SlR w o t n R' l v := by
  obtain ⟨ka, kb, koff, kcap, rfl, y2, y3⟩ := h
  exact ⟨ka, kb, koff, kcap, rfl, y2, fun i hi => hR _ _ _ (y3 i hi)⟩
theorem SlR.shape {α : Type} {w : World} {o : Option (Nat → Prop)} {t : TypeId} {n : Nat} {R : α → Nat → Nat → Prop} {l : List α} {v : Value} (h : SlR w o t n R l v) : ∃ a c, v = .slice a l.length c := by
  obtain ⟨ka, kb, koff, kcap, rfl, -⟩ := h
  exact ⟨_, _, rfl⟩

/-- a parameter -/
structure ParR (w : World) (a : PW) (b q : Nat) : Prop where
  c0 : w.cell? ⟨b, q, none⟩ = some (.string a.1)
  c1 : w.cell? ⟨b, q + 1, none⟩ = some (.int .u8 a.2)
theorem ParR.mono {w w' : World} {a : PW} {b q : Nat} (h : ParR w a b q) (hb : Below w.heap.size w w') : ParR w' a b q := ⟨cell_on h.c0 hb, cell_on h.c1 hb⟩
abbrev SlPz (w : World) (o : Option (Nat → Prop)) (l : List PW) (v : Value) : Prop := SlR w o 56 2 (ParR w) l v
theorem SlPz.plain {w : World} {o : Option (Nat → Prop)} {l : List PW} {v : Value} (h : SlPz w o l v) : SlP w l v := by
  obtain ⟨ka, kb, koff, kcap, rfl, y2, y3⟩ := h
  exact ⟨ka, kb, koff, kcap, rfl, y2.imp And.left (fun z => z.1), fun i hi => ⟨(y3 i hi).c0, (y3 i hi).c1⟩⟩

/-- a global -/
structure GH where
  at_ : Int
  name : ByteArray
  type : Int
  len : Int
  word : Int
structure GloR (w : World) (p : Bool) (a : GH) (b q : Nat) : Prop where
  c0 : ∃ t, w.cell? ⟨b, q, none⟩ = some (.int .i64 t) ∧ (p = true → t = a.at_)
  c1 : w.cell? ⟨b, q + 1, none⟩ = some (.string a.name)
  c2 : w.cell? ⟨b, q + 2, none⟩ = some (.int .u8 a.type)
  c3 : w.cell? ⟨b, q + 3, none⟩ = some (.int .u32 a.len)
  c4 : w.cell? ⟨b, q + 4, none⟩ = some (.int .u32 a.word)
theorem GloR.mono {w w' : World} {p : Bool} {a : GH} {b q : Nat} (h : GloR w p a b q) (hb : Below w.heap.size w w') : GloR w' p a b q := by
  obtain ⟨⟨t, y0, y0'⟩, y1, y2, y3, y4⟩ := h
  exact ⟨⟨t, cell_on y0 hb, y0'⟩, cell_on y1 hb, cell_on y2 hb, cell_on y3 hb, cell_on y4 hb⟩
theorem GloR.any {w : World} {p : Bool} {a : GH} {b q : Nat} (h : GloR w p a b q) : GloR w false a b q := by
  obtain ⟨⟨t, y0, y0'⟩, y1, y2, y3, y4⟩ := h
  exact ⟨⟨t, y0, fun e => by cases e⟩, y1, y2, y3, y4⟩
/-- a host's function -/
structure HH where
  at_ : Int
  name : ByteArray
  params : List PW
  type : Int
  number : Int
structure HosR (w : World) (p : Bool) (o : Option (Nat → Prop)) (a : HH) (b q : Nat) : Prop where
  c0 : ∃ t, w.cell? ⟨b, q, none⟩ = some (.int .i64 t) ∧ (p = true → t = a.at_)
  c1 : w.cell? ⟨b, q + 1, none⟩ = some (.string a.name)
  c2 : ∃ v, w.cell? ⟨b, q + 2, none⟩ = some v ∧ SlPz w o a.params v
  c3 : w.cell? ⟨b, q + 3, none⟩ = some (.int .u8 a.type)
  c4 : w.cell? ⟨b, q + 4, none⟩ = some (.int .u32 a.number)
theorem HosR.mono {w w' : World} {p : Bool} {o : Option (Nat → Prop)} {a : HH} {b q : Nat} (h : HosR w p o a b q) (hb : Below w.heap.size w w') : HosR w' p o a b q := by
  obtain ⟨⟨t, y0, y0'⟩, y1, ⟨v, y2, y2'⟩, y3, y4⟩ := h
  exact ⟨⟨t, cell_on y0 hb, y0'⟩, cell_on y1 hb, ⟨v, cell_on y2 hb, y2'.mono hb (fun _ _ _ h => h.mono hb)⟩, cell_on y3 hb, cell_on y4 hb⟩
theorem HosR.any {w : World} {p : Bool} {o : Option (Nat → Prop)} {a : HH} {b q : Nat} (h : HosR w p o a b q) : HosR w false o a b q := by
  obtain ⟨⟨t, y0, y0'⟩, y1, y2, y3, y4⟩ := h
  exact ⟨⟨t, y0, fun e => by cases e⟩, y1, y2, y3, y4⟩
theorem HosR.free {w : World} {p : Bool} {o : Option (Nat → Prop)} {a : HH} {b q : Nat} (h : HosR w p o a b q) : HosR w p none a b q := by
  obtain ⟨y0, y1, ⟨v, y2, y2'⟩, y3, y4⟩ := h
  exact ⟨y0, y1, ⟨v, y2, y2'.free (fun _ _ _ h => h)⟩, y3, y4⟩
/-- a function -/
structure FH where
  at_ : Int
  name : ByteArray
  params : List PW
  type : Int
  opn : Bool
  body : Sts
structure FunR (w : World) (p : Bool) (o : Option (Nat → Prop)) (a : FH) (b q : Nat) : Prop where
  c0 : ∃ t, w.cell? ⟨b, q, none⟩ = some (.int .i64 t) ∧ (p = true → t = a.at_)
  c1 : w.cell? ⟨b, q + 1, none⟩ = some (.string a.name)
  c2 : ∃ v, w.cell? ⟨b, q + 2, none⟩ = some v ∧ SlPz w o a.params v
  c3 : w.cell? ⟨b, q + 3, none⟩ = some (.int .u8 a.type)
  c4 : w.cell? ⟨b, q + 4, none⟩ = some (.bool a.opn)
  c5 : ∃ v, w.cell? ⟨b, q + 5, none⟩ = some v ∧ SlS w p o a.body v
theorem FunR.mono {w w' : World} {p : Bool} {o : Option (Nat → Prop)} {a : FH} {b q : Nat} (h : FunR w p o a b q) (hb : Below w.heap.size w w') : FunR w' p o a b q := by
  obtain ⟨⟨t, y0, y0'⟩, y1, ⟨v, y2, y2'⟩, y3, y4, ⟨x, y5, y5'⟩⟩ := h
  exact ⟨⟨t, cell_on y0 hb, y0'⟩, cell_on y1 hb, ⟨v, cell_on y2 hb, y2'.mono hb (fun _ _ _ h => h.mono hb)⟩, cell_on y3 hb, cell_on y4 hb, ⟨x, cell_on y5 hb, y5'.mono hb⟩⟩
theorem FunR.any {w : World} {p : Bool} {o : Option (Nat → Prop)} {a : FH} {b q : Nat} (h : FunR w p o a b q) : FunR w false o a b q := by
  obtain ⟨⟨t, y0, y0'⟩, y1, y2, y3, y4, ⟨x, y5, y5'⟩⟩ := h
  exact ⟨⟨t, y0, fun e => by cases e⟩, y1, y2, y3, y4, ⟨x, y5, y5'.any⟩⟩
theorem FunR.free {w : World} {p : Bool} {o : Option (Nat → Prop)} {a : FH} {b q : Nat} (h : FunR w p o a b q) : FunR w p none a b q := by
  obtain ⟨y0, y1, ⟨v, y2, y2'⟩, y3, y4, ⟨x, y5, y5'⟩⟩ := h
  exact ⟨y0, y1, ⟨v, y2, y2'.free (fun _ _ _ h => h)⟩, y3, y4, ⟨x, y5, y5'.free⟩⟩
/-- a unit -/
structure UT where
  gs : List GH
  hs : List HH
  fs : List FH
abbrev SlG (w : World) (p : Bool) (o : Option (Nat → Prop)) (l : List GH) (v : Value) : Prop := SlR w o 43 5 (GloR w p) l v
abbrev SlH (w : World) (p : Bool) (o : Option (Nat → Prop)) (l : List HH) (v : Value) : Prop := SlR w o 36 5 (HosR w p o) l v
abbrev SlF (w : World) (p : Bool) (o : Option (Nat → Prop)) (l : List FH) (v : Value) : Prop := SlR w o 39 6 (FunR w p o) l v
def UIn (w : World) (p : Bool) (o : Option (Nat → Prop)) (u : UT) (v : Value) : Prop :=
  ∃ vg vh vf, v = .agg #[vg, vh, vf] ∧ SlG w p o u.gs vg ∧ SlH w p o u.hs vh ∧ SlF w p o u.fs vf
theorem UIn.mono {w w' : World} {p : Bool} {o : Option (Nat → Prop)} {u : UT} {v : Value} (h : UIn w p o u v) (hb : Below w.heap.size w w') : UIn w' p o u v := by
  obtain ⟨vg, vh, vf, rfl, h1, h2, h3⟩ := h
  exact ⟨vg, vh, vf, rfl, h1.mono hb (fun _ _ _ h => h.mono hb), h2.mono hb (fun _ _ _ h => h.mono hb), h3.mono hb (fun _ _ _ h => h.mono hb)⟩
theorem UIn.any {w : World} {p : Bool} {o : Option (Nat → Prop)} {u : UT} {v : Value} (h : UIn w p o u v) : UIn w false o u v := by
  obtain ⟨vg, vh, vf, rfl, h1, h2, h3⟩ := h
  exact ⟨vg, vh, vf, rfl, h1.same (fun _ _ _ h => h.any), h2.same (fun _ _ _ h => h.any), h3.same (fun _ _ _ h => h.any)⟩
theorem UIn.free {w : World} {p : Bool} {o : Option (Nat → Prop)} {u : UT} {v : Value} (h : UIn w p o u v) : UIn w p none u v := by
  obtain ⟨vg, vh, vf, rfl, h1, h2, h3⟩ := h
  exact ⟨vg, vh, vf, rfl, h1.free (fun _ _ _ h => h), h2.free (fun _ _ _ h => h.free), h3.free (fun _ _ _ h => h.free)⟩
/-- nothing is too large -/
structure UT.Ok (u : UT) : Prop where
  g : u.gs.length ≤ 100000000
  h : u.hs.length ≤ 100000000
  f : u.fs.length ≤ 100000000
  hp : ∀ x ∈ u.hs, x.params.length ≤ 100000000
  fp : ∀ x ∈ u.fs, x.params.length ≤ 100000000
  fb : ∀ x ∈ u.fs, x.body.sz ≤ 100000000

/-! ### the same -/
def eqG (p : Bool) (a b : GH) : Bool := (!p || a.at_ == b.at_) && (a.name.toList == b.name.toList && a.type == b.type && a.len == b.len && a.word == b.word)
def eqH (p : Bool) (a b : HH) : Bool := (!p || a.at_ == b.at_) && a.name.toList == b.name.toList && a.type == b.type && a.number == b.number && sameL eqP a.params b.params
def eqF (p : Bool) (a b : FH) : Bool := (!p || a.at_ == b.at_) && a.name.toList == b.name.toList && a.type == b.type && a.opn == b.opn && sameL eqP a.params b.params && sameS p a.body b.body
def sameU (p : Bool) (u v : UT) : Bool := sameL (eqG p) u.gs v.gs && sameL (eqH p) u.hs v.hs && sameL (eqF p) u.fs v.fs
theorem eqP_refl (a : PW) : eqP a a = true := by simp [eqP]
theorem eqG_refl (p : Bool) (a : GH) : eqG p a a = true := by simp [eqG]
theorem eqH_refl (p : Bool) (a : HH) : eqH p a a = true := by simp [eqH, sameL_refl eqP eqP_refl]
theorem eqF_refl (p : Bool) (a : FH) : eqF p a a = true := by simp [eqF, sameL_refl eqP eqP_refl, sameS_refl]
theorem sameU_refl (p : Bool) (u : UT) : sameU p u u = true := by simp [sameU, sameL_refl _ (eqG_refl p), sameL_refl _ (eqH_refl p), sameL_refl _ (eqF_refl p)]
theorem eqP_comm (a b : PW) : eqP a b = eqP b a := by simp only [eqP, BEq.comm (a := a.1.toList), BEq.comm (a := a.2)]
theorem eqG_comm (p : Bool) (a b : GH) : eqG p a b = eqG p b a := by
  simp only [eqG, BEq.comm (a := a.at_), BEq.comm (a := a.name.toList), BEq.comm (a := a.type), BEq.comm (a := a.len), BEq.comm (a := a.word)]
theorem eqH_comm (p : Bool) (a b : HH) : eqH p a b = eqH p b a := by
  simp only [eqH, BEq.comm (a := a.at_), BEq.comm (a := a.name.toList), BEq.comm (a := a.type), BEq.comm (a := a.number), sameL_comm eqP eqP_comm a.params b.params]
theorem eqF_comm (p : Bool) (a b : FH) : eqF p a b = eqF p b a := by
  simp only [eqF, BEq.comm (a := a.at_), BEq.comm (a := a.name.toList), BEq.comm (a := a.type), BEq.comm (a := a.opn), sameL_comm eqP eqP_comm a.params b.params, sameS_comm p a.body b.body]
theorem sameU_comm (p : Bool) (u v : UT) : sameU p u v = sameU p v u := by
  simp only [sameU, sameL_comm _ (eqG_comm p) u.gs v.gs, sameL_comm _ (eqH_comm p) u.hs v.hs, sameL_comm _ (eqF_comm p) u.fs v.fs]

/-! ### two units boxed -/
structure Box2 (w wr : World) (c c' : Array Value) : Prop where
  below : Below w.heap.size w wr
  a : ∀ i, wr.cell? ⟨w.heap.size, i, none⟩ = c[i]?
  b : ∀ i, wr.cell? ⟨w.heap.size + 1, i, none⟩ = c'[i]?
  size : w.heap.size + 2 ≤ wr.heap.size
theorem Box2.start (w : World) (c c' : Array Value) (t t' : TypeId) : Box2 w ((w.alloc (.cells c t)).alloc (.cells c' t')) c c' where
  below := below2 _ _ _
  a := (box_on (Below.refl _ _)).1
  b := (box_on (Below.refl _ _)).2
  size := by simp
theorem Box2.step {w wr w' : World} {c c' : Array Value} (h : Box2 w wr c c') (hb : Below wr.heap.size wr w') : Box2 w w' c c' where
  below := h.below.trans (hb.mono h.below.size)
  a := fun i => by rw [hb.cell (by have := h.size; simp; omega)]; exact h.a i
  b := fun i => by rw [hb.cell (by have := h.size; simp; omega)]; exact h.b i
  size := by have := h.size; have := hb.size; omega
theorem Box2.drew {w wr : World} {c c' : Array Value} (h : Box2 w wr c c') : Box2 w wr.drew c c' := h.step (Below.refl _ _).drew

end Go.Proofs.YtecpkadjnecbiaaGreatDoor
