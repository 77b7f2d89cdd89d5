/- Walks and plain laws, merged: TreeH SenB SenC TokC TokA TokB TreeL. No condition. -/
import Derived.Test.YtlabadkfkbenoaaGreatDoorKm01
import Derived.Test.YtlabadkfkbenoaaGreatDoorProg
import Derived.OwnWalk
import Derived.Laws.ResultCell
import Derived.RangeFuncNested
import Derived.RangeFuncBound
import Derived.RangeFuncCalls
import Derived.RangeFuncLeaves
import Derived.Shelf.Abstract
import Derived.WalkKit
import Derived.OwnWalkIn
import Derived.TacticsInMore
import Derived.LoopNIn
import Derived.LoopIn
import Derived.Lib.OthersKept
import Derived.RangeFuncBox
import Derived.WalkSmall
import Derived.OneCell
import Derived.RegionTactic
import Derived.ChangeAlike
namespace Go.Proofs.YtlabadkfkbenoaaGreatDoor
open Go.RowKit
set_option linter.unusedVariables false
set_option linter.unusedSimpArgs false
set_option maxRecDepth 100000
set_option maxHeartbeats 64000000
section
def SlR {α : Type} (w : World) (o : Option (Nat → Prop)) (t : TypeId) (n : Nat) (R : α → Nat → Nat → Prop) (l : List α) (v : Value) : Prop :=
 ∃ ka kb koff kcap, v = .slice ka l.length kcap ∧ ((l.length = 0 ∧ o = none) ∨ (ka = some ⟨kb, koff, none⟩ ∧ Zone w o t kb koff n l.length kcap)) ∧ ∀ i (h : i < l.length), R l[i] kb (koff + i * n)
theorem SlR.mono {α : Type} {w w' : World} {o : Option (Nat → Prop)} {t : TypeId} {n : Nat} {R R' : α → Nat → Nat → Prop} {l : List α} {v : Value} (h : SlR w o t n R l v) (hb : Below w.heap.size w w') (hR : ∀ a b q, R a b q → R' a b q) : SlR w' o t n R' l v := by
 obtain ⟨ka, kb, koff, kcap, rfl, y2, y3⟩ := h
 exact ⟨ka, kb, koff, kcap, rfl, y2.imp id (fun z => ⟨z.1, z.2.mono hb⟩), fun i hi => hR _ _ _ (y3 i hi)⟩
theorem SlR.free {α : Type} {w : World} {o : Option (Nat → Prop)} {t : TypeId} {n : Nat} {R R' : α → Nat → Nat → Prop} {l : List α} {v : Value} (h : SlR w o t n R l v) (hR : ∀ a b q, R a b q → R' a b q) : SlR w none t n R' l v := by
 obtain ⟨ka, kb, koff, kcap, rfl, y2, y3⟩ := h
 exact ⟨ka, kb, koff, kcap, rfl, y2.imp (fun z => ⟨z.1, rfl⟩) (fun z => ⟨z.1, Zone.any⟩), fun i hi => hR _ _ _ (y3 i hi)⟩
theorem SlR.same {α : Type} {w : World} {o : Option (Nat → Prop)} {t : TypeId} {n : Nat} {R R' : α → Nat → Nat → Prop} {l : List α} {v : Value} (h : SlR w o t n R l v) (hR : ∀ a b q, R a b q → R' a b q) : SlR w o t n R' l v := by
 obtain ⟨ka, kb, koff, kcap, rfl, y2, y3⟩ := h
 exact ⟨ka, kb, koff, kcap, rfl, y2, fun i hi => hR _ _ _ (y3 i hi)⟩
theorem SlR.shape {α : Type} {w : World} {o : Option (Nat → Prop)} {t : TypeId} {n : Nat} {R : α → Nat → Nat → Prop} {l : List α} {v : Value} (h : SlR w o t n R l v) : ∃ a c, v = .slice a l.length c := by
 obtain ⟨ka, kb, koff, kcap, rfl, -⟩ := h
 exact ⟨_, _, rfl⟩
structure ParR (w : World) (a : PW) (b q : Nat) : Prop where
 c0 : w.cell? ⟨b, q, none⟩ = some (.string a.1)
 c1 : w.cell? ⟨b, q + 1, none⟩ = some (.int .u8 a.2)
theorem ParR.mono {w w' : World} {a : PW} {b q : Nat} (h : ParR w a b q) (hb : Below w.heap.size w w') : ParR w' a b q := ⟨cell_on h.c0 hb, cell_on h.c1 hb⟩
abbrev SlPz (w : World) (o : Option (Nat → Prop)) (l : List PW) (v : Value) : Prop := SlR w o 46 2 (ParR w) l v
theorem SlPz.plain {w : World} {o : Option (Nat → Prop)} {l : List PW} {v : Value} (h : SlPz w o l v) : SlP w l v := by
 obtain ⟨ka, kb, koff, kcap, rfl, y2, y3⟩ := h
 exact ⟨ka, kb, koff, kcap, rfl, y2.imp And.left (fun z => z.1), fun i hi => ⟨(y3 i hi).c0, (y3 i hi).c1⟩⟩
structure GH where
 at_ : Int
 name : ByteArray
 type : Int
 len : Int
 word : Int
structure GloR (w : World) (p : Bool) (a : GH) (b q : Nat) : Prop where
 c0 : ∃ t, w.cell? ⟨b, q, none⟩ = some (.int .i64 t) ∧ (p = true → t = a.at_)
 c1 : w.cell? ⟨b, q + 1, none⟩ = some (.string a.name)
 c2 : w.cell? ⟨b, q + 2, none⟩ = some (.int .u8 a.type)
 c3 : w.cell? ⟨b, q + 3, none⟩ = some (.int .u32 a.len)
 c4 : w.cell? ⟨b, q + 4, none⟩ = some (.int .u32 a.word)
theorem GloR.mono {w w' : World} {p : Bool} {a : GH} {b q : Nat} (h : GloR w p a b q) (hb : Below w.heap.size w w') : GloR w' p a b q := by
 obtain ⟨⟨t, y0, y0'⟩, y1, y2, y3, y4⟩ := h
 exact ⟨⟨t, cell_on y0 hb, y0'⟩, cell_on y1 hb, cell_on y2 hb, cell_on y3 hb, cell_on y4 hb⟩
theorem GloR.any {w : World} {p : Bool} {a : GH} {b q : Nat} (h : GloR w p a b q) : GloR w false a b q := by
 obtain ⟨⟨t, y0, y0'⟩, y1, y2, y3, y4⟩ := h
 exact ⟨⟨t, y0, fun e => by cases e⟩, y1, y2, y3, y4⟩
structure HH where
 at_ : Int
 name : ByteArray
 params : List PW
 type : Int
 number : Int
structure HosR (w : World) (p : Bool) (o : Option (Nat → Prop)) (a : HH) (b q : Nat) : Prop where
 c0 : ∃ t, w.cell? ⟨b, q, none⟩ = some (.int .i64 t) ∧ (p = true → t = a.at_)
 c1 : w.cell? ⟨b, q + 1, none⟩ = some (.string a.name)
 c2 : ∃ v, w.cell? ⟨b, q + 2, none⟩ = some v ∧ SlPz w o a.params v
 c3 : w.cell? ⟨b, q + 3, none⟩ = some (.int .u8 a.type)
 c4 : w.cell? ⟨b, q + 4, none⟩ = some (.int .u32 a.number)
theorem HosR.mono {w w' : World} {p : Bool} {o : Option (Nat → Prop)} {a : HH} {b q : Nat} (h : HosR w p o a b q) (hb : Below w.heap.size w w') : HosR w' p o a b q := by
 obtain ⟨⟨t, y0, y0'⟩, y1, ⟨v, y2, y2'⟩, y3, y4⟩ := h
 exact ⟨⟨t, cell_on y0 hb, y0'⟩, cell_on y1 hb, ⟨v, cell_on y2 hb, y2'.mono hb (fun _ _ _ h => h.mono hb)⟩, cell_on y3 hb, cell_on y4 hb⟩
theorem HosR.any {w : World} {p : Bool} {o : Option (Nat → Prop)} {a : HH} {b q : Nat} (h : HosR w p o a b q) : HosR w false o a b q := by
 obtain ⟨⟨t, y0, y0'⟩, y1, y2, y3, y4⟩ := h
 exact ⟨⟨t, y0, fun e => by cases e⟩, y1, y2, y3, y4⟩
theorem HosR.free {w : World} {p : Bool} {o : Option (Nat → Prop)} {a : HH} {b q : Nat} (h : HosR w p o a b q) : HosR w p none a b q := by
 obtain ⟨y0, y1, ⟨v, y2, y2'⟩, y3, y4⟩ := h
 exact ⟨y0, y1, ⟨v, y2, y2'.free (fun _ _ _ h => h)⟩, y3, y4⟩
structure FH where
 at_ : Int
 name : ByteArray
 params : List PW
 type : Int
 opn : Bool
 body : Sts
structure FunR (w : World) (p : Bool) (o : Option (Nat → Prop)) (a : FH) (b q : Nat) : Prop where
 c0 : ∃ t, w.cell? ⟨b, q, none⟩ = some (.int .i64 t) ∧ (p = true → t = a.at_)
 c1 : w.cell? ⟨b, q + 1, none⟩ = some (.string a.name)
 c2 : ∃ v, w.cell? ⟨b, q + 2, none⟩ = some v ∧ SlPz w o a.params v
 c3 : w.cell? ⟨b, q + 3, none⟩ = some (.int .u8 a.type)
 c4 : w.cell? ⟨b, q + 4, none⟩ = some (.bool a.opn)
 c5 : ∃ v, w.cell? ⟨b, q + 5, none⟩ = some v ∧ SlS w p o a.body v
theorem FunR.mono {w w' : World} {p : Bool} {o : Option (Nat → Prop)} {a : FH} {b q : Nat} (h : FunR w p o a b q) (hb : Below w.heap.size w w') : FunR w' p o a b q := by
 obtain ⟨⟨t, y0, y0'⟩, y1, ⟨v, y2, y2'⟩, y3, y4, ⟨x, y5, y5'⟩⟩ := h
 exact ⟨⟨t, cell_on y0 hb, y0'⟩, cell_on y1 hb, ⟨v, cell_on y2 hb, y2'.mono hb (fun _ _ _ h => h.mono hb)⟩, cell_on y3 hb, cell_on y4 hb, ⟨x, cell_on y5 hb, y5'.mono hb⟩⟩
theorem FunR.any {w : World} {p : Bool} {o : Option (Nat → Prop)} {a : FH} {b q : Nat} (h : FunR w p o a b q) : FunR w false o a b q := by
 obtain ⟨⟨t, y0, y0'⟩, y1, y2, y3, y4, ⟨x, y5, y5'⟩⟩ := h
 exact ⟨⟨t, y0, fun e => by cases e⟩, y1, y2, y3, y4, ⟨x, y5, y5'.any⟩⟩
theorem FunR.free {w : World} {p : Bool} {o : Option (Nat → Prop)} {a : FH} {b q : Nat} (h : FunR w p o a b q) : FunR w p none a b q := by
 obtain ⟨y0, y1, ⟨v, y2, y2'⟩, y3, y4, ⟨x, y5, y5'⟩⟩ := h
 exact ⟨y0, y1, ⟨v, y2, y2'.free (fun _ _ _ h => h)⟩, y3, y4, ⟨x, y5, y5'.free⟩⟩
structure UT where
 gs : List GH
 hs : List HH
 fs : List FH
abbrev SlG (w : World) (p : Bool) (o : Option (Nat → Prop)) (l : List GH) (v : Value) : Prop := SlR w o 105 5 (GloR w p) l v
abbrev SlH (w : World) (p : Bool) (o : Option (Nat → Prop)) (l : List HH) (v : Value) : Prop := SlR w o 101 5 (HosR w p o) l v
abbrev SlF (w : World) (p : Bool) (o : Option (Nat → Prop)) (l : List FH) (v : Value) : Prop := SlR w o 43 6 (FunR w p o) l v
def UIn (w : World) (p : Bool) (o : Option (Nat → Prop)) (u : UT) (v : Value) : Prop :=
 ∃ vg vh vf, v = .agg #[vg, vh, vf] ∧ SlG w p o u.gs vg ∧ SlH w p o u.hs vh ∧ SlF w p o u.fs vf
theorem UIn.mono {w w' : World} {p : Bool} {o : Option (Nat → Prop)} {u : UT} {v : Value} (h : UIn w p o u v) (hb : Below w.heap.size w w') : UIn w' p o u v := by
 obtain ⟨vg, vh, vf, rfl, h1, h2, h3⟩ := h
 exact ⟨vg, vh, vf, rfl, h1.mono hb (fun _ _ _ h => h.mono hb), h2.mono hb (fun _ _ _ h => h.mono hb), h3.mono hb (fun _ _ _ h => h.mono hb)⟩
theorem UIn.any {w : World} {p : Bool} {o : Option (Nat → Prop)} {u : UT} {v : Value} (h : UIn w p o u v) : UIn w false o u v := by
 obtain ⟨vg, vh, vf, rfl, h1, h2, h3⟩ := h
 exact ⟨vg, vh, vf, rfl, h1.same (fun _ _ _ h => h.any), h2.same (fun _ _ _ h => h.any), h3.same (fun _ _ _ h => h.any)⟩
theorem UIn.free {w : World} {p : Bool} {o : Option (Nat → Prop)} {u : UT} {v : Value} (h : UIn w p o u v) : UIn w p none u v := by
 obtain ⟨vg, vh, vf, rfl, h1, h2, h3⟩ := h
 exact ⟨vg, vh, vf, rfl, h1.free (fun _ _ _ h => h), h2.free (fun _ _ _ h => h.free), h3.free (fun _ _ _ h => h.free)⟩
structure UT.Ok (u : UT) : Prop where
 g : u.gs.length ≤ 100000000
 h : u.hs.length ≤ 100000000
 f : u.fs.length ≤ 100000000
 hp : ∀ x ∈ u.hs, x.params.length ≤ 100000000
 fp : ∀ x ∈ u.fs, x.params.length ≤ 100000000
 fb : ∀ x ∈ u.fs, x.body.sz ≤ 100000000
/-! ### the same -/
/-! ### two units boxed -/
structure Box2 (w wr : World) (c c' : Array Value) : Prop where
 below : Below w.heap.size w wr
 a : ∀ i, wr.cell? ⟨w.heap.size, i, none⟩ = c[i]?
 b : ∀ i, wr.cell? ⟨w.heap.size + 1, i, none⟩ = c'[i]?
 size : w.heap.size + 2 ≤ wr.heap.size
theorem Box2.start (w : World) (c c' : Array Value) (t t' : TypeId) : Box2 w ((w.alloc (.cells c t)).alloc (.cells c' t')) c c' where
 below := below2 _ _ _
 a := (box_on (Below.refl _ _)).1
 b := (box_on (Below.refl _ _)).2
 size := by simp
theorem Box2.step {w wr w' : World} {c c' : Array Value} (h : Box2 w wr c c') (hb : Below wr.heap.size wr w') : Box2 w w' c c' where
 below := h.below.trans (hb.mono h.below.size)
 a := fun i => by rw [hb.cell (by have := h.size; simp; omega)]; exact h.a i
 b := fun i => by rw [hb.cell (by have := h.size; simp; omega)]; exact h.b i
 size := by have := h.size; have := hb.size; omega
theorem Box2.drew {w wr : World} {c c' : Array Value} (h : Box2 w wr c c') : Box2 w wr.drew c c' := h.step (Below.refl _ _).drew
end
section
abbrev Scope := List (ByteArray × Int)
def scv (sc : Scope) : List (ByteArray × Value) := sc.map fun x => (x.1, Value.int .u8 x.2)
theorem getM_map {α β : Type} (f : α → β) (s : ByteArray) : ∀ l : List (ByteArray × α), getM s (l.map fun x => (x.1, f x.2)) = (getM s l).map f
 | [] => rfl
 | x :: r => by
  rw [List.map_cons, getM_cons, getM_cons, getM_map f s r]
  split <;> rfl
theorem putM_map {α β : Type} (f : α → β) (s : ByteArray) (v : α) : ∀ l : List (ByteArray × α), putM s (f v) (l.map fun x => (x.1, f x.2)) = (putM s v l).map fun x => (x.1, f x.2)
 | [] => rfl
 | x :: r => by
  simp only [List.map_cons, putM, putM_map f s v r]
  split <;> simp
def seesS (s : ByteArray) (ss : List Scope) : Option Int := ss.foldl (fun a sc => match getM s sc with | some t => some t | none => a) none
theorem seesS_take {s : ByteArray} {ss : List Scope} {k : Nat} (h : k < ss.length) : seesS s (ss.take (k + 1)) = match getM s ss[k] with | some t => some t | none => seesS s (ss.take k) := by
 unfold seesS
 rw [List.take_add_one, List.getElem?_eq_getElem h]
 simp only [Option.toList_some, List.foldl_append, List.foldl_cons, List.foldl_nil]
structure ScR (w : World) (g : Nat) (ms : List Nat) (ss : List Scope) : Prop where
 cells : ∀ i (h : i < ms.length), w.cell? ⟨g, i, none⟩ = some (.map (some ms[i]))
 len : ms.length = ss.length
 maps : ∀ i (h : i < ms.length) (h2 : i < ss.length), Mp w ms[i] (scv ss[i])
theorem under194 : Tryz.prog.underlying 194 = some (.map 9 40) := by kernel_rfl
theorem under9 : Tryz.prog.underlying 9 = some .string := by kernel_rfl
theorem zero40 (w : World) : (zeroValue 40).run Tryz.prog w = .ok (.int .u8 0) w := by kernel_rfl
theorem sees170 (s : ByteArray) (g cap : Nat) (ms : List Nat) (ss : List Scope) (w : World) (h : ScR w g ms ss) (hlen : ss.length ≤ 100000000) :
  Calls Tryz.prog 170 #[.slice (some ⟨g, 0, none⟩) ss.length cap, .string s] w fun e w' => e = .returned (.tuple #[.int .u8 ((seesS s ss).getD 0), .bool (seesS s ss).isSome]) ∧ w' = w := by
 have hH := hid h
 obtain ⟨n, hn⟩ : ∃ n, n = ss.length := ⟨_, rfl⟩
 have hN := hid hn
 rw [← hn] at hlen ⊢
 clear h hn
 go_enter Tryz.func170, Tryz.ntmps170
 go_wp2_with fail
 go_loopw [6] (fun y wr => ∃ k : Nat, y = .int .i64 ((k : Int) - 1) ∧ k ≤ n ∧ seesS s (ss.take k) = seesS s ss ∧ wr = w) (fun y _ => (intOf y + 1).toNat)
 case atStart => exact ⟨n, rfl, Nat.le_refl _, by rw [hN.out, List.take_length], rfl⟩
 case round =>
  obtain ⟨k, rfl, hk, hsee, hw⟩ := hrel
  subst wr
  have hS := hid hsee
  clear hsee
  by_cases hk0 : k = 0
  ·subst k
   have hz := hid (show seesS s ss = none by rw [← hS.out]; rfl)
   clear hS
   go_wp2_with fail
   go_ret2
   rw [hz.out]
   exact ⟨rfl, rfl⟩
  ·obtain ⟨k, rfl⟩ : ∃ j, k = j + 1 := ⟨k - 1, by omega⟩
   have hl1 : k < ss.length := by have := hN.out; omega
   have hl2 : k < ms.length := by have := hH.out.len; omega
   have hc := hH.out.cells k hl2
   have hlk := (hH.out.maps k hl2 hl1).lookup under194 under9 s (.int .u8 0) (zero40 w) true
   have hst := hid (seesS_take (s := s) hl1)
   rw [scv, getM_map (Value.int .u8)] at hlk
   generalize ms[k] = m at hc hlk
   cases hg : getM s ss[k] with
   | none =>
    rw [hg] at hst hlk
    simp only [Option.map_none, Option.getD_none, Option.isSome_none, if_true] at hlk
    go_wp2_with fail
    exact ⟨⟨k, rfl, by omega, by rw [← hS.out, hst.out], trivial⟩, by simp only [intOf]; omega⟩
   | some t =>
    rw [hg] at hst hlk
    simp only [Option.map_some, Option.getD_some, Option.isSome_some, if_true] at hlk
    go_wp2_with fail
    go_ret2
    rw [← hS.out, hst.out]
    exact ⟨rfl, rfl⟩
/-! ### the names of a unit -/
structure Sig where
 params : List PW
 type : Int
 host : Int
 fn : Int
def hasN (vs : List (ByteArray × (Int × Int))) (cs : List (ByteArray × Sig)) (s : ByteArray) : Bool := (getM s vs).isSome || (getM s cs).isSome
def SigR (w : World) (g : Sig) (v : Value) : Prop := ∃ pv, v = .agg #[pv, .int .u8 g.type, .int .i64 g.host, .int .i64 g.fn] ∧ SlP w g.params pv
theorem SigR.mono {w w' : World} {g : Sig} {v : Value} (h : SigR w g v) (hb : Below w.heap.size w w') : SigR w' g v := by
 obtain ⟨pv, rfl, h2⟩ := h
 exact ⟨pv, rfl, h2.mono hb⟩
abbrev varv (x : Int × Int) : Value := .agg #[.int .u8 x.1, .int .u32 x.2]
inductive CalR (w : World) : List (ByteArray × Sig) → List (ByteArray × Value) → Prop where
 | nil : CalR w [] []
 | cons {s : ByteArray} {g : Sig} {v : Value} {r : List (ByteArray × Sig)} {l : List (ByteArray × Value)} (h : SigR w g v) (t : CalR w r l) : CalR w ((s, g) :: r) ((s, v) :: l)
theorem CalR.mono {w w' : World} {r : List (ByteArray × Sig)} {l : List (ByteArray × Value)} (h : CalR w r l) (hb : Below w.heap.size w w') : CalR w' r l := by
 induction h with
 | nil => exact .nil
 | cons h _ ih => exact .cons (h.mono hb) ih
theorem CalR.get {w : World} {r : List (ByteArray × Sig)} {l : List (ByteArray × Value)} (h : CalR w r l) (s : ByteArray) : (getM s r = none ∧ getM s l = none) ∨ ∃ g v, getM s r = some g ∧ getM s l = some v ∧ SigR w g v := by
 induction h with
 | nil => exact .inl ⟨rfl, rfl⟩
 | @cons s0 g v r l h1 _ ih =>
  rw [getM_cons, getM_cons]
  split
  ·exact .inr ⟨g, v, rfl, rfl, h1⟩
  ·exact ih
theorem CalR.put {w : World} {r : List (ByteArray × Sig)} {l : List (ByteArray × Value)} (h : CalR w r l) (s : ByteArray) {g : Sig} {v : Value} (hg : SigR w g v) : CalR w (putM s g r) (putM s v l) := by
 induction h with
 | nil => exact .cons hg .nil
 | @cons s0 g0 v0 r l h1 ht ih =>
  simp only [putM]
  split
  ·exact .cons hg ht
  ·exact .cons h1 ih
structure NmR (w : World) (vs : List (ByteArray × (Int × Int))) (cs : List (ByteArray × Sig)) (vb cb : Nat) : Prop where
 vars : Mp w vb (vs.map fun x => (x.1, varv x.2))
 calls : ∃ l, Mp w cb l ∧ CalR w cs l
theorem Mp.mono {w w' : World} {b : Nat} {l : List (ByteArray × Value)} (h : Mp w b l) (hb : Below w.heap.size w w') : Mp w' b l := by
 obtain ⟨es, c, h1, h2⟩ := h
 exact ⟨es, c, (hb.block b (lt_of_block h1)).trans h1, h2⟩
theorem NmR.mono {w w' : World} {vs : List (ByteArray × (Int × Int))} {cs : List (ByteArray × Sig)} {vb cb : Nat} (h : NmR w vs cs vb cb) (hb : Below w.heap.size w w') : NmR w' vs cs vb cb := by
 obtain ⟨h1, l, h2, h3⟩ := h
 exact ⟨h1.mono hb, l, h2.mono hb, h3.mono hb⟩
theorem under88 : Tryz.prog.underlying 88 = some (.map 9 155) := by kernel_rfl
theorem under89 : Tryz.prog.underlying 89 = some (.map 9 114) := by kernel_rfl
theorem zero155 (w : World) : (zeroValue 155).run Tryz.prog w = .ok (.agg #[.int .u8 0, .int .u32 0]) w := by kernel_rfl
theorem zero114 (w : World) : (zeroValue 114).run Tryz.prog w = .ok (.agg #[.slice none 0 0, .int .u8 0, .int .i64 0, .int .i64 0]) w := by kernel_rfl
theorem NmR.var {w : World} {vs : List (ByteArray × (Int × Int))} {cs : List (ByteArray × Sig)} {vb cb : Nat} (h : NmR w vs cs vb cb) (s : ByteArray) :
  (getM s vs = none ∧ (Instr.lookup 88 (.map (some vb)) (.string s) true).run Tryz.prog w = .ok (.tuple #[.agg #[.int .u8 0, .int .u32 0], .bool false]) w) ∨
  ∃ t n, getM s vs = some (t, n) ∧ (Instr.lookup 88 (.map (some vb)) (.string s) true).run Tryz.prog w = .ok (.tuple #[.agg #[.int .u8 t, .int .u32 n], .bool true]) w := by
 have hl := h.vars.lookup under88 under9 s _ (zero155 w) true
 rw [getM_map varv] at hl
 cases hg : getM s vs with
 | none => rw [hg] at hl; exact .inl ⟨rfl, hl⟩
 | some x => rw [hg] at hl; obtain ⟨t, n⟩ := x; exact .inr ⟨t, n, rfl, hl⟩
theorem NmR.call {w : World} {vs : List (ByteArray × (Int × Int))} {cs : List (ByteArray × Sig)} {vb cb : Nat} (h : NmR w vs cs vb cb) (s : ByteArray) :
  (getM s cs = none ∧ (Instr.lookup 89 (.map (some cb)) (.string s) true).run Tryz.prog w = .ok (.tuple #[.agg #[.slice none 0 0, .int .u8 0, .int .i64 0, .int .i64 0], .bool false]) w) ∨
  ∃ g ka kc, getM s cs = some g ∧ SlP w g.params (.slice ka g.params.length kc) ∧ (Instr.lookup 89 (.map (some cb)) (.string s) true).run Tryz.prog w = .ok (.tuple #[.agg #[.slice ka g.params.length kc, .int .u8 g.type, .int .i64 g.host, .int .i64 g.fn], .bool true]) w := by
 obtain ⟨l, h2, h3⟩ := h.calls
 have hl := h2.lookup under89 under9 s _ (zero114 w) true
 rcases h3.get s with ⟨e1, e2⟩ | ⟨g, v, e1, e2, pv, rfl, h5⟩
 ·rw [e2] at hl; exact .inl ⟨e1, hl⟩
 ·rw [e2] at hl
  have h6 := h5
  obtain ⟨ka, kb, koff, kc, rfl, -⟩ := h6
  exact .inr ⟨g, ka, kc, e1, h5, hl⟩
end
section
theorem NmR.at1 {w : World} {vs : List (ByteArray × (Int × Int))} {cs : List (ByteArray × Sig)} {vb cb : Nat} (h : NmR w vs cs vb cb) (o : Obj) : NmR (w.alloc o) vs cs vb cb := h.mono ((Below.refl w.heap.size w).alloc (Nat.le_refl _) o)
abbrev flt (e : Int) : Ending := .panicked [{ v := .iface 238 (.agg #[.int .i64 e]), recovered := false }]
def outE {α : Type} (f : α → Value) : Except Int α → Ending
 | .ok a => .returned (f a)
 | .error e => flt e
abbrev outT : Except Int Int → Ending := outE fun t => .int .u8 t
abbrev outU : Except Int Unit → Ending := outE fun _ => .tuple #[]
theorem bp_panic {P : Program} {f : Func} {R : Ending → World → Prop} {ch : List PanicEntry} {t : Array Value} {w : World} (h : R (.panicked ch) w) : bodyPost P f R (.panic ch) { tmps := t, defers := [] } w := ⟨rfl, h⟩
theorem ask_y (e : Int) (w : World) : Calls Tryz.prog 146 #[.bool true, .int .i64 e] w fun x w' => x = .returned (.tuple #[]) ∧ w' = w := by
 go_enter Tryz.func146, Tryz.ntmps146
 go_wp2
 go_end0
 exact ⟨rfl, rfl⟩
theorem ask_n (e : Int) (w : World) : Calls Tryz.prog 146 #[.bool false, .int .i64 e] w fun x w' => x = flt e ∧ w' = w := by
 go_enter Tryz.func146, Tryz.ntmps146
 go_wp2
 exact ⟨rfl, rfl, rfl⟩
theorem has73 (s : ByteArray) (vs : List (ByteArray × (Int × Int))) (cs : List (ByteArray × Sig)) (vb cb : Nat) (w : World) (h : NmR w vs cs vb cb) :
  Calls Tryz.prog 73 #[.agg #[.map (some vb), .map (some cb)], .string s] w fun e w' => e = .returned (.bool (hasN vs cs s)) ∧ Below w.heap.size w w' := by
 have h1 := h.at1 (.cells #[.map (some vb), .map (some cb)] 91)
 rcases h1.var s with ⟨e1, l1⟩ | ⟨t, n, e1, l1⟩
 ·have h2 := h1.at1 (.cells #[.int .u8 0, .int .u32 0] 155)
  rcases h2.call s with ⟨e2, l2⟩ | ⟨g, ka, kc, e2, -, l2⟩
  ·have hh := hid (show hasN vs cs s = false by unfold hasN; rw [e1, e2]; rfl)
   clear h h1 h2 e1 e2
   go_enter Tryz.func73, Tryz.ntmps73
   go_wp2_with fail
   go_ret
   rw [hh.out]
   exact ⟨rfl, by (repeat (first | exact Below.refl _ _ | refine Below.drew ?_ | refine Below.alloc ?_ (by simp <;> omega) _))⟩
  ·have hh := hid (show hasN vs cs s = true by unfold hasN; rw [e1, e2]; rfl)
   clear h h1 h2 e1 e2
   go_enter Tryz.func73, Tryz.ntmps73
   go_wp2_with fail
   go_ret
   rw [hh.out]
   exact ⟨rfl, by (repeat (first | exact Below.refl _ _ | refine Below.drew ?_ | refine Below.alloc ?_ (by simp <;> omega) _))⟩
 ·have h2 := h1.at1 (.cells #[.int .u8 t, .int .u32 n] 155)
  rcases h2.call s with ⟨e2, l2⟩ | ⟨g, ka, kc, e2, -, l2⟩
  ·have hh := hid (show hasN vs cs s = true by unfold hasN; rw [e1, e2]; rfl)
   clear h h1 h2 e1 e2
   go_enter Tryz.func73, Tryz.ntmps73
   go_wp2_with fail
   go_ret
   rw [hh.out]
   exact ⟨rfl, by (repeat (first | exact Below.refl _ _ | refine Below.drew ?_ | refine Below.alloc ?_ (by simp <;> omega) _))⟩
  ·have hh := hid (show hasN vs cs s = true by unfold hasN; rw [e1, e2]; rfl)
   clear h h1 h2 e1 e2
   go_enter Tryz.func73, Tryz.ntmps73
   go_wp2_with fail
   go_ret
   rw [hh.out]
   exact ⟨rfl, by (repeat (first | exact Below.refl _ _ | refine Below.drew ?_ | refine Below.alloc ?_ (by simp <;> omega) _))⟩
structure CkR (w : World) (vs : List (ByteArray × (Int × Int))) (cs : List (ByteArray × Sig)) (C : Nat) (ss : List Scope) (vb cb g cap : Nat) (ms : List Nat) : Prop where
 c0 : w.cell? ⟨C, 0, none⟩ = some (.map (some vb))
 c1 : w.cell? ⟨C, 1, none⟩ = some (.map (some cb))
 c2 : w.cell? ⟨C, 2, none⟩ = some (.slice (some ⟨g, 0, none⟩) ss.length cap)
 nm : NmR w vs cs vb cb
 sc : ScR w g ms ss
 le : ss.length ≤ 100000000
theorem ScR.mono {w w' : World} {g : Nat} {ms : List Nat} {ss : List Scope} (h : ScR w g ms ss) (hb : Below w.heap.size w w') : ScR w' g ms ss :=
 ⟨fun i hi => cell_on (h.cells i hi) hb, h.len, fun i h1 h2 => (h.maps i h1 h2).mono hb⟩
theorem CkR.mono {w w' : World} {vs : List (ByteArray × (Int × Int))} {cs : List (ByteArray × Sig)} {C : Nat} {ss : List Scope} {vb cb g cap : Nat} {ms : List Nat} (h : CkR w vs cs C ss vb cb g cap ms) (hb : Below w.heap.size w w') : CkR w' vs cs C ss vb cb g cap ms :=
 ⟨cell_on h.c0 hb, cell_on h.c1 hb, cell_on h.c2 hb, h.nm.mono hb, h.sc.mono hb, h.le⟩
def varT (vs : List (ByteArray × (Int × Int))) (ss : List Scope) (s : ByteArray) : Except Int Int :=
 match seesS s ss with
 | some t => .ok t
 | none => match getM s vs with
  | some (t, n) => if n = 0 then .ok t else .error 291
  | none => .error 291
def arrT (vs : List (ByteArray × (Int × Int))) (ss : List Scope) (s : ByteArray) : Except Int Int :=
 match getM s vs with
 | some (t, n) => if seesS s ss = none ∧ 0 < n then .ok t else .error 291
 | none => .error 291
theorem variable171 (s : ByteArray) (vs : List (ByteArray × (Int × Int))) (cs : List (ByteArray × Sig)) (C : Nat) (ss : List Scope) (vb cb g cap : Nat) (ms : List Nat) (w : World) (h : CkR w vs cs C ss vb cb g cap ms) :
  Calls Tryz.prog 171 #[.pointer (some ⟨C, 0, none⟩), .string s] w fun e w' => e = outT (varT vs ss s) ∧ Below w.heap.size w w' := by
 have c0 := h.c0
 have c2 := h.c2
 have cs2 := hid (sees170 s g cap ms ss w h.sc h.le)
 have HV := hid (h.nm.var s)
 have HH := hid h
 clear h
 cases hs : seesS s ss with
 | some t =>
  have hh := hid (show varT vs ss s = .ok t by unfold varT; rw [hs])
  rw [hs] at cs2
  go_enter Tryz.func171, Tryz.ntmps171
  go_wp2_with fail
  refine cs2.out.mono ?_
  rintro e w2 ⟨rfl, hw⟩
  subst w2
  clear cs2
  go_wp2_with fail
  go_ret
  rw [hh.out]
  exact ⟨rfl, Below.refl _ _⟩
 | none =>
  rw [hs] at cs2
  have c0' := hid c0
  rcases HV.out with ⟨e1, l1⟩ | ⟨t, n, e1, l1⟩
  ·have hh := hid (show varT vs ss s = .error 291 by unfold varT; rw [hs, e1])
   have c5 := hid (ask_n 291 (w.alloc (.cells #[.int .u8 0, .int .u32 0] 155)))
   clear HV e1
   go_enter Tryz.func171, Tryz.ntmps171
   go_wp2_with fail
   refine cs2.out.mono ?_
   rintro e w2 ⟨rfl, hw⟩
   subst w2
   clear cs2
   go_wp2_with fail
   (try (first | rw [show (n == 0) = false by simpa using hn] | rw [show decide (n > 0) = true by simpa using hn] | rw [show decide (n > 0) = false by simpa using hn])); refine c5.out.mono ?_
   rintro e w2 ⟨rfl, hw⟩
   subst w2
   clear c5
   go_wp2_with fail
   refine bp_panic ?_
   rw [hh.out]
   exact ⟨rfl, by (repeat (first | exact Below.refl _ _ | refine Below.drew ?_ | refine Below.alloc ?_ (by simp <;> omega) _))⟩
  ·by_cases hn : n = 0
   ·subst n
    have hh := hid (show varT vs ss s = .ok t by unfold varT; rw [hs, e1]; simp)
    have c5 := hid (ask_y 291 (w.alloc (.cells #[.int .u8 t, .int .u32 0] 155)))
    clear HV e1
    go_enter Tryz.func171, Tryz.ntmps171
    go_wp2_with fail
    refine cs2.out.mono ?_
    rintro e w2 ⟨rfl, hw⟩
    subst w2
    clear cs2
    go_wp2_with fail
    (try (first | rw [show (n == 0) = false by simpa using hn] | rw [show decide (n > 0) = true by simpa using hn] | rw [show decide (n > 0) = false by simpa using hn])); refine c5.out.mono ?_
    rintro e w2 ⟨rfl, hw⟩
    subst w2
    clear c5
    go_wp2_with fail
    go_ret
    rw [hh.out]
    exact ⟨rfl, by (repeat (first | exact Below.refl _ _ | refine Below.drew ?_ | refine Below.alloc ?_ (by simp <;> omega) _))⟩
   ·have hh := hid (show varT vs ss s = .error 291 by unfold varT; rw [hs, e1]; simp [hn])
    have c5 := hid (ask_n 291 (w.alloc (.cells #[.int .u8 t, .int .u32 n] 155)))
    clear HV e1
    go_enter Tryz.func171, Tryz.ntmps171
    go_wp2_with fail
    refine cs2.out.mono ?_
    rintro e w2 ⟨rfl, hw⟩
    subst w2
    clear cs2
    go_wp2_with fail
    (try (first | rw [show (n == 0) = false by simpa using hn] | rw [show decide (n > 0) = true by simpa using hn] | rw [show decide (n > 0) = false by simpa using hn])); refine c5.out.mono ?_
    rintro e w2 ⟨rfl, hw⟩
    subst w2
    clear c5
    go_wp2_with fail
    refine bp_panic ?_
    rw [hh.out]
    exact ⟨rfl, by (repeat (first | exact Below.refl _ _ | refine Below.drew ?_ | refine Below.alloc ?_ (by simp <;> omega) _))⟩
theorem array173 (s : ByteArray) (vs : List (ByteArray × (Int × Int))) (cs : List (ByteArray × Sig)) (C : Nat) (ss : List Scope) (vb cb g cap : Nat) (ms : List Nat) (w : World) (h : CkR w vs cs C ss vb cb g cap ms) :
  Calls Tryz.prog 173 #[.pointer (some ⟨C, 0, none⟩), .string s] w fun e w' => e = outT (arrT vs ss s) ∧ Below w.heap.size w w' := by
 have c0 := h.c0
 have c2 := h.c2
 have cs2 := hid (sees170 s g cap ms ss w h.sc h.le)
 have HV := hid (h.nm.var s)
 clear h
 rcases HV.out with ⟨e1, l1⟩ | ⟨t, n, e1, l1⟩
 ·cases hs : seesS s ss with
  | none =>
   rw [hs] at cs2
   have hh := hid (show arrT vs ss s = .error 291 by simp [arrT, e1, hs])
   have c5 := hid (ask_n 291 (w.alloc (.cells #[.int .u8 0, .int .u32 0] 155)))
   clear HV e1
   go_enter Tryz.func173, Tryz.ntmps173
   go_wp2_with fail
   refine cs2.out.mono ?_
   rintro e w2 ⟨rfl, hw⟩
   subst w2
   clear cs2
   go_wp2_with fail
   (try (first | rw [show (n == 0) = false by simpa using hn] | rw [show decide (n > 0) = true by simpa using hn] | rw [show decide (n > 0) = false by simpa using hn])); refine c5.out.mono ?_
   rintro e w2 ⟨rfl, hw⟩
   subst w2
   clear c5
   go_wp2_with fail
   refine bp_panic ?_
   rw [hh.out]
   exact ⟨rfl, by (repeat (first | exact Below.refl _ _ | refine Below.drew ?_ | refine Below.alloc ?_ (by simp <;> omega) _))⟩
  | some t0 =>
   rw [hs] at cs2
   have hh := hid (show arrT vs ss s = .error 291 by simp [arrT, e1, hs])
   have c5 := hid (ask_n 291 (w.alloc (.cells #[.int .u8 0, .int .u32 0] 155)))
   clear HV e1
   go_enter Tryz.func173, Tryz.ntmps173
   go_wp2_with fail
   refine cs2.out.mono ?_
   rintro e w2 ⟨rfl, hw⟩
   subst w2
   clear cs2
   go_wp2_with fail
   (try (first | rw [show (n == 0) = false by simpa using hn] | rw [show decide (n > 0) = true by simpa using hn] | rw [show decide (n > 0) = false by simpa using hn])); refine c5.out.mono ?_
   rintro e w2 ⟨rfl, hw⟩
   subst w2
   clear c5
   go_wp2_with fail
   refine bp_panic ?_
   rw [hh.out]
   exact ⟨rfl, by (repeat (first | exact Below.refl _ _ | refine Below.drew ?_ | refine Below.alloc ?_ (by simp <;> omega) _))⟩
 ·cases hs : seesS s ss with
  | none =>
   rw [hs] at cs2
   by_cases hn : 0 < n
   ·have hh := hid (show arrT vs ss s = .ok t by simp [arrT, e1, hs, hn])
    have c5 := hid (ask_y 291 (w.alloc (.cells #[.int .u8 t, .int .u32 n] 155)))
    clear HV e1
    go_enter Tryz.func173, Tryz.ntmps173
    go_wp2_with fail
    refine cs2.out.mono ?_
    rintro e w2 ⟨rfl, hw⟩
    subst w2
    clear cs2
    go_wp2_with fail
    (try (first | rw [show (n == 0) = false by simpa using hn] | rw [show decide (n > 0) = true by simpa using hn] | rw [show decide (n > 0) = false by simpa using hn])); refine c5.out.mono ?_
    rintro e w2 ⟨rfl, hw⟩
    subst w2
    clear c5
    go_wp2_with fail
    go_ret
    rw [hh.out]
    exact ⟨rfl, by (repeat (first | exact Below.refl _ _ | refine Below.drew ?_ | refine Below.alloc ?_ (by simp <;> omega) _))⟩
   ·have hh := hid (show arrT vs ss s = .error 291 by simp [arrT, e1, hs, hn])
    have c5 := hid (ask_n 291 (w.alloc (.cells #[.int .u8 t, .int .u32 n] 155)))
    clear HV e1
    go_enter Tryz.func173, Tryz.ntmps173
    go_wp2_with fail
    refine cs2.out.mono ?_
    rintro e w2 ⟨rfl, hw⟩
    subst w2
    clear cs2
    go_wp2_with fail
    (try (first | rw [show (n == 0) = false by simpa using hn] | rw [show decide (n > 0) = true by simpa using hn] | rw [show decide (n > 0) = false by simpa using hn])); refine c5.out.mono ?_
    rintro e w2 ⟨rfl, hw⟩
    subst w2
    clear c5
    go_wp2_with fail
    refine bp_panic ?_
    rw [hh.out]
    exact ⟨rfl, by (repeat (first | exact Below.refl _ _ | refine Below.drew ?_ | refine Below.alloc ?_ (by simp <;> omega) _))⟩
  | some t0 =>
   rw [hs] at cs2
   have hh := hid (show arrT vs ss s = .error 291 by simp [arrT, e1, hs])
   have c5 := hid (ask_n 291 (w.alloc (.cells #[.int .u8 t, .int .u32 n] 155)))
   clear HV e1
   go_enter Tryz.func173, Tryz.ntmps173
   go_wp2_with fail
   refine cs2.out.mono ?_
   rintro e w2 ⟨rfl, hw⟩
   subst w2
   clear cs2
   go_wp2_with fail
   (try (first | rw [show (n == 0) = false by simpa using hn] | rw [show decide (n > 0) = true by simpa using hn] | rw [show decide (n > 0) = false by simpa using hn])); refine c5.out.mono ?_
   rintro e w2 ⟨rfl, hw⟩
   subst w2
   clear c5
   go_wp2_with fail
   refine bp_panic ?_
   rw [hh.out]
   exact ⟨rfl, by (repeat (first | exact Below.refl _ _ | refine Below.drew ?_ | refine Below.alloc ?_ (by simp <;> omega) _))⟩
end
section
theorem hex124 (c : Nat) (hc : c < 256) (w : World) : Calls Tryz.prog 329 #[.int .u8 c] w fun e w' => (∃ d : Int, e = .returned (.int .i32 d)) ∧ w' = w := by
 go_enter Tryz.func329, Tryz.ntmps329
 go_wp2_with fail
 all_goals
  go_ret
  exact ⟨⟨_, rfl⟩, rfl⟩
def Num (s : ByteArray) (n : Nat) (w : World) (e : Ending) (w' : World) : Prop := (∃ (x : Int) (b : Bool), e = .returned (.tuple #[.int .i32 x, .bool b]) ∧ (b = true → n ≤ s.size)) ∧ w' = w
theorem number122 (s : ByteArray) (n : Nat) (w : World) (hs : s.size ≤ 1048576) (hn : n ≤ 8) : Calls Tryz.prog 322 #[.string s, .int .i64 n] w (Num s n w) := by
 go_enter Tryz.func322, Tryz.ntmps322
 by_cases hl : s.size < n
 ·go_wp2_with fail
  go_ret2
  exact ⟨⟨_, _, rfl, fun h => by cases h⟩, rfl⟩
 ·go_wp2_with fail
  go_loopw [6, 14] (fun x i wr => ∃ (k : Nat) (y : Int), x = .int .i32 y ∧ k ≤ n ∧ i = .int .i64 k ∧ wr = w) (fun _ i _ => n - (intOf i).toNat)
  case atStart => exact ⟨0, 0, rfl, Nat.zero_le _, rfl, rfl⟩
  case round =>
   obtain ⟨k, y, rfl, hk, rfl, rfl⟩ := hrel
   by_cases hkn : k < n
   ·have hcall := hex124 (s[k]'(by omega)).toNat (s[k]'(by omega)).toNat_lt wr
    go_wp2_with fail
    refine hcall.mono ?_
    rintro e w2 ⟨⟨d, rfl⟩, rfl⟩
    go_wp2_with fail
    ·go_ret2
     exact ⟨⟨_, _, rfl, fun h => by cases h⟩, rfl⟩
    ·go_roundw
     case rel => exact ⟨k + 1, _, rfl, by omega, by go_num, trivial⟩
     case measure => simp [intOf]; omega
   ·obtain rfl : k = n := by omega
    go_wp2_with fail
    go_ret2
    exact ⟨⟨_, _, rfl, fun _ => by omega⟩, rfl⟩
theorem number122' (s : ByteArray) (x : Int) (w : World) (hs : s.size ≤ 1048576) (hx : 0 ≤ x ∧ x ≤ 8) : Calls Tryz.prog 322 #[.string s, .int .i64 x] w (Num s x.toNat w) := by
 obtain ⟨n, rfl⟩ : ∃ n : Nat, x = n := ⟨x.toNat, by omega⟩
 exact number122 s n w hs (by omega)
def runeLen (r : Int) : Int := if r < 0 then -1 else if r ≤ 127 then 1 else if r ≤ 2047 then 2 else if 55296 ≤ r ∧ r ≤ 57343 then -1 else if r ≤ 65535 then 3 else if r ≤ 1114111 then 4 else -1
theorem runelen115 (r : Int) (w : World) : Calls Tryz.prog 298 #[.int .i32 r] w fun e w' => e = .returned (.int .i64 (runeLen r)) ∧ w' = w := by
 go_enter Tryz.func298, Tryz.ntmps298
 go_wp2_with fail
 all_goals
  go_ret
  exact ⟨ret_int (by unfold runeLen; repeat' split; all_goals omega), rfl⟩
def Esc (s : ByteArray) (w : World) (e : Ending) (w' : World) : Prop :=
 (∃ (c : Int) (b : Bool) (sz : Int) (ok : Bool), e = .returned (.tuple #[.agg #[.int .i32 c, .bool b, .int .i64 sz], .bool ok]) ∧ (ok = true → 2 ≤ sz ∧ sz ≤ s.size ∧ sz ≤ 6)) ∧ Below w.heap.size w w'
theorem escape114 (s : ByteArray) (w : World) (hs : s.size ≤ 1048576) : Calls Tryz.prog 297 #[.string s] w (Esc s w) := by
  have hB : ∀ o, Below w.heap.size w (w.alloc o) := fun o => (Below.refl _ _).alloc (Nat.le_refl _) o
  by_cases hl : s.size < 2
  · go_enter Tryz.func297, Tryz.ntmps297
    go_wp2_with fail
    refine ⟨rfl, ?_⟩
    simp [results, Tryz.results297, go_sem]
    exact ⟨⟨_, _, _, _, rfl, fun h => by cases h⟩, hB _⟩
  · go_enter Tryz.func297, Tryz.ntmps297
    go_wp2_with (go_at_call 322; refine (number122' _ _ _ (by simp; omega) (by omega)).mono ?_; rintro e w2 ⟨⟨x, b, rfl, hb⟩, rfl⟩)
    all_goals
      refine ⟨rfl, ?_⟩
      simp [results, Tryz.results297, go_sem]
      refine ⟨⟨_, _, _, _, rfl, fun hh => ?_⟩, hB _⟩
      first
        | omega
        | (simp at hh; done)
        | (have hbb := hb rfl
           simp at hbb
           omega)
        | (have hbb := hb (by assumption)
           simp at hbb
           omega)
end
section
open Go.Shelf
attribute [local go_sem] Oper.semAt_some
def prefixed (s p : ByteArray) : Bool := decide (p.size ≤ s.size) && ((s.extract 0 p.size).toList == p.toList)
def lostAt (s : ByteArray) (i : Nat) : Bool := (Utf8.decode s i).1 == 65533 && !prefixed (s.extract i s.size) ⟨#[239, 191, 189]⟩
def codeAt (s : ByteArray) (i : Nat) : Int := if lostAt s i then -1 - ((s.get! i).toNat : Int) else ((Utf8.decode s i).1 : Int)
def cutsN (s : ByteArray) : Nat → Nat → List (Nat × Int)
 | 0, _ => []
 | n + 1, i => if i < s.size then (i, codeAt s i) :: cutsN s n (i + (Utf8.decode s i).2) else []
def cuts (s : ByteArray) : List (Nat × Int) := cutsN s s.size 0
theorem cutsN_end (s : ByteArray) : ∀ n i, s.size ≤ i → cutsN s n i = []
 | 0, _, _ => rfl
 | n + 1, i, h => by simp only [cutsN]; rw [if_neg (by omega)]
theorem decode_wide (s : ByteArray) (i : Nat) : 1 ≤ (Utf8.decode s i).2 := by
 simp only [Utf8.decode]
 repeat' split
 all_goals simp
theorem prefix107 (s p : ByteArray) (w : World) (hs : s.size ≤ 1048576) (hp : p.size ≤ 1048576) :
  Calls Tryz.prog 277 #[.string s, .string p] w fun e w' => e = .returned (.bool (prefixed s p)) ∧ w' = w := by
 go_enter Tryz.func277, Tryz.ntmps277
 by_cases h : p.size ≤ s.size
 ·go_wp2_with fail
  go_ret
  exact ⟨ret_bool (by simp [prefixed, h]), rfl⟩
 ·go_wp2_with fail
  go_ret
  exact ⟨ret_bool (by simp [prefixed, h]), rfl⟩
theorem prefix97 (s p : ByteArray) (w : World) (hs : s.size ≤ 1048576) (hp : p.size ≤ 1048576) :
  Calls Tryz.prog 254 #[.string s, .string p] w fun e w' => e = .returned (.bool (prefixed s p)) ∧ w' = w := by
 have hc := prefix107 s p w hs hp
 go_enter Tryz.func254, Tryz.ntmps254
 go_wp2_with fail
 refine hc.mono ?_
 rintro e w2 ⟨rfl, rfl⟩
 go_wp2_with fail
 go_ret
 exact ⟨rfl, rfl⟩
theorem cutting74 (s : ByteArray) (w : World) :
  Calls Tryz.prog 228 #[.string s] w fun e w' => e = .returned (.func (.func 253) #[] #[.pointer (some ⟨w.heap.size, 0, none⟩)]) ∧ w' = w.alloc (.cells #[.string s] 9) := by
 go_enter Tryz.func228, Tryz.ntmps228
 go_wp2_with fail
 go_ret
 exact ⟨rfl, rfl⟩
theorem grown_iterAt (w : World) (k : Nat) (s : ByteArray) (pos : Nat) : w.grownBy (w.iterAt k s pos) (some k) :=
 ⟨rfl, rfl, rfl, by simp [World.iterAt], fun j _ hj => Go.Lib.iterAt_other w k j s pos (fun e => hj (by rw [e]))⟩
def Kc (n₀ : Nat) (A B : World) : Prop := Below n₀ A B ∧ KeepsWalks A B
theorem Kc.t {n₀ : Nat} {A B C : World} (h : Kc n₀ A B) (k : Kc n₀ B C) : Kc n₀ A C := ⟨h.1.trans k.1, h.2.trans k.2⟩
theorem lost_code (s : ByteArray) (pos : Nat) (hp : pos < s.size) : (if ((65533 : Nat) == 65533 && !false) = true then -1 - ((s.get! pos).toNat : Int) else ((65533 : Nat) : Int)) = wrap32 (-1 - wrap32 ((s[pos]'hp).toNat : Int)) := by
 have h1 : s.get! pos = s[pos]'hp := get_at s pos hp
 have h2 := (s[pos]'hp).toNat_lt
 rw [if_pos (by decide), h1]
 unfold wrap32
 omega
theorem cut96 (n : Nat) (hn : 1 ≤ n) (l Bn n₀ : Nat) (s : ByteArray) (hs : s.size ≤ 1048576) (J Jx : List (Nat × Int) → World → Prop) (W : World) (hJ : AbidesFrom W.heap.size J)
  (hY : ∀ pre x W1, J pre W1 → pre.length < (cuts s).length → YieldAt Fence.wide (n - 1) Tryz.prog l #[.int .i64 x.1, .int .i32 x.2] W1 fun e W' =>
   (e = .returned (.bool true) ∧ J (pre ++ [x]) W' ∧ Kc n₀ W1 W') ∨ (e = .returned (.bool false) ∧ Jx (pre ++ [x]) W'))
  (hBn : Bn < n₀) (hn0 : n₀ ≤ W.heap.size) (hc : W.cell? ⟨Bn, 0, none⟩ = some (.string s)) (h0 : J [] W) :
  CallsIn Fence.wide n Tryz.prog 253 #[.func (.yield l) #[] #[], .pointer (some ⟨Bn, 0, none⟩)] W fun e W' => (∃ v, e = .returned v) ∧
   ((∃ ys, ys = cuts s ∧ J ys W') ∨ (∃ pre, pre <+: cuts s ∧ Jx pre W')) := by
 refine callsIn_of_wp Tryz.func253 rfl trivial ?_ rfl
 simp only [Tryz.ntmps253, List.size_toArray, List.length_cons, List.length_nil, Nat.reduceAdd, Nat.reduceSub, Array.replicate_succ, Array.replicate_zero, List.push_toArray, List.append_toArray, List.nil_append, List.cons_append]
 gi_wp2
 gi_loopw [3, 4] (fun _ _ wr => ∃ (pre : List (Nat × Int)) (m pos : Nat), cuts s = pre ++ cutsN s m pos ∧ s.size ≤ m + pos ∧ wr.heap[W.heap.size]? = some (.stringIter s pos) ∧ wr.cell? ⟨Bn, 0, none⟩ = some (.string s) ∧ J pre wr ∧ W.heap.size < wr.heap.size)
  (fun _ _ wr => s.size - wr.iterPos W.heap.size)
 case atStart =>
  have hgI : W.grownBy (W.iter s 0) none := World.grownBy_alloc W _ none
  refine ⟨[], s.size, 0, rfl, by omega, World.iter_heap W s 0, hgI.cell hc (by simp), hJ [] W _ none h0 hgI (fun r e => by cases e), (Array.getElem?_eq_some_iff.1 (World.iter_heap W s 0)).1⟩
 case round =>
  obtain ⟨pre, m, pos, hx, hm, hk, hcb, hJs, hlt⟩ := hrel
  by_cases hp : pos < s.size
  ·have hnx := Go.Lib.run_next_any_at (P := Tryz.prog) wr W.heap.size s pos 0 hk hp
   have hw1 := decode_wide s pos
   obtain ⟨width, hwd⟩ : ∃ k, k = (Utf8.decode s pos).2 := ⟨_, rfl⟩
   rw [← hwd] at hw1
   rw [← hwd] at hnx
   obtain ⟨w1, hw1e⟩ : ∃ w1, w1 = wr.iterAt W.heap.size s (pos + width) := ⟨_, rfl⟩
   rw [← hw1e] at hnx
   have hg1 : wr.grownBy w1 (some W.heap.size) := by rw [hw1e]; exact grown_iterAt _ _ _ _
   have hk1 : w1.heap[W.heap.size]? = some (.stringIter s (pos + width)) := by rw [hw1e]; exact Go.Lib.iterAt_heap _ _ _ _ _ hk
   have hcb1 : w1.cell? ⟨Bn, 0, none⟩ = some (.string s) := hg1.cell hcb (by simp; omega)
   have hJ1 : J pre w1 := hJ pre wr w1 _ hJs hg1 (fun r e => by cases e; exact ⟨Nat.le_refl _, _, hk, rfl⟩)
   have hlt1 : W.heap.size < w1.heap.size := Nat.lt_of_lt_of_le hlt hg1.size
   cases m with
   | zero => omega
   | succ m =>
    have hx' := hx
    simp only [cutsN] at hx'
    rw [if_pos hp, ← hwd] at hx'
    have hlen : pre.length < (cuts s).length := by rw [hx']; simp
    have hYx := hY pre (pos, codeAt s pos) w1 hJ1 hlen
    have hNext : Hid (∀ W3, J (pre ++ [(pos, codeAt s pos)]) W3 → Kc n₀ w1 W3 → ∃ (pre' : List (Nat × Int)) (m' pos' : Nat), cuts s = pre' ++ cutsN s m' pos' ∧ s.size ≤ m' + pos' ∧ W3.heap[W.heap.size]? = some (.stringIter s pos') ∧ W3.cell? ⟨Bn, 0, none⟩ = some (.string s) ∧ J pre' W3 ∧ W.heap.size < W3.heap.size) := hid (fun W3 h3 hK => ⟨pre ++ [(pos, codeAt s pos)], m, pos + width, by simp [hx'], by omega, hK.2.same _ _ hk1 rfl, (hK.1.cell (p := ⟨Bn, 0, none⟩) hBn).trans hcb1, h3, Nat.lt_of_lt_of_le hlt1 hK.1.size⟩)
    have hMe : Hid (∀ W3, Kc n₀ w1 W3 → s.size - W3.iterPos W.heap.size < s.size - wr.iterPos W.heap.size) := hid (fun W3 hK => by rw [iterPos_of (hK.2.same _ _ hk1 rfl), iterPos_of hk]; omega)
    have hEnd : Hid ((pre ++ [(pos, codeAt s pos)]) <+: cuts s) := hid ⟨cutsN s m (pos + width), by simp [hx']⟩
    have hHas : Hid (CallsIn Fence.wide (n - 1) Tryz.prog 254 #[.string (s.extract pos s.size), .string ⟨#[239, 191, 189]⟩] w1 fun e w' => e = .returned (.bool (prefixed (s.extract pos s.size) ⟨#[239, 191, 189]⟩)) ∧ w' = w1) := hid (callsIn_wide.2 (prefix97 _ _ _ (by simp; omega) (by decide)))
    have hHid := hid (And.intro hJ hY)
    clear hJ hY hx hx' hlen hJs hcb hg1 hw1e
    by_cases hd : (Utf8.decode s pos).1 = 65533
    ·rw [hd] at hnx
     cases hpf : prefixed (s.extract pos s.size) ⟨#[239, 191, 189]⟩
     ·have hcode : codeAt s pos = wrap32 (-1 - wrap32 ((s[pos]'hp).toNat : Int)) := by simp only [codeAt, lostAt, hpf, hd]; exact lost_code s pos hp
      rw [hcode] at hYx hNext hEnd
      obtain ⟨fn, tmps, assign, body, hy, hR⟩ := hYx
      dsimp only at hy
      rw [hpf] at hHas
      gi_wp2_with (refine ⟨trivial, ?_⟩; gi_at_call 254; refine hHas.out.mono ?_; rintro e w' ⟨rfl, rfl⟩)
      refine hR.mono ?_
      rintro e W3 (⟨rfl, h3, hk3⟩ | ⟨rfl, h3⟩)
      ·gi_wp2
       go_roundw
       case rel => exact hNext.out W3 h3 hk3
       case measure => exact hMe.out W3 hk3
      ·gi_wp2
       refine bodyPost_ret (results_none rfl _ _ _) rfl ?_
       exact ⟨⟨_, rfl⟩, .inr ⟨_, hEnd.out, h3⟩⟩
     ·have hcode : codeAt s pos = 65533 := by simp [codeAt, lostAt, hpf, hd]
      rw [hcode] at hYx hNext hEnd
      obtain ⟨fn, tmps, assign, body, hy, hR⟩ := hYx
      dsimp only at hy
      rw [hpf] at hHas
      gi_wp2_with (refine ⟨trivial, ?_⟩; gi_at_call 254; refine hHas.out.mono ?_; rintro e w' ⟨rfl, rfl⟩)
      refine hR.mono ?_
      rintro e W3 (⟨rfl, h3, hk3⟩ | ⟨rfl, h3⟩)
      ·gi_wp2
       go_roundw
       case rel => exact hNext.out W3 h3 hk3
       case measure => exact hMe.out W3 hk3
      ·gi_wp2
       refine bodyPost_ret (results_none rfl _ _ _) rfl ?_
       exact ⟨⟨_, rfl⟩, .inr ⟨_, hEnd.out, h3⟩⟩
    ·have hcode : codeAt s pos = ((Utf8.decode s pos).1 : Int) := by simp [codeAt, lostAt, hd]
     rw [hcode] at hYx hNext hEnd
     obtain ⟨fn, tmps, assign, body, hy, hR⟩ := hYx
     have hdd : (((Utf8.decode s pos).1 : Int) == 65533) = false := by simp; omega
     dsimp only at hy
     gi_wp2
     refine ⟨trivial, ?_⟩
     gi_wp2
     refine hR.mono ?_
     rintro e W3 (⟨rfl, h3, hk3⟩ | ⟨rfl, h3⟩)
     ·gi_wp2
      go_roundw
      case rel => exact hNext.out W3 h3 hk3
      case measure => exact hMe.out W3 hk3
     ·gi_wp2
      refine bodyPost_ret (results_none rfl _ _ _) rfl ?_
      exact ⟨⟨_, rfl⟩, .inr ⟨_, hEnd.out, h3⟩⟩
  ·have hnx := Go.Lib.run_next_end_at (P := Tryz.prog) wr W.heap.size s pos 0 hk hp
   rw [cutsN_end s m pos (by omega), List.append_nil] at hx
   gi_wp2
   go_end0
   exact ⟨⟨_, rfl⟩, .inl ⟨pre, hx.symm, hJs⟩⟩
end
section
open Go.Shelf
attribute [local go_sem] Oper.semAt_some
def letterB (r : Int) : Bool := decide (65 ≤ r ∧ r ≤ 90) || decide (97 ≤ r ∧ r ≤ 122) || decide (192 ≤ r)
def digitB (r : Int) : Bool := decide (48 ≤ r ∧ r ≤ 57)
def nameB (r : Int) : Bool := letterB r || digitB r || r == 95
theorem letter76 (r : Int) (w : World) : Calls Tryz.prog 230 #[.int .i32 r] w fun e w' => e = .returned (.bool (letterB r)) ∧ w' = w := by
 go_enter Tryz.func230, Tryz.ntmps230
 go_wp2_with fail
 all_goals
  go_ret
  exact ⟨ret_bool (by rw [Bool.eq_iff_iff]; simp [letterB]; omega), rfl⟩
theorem digit77 (r : Int) (w : World) : Calls Tryz.prog 231 #[.int .i32 r] w fun e w' => e = .returned (.bool (digitB r)) ∧ w' = w := by
 go_enter Tryz.func231, Tryz.ntmps231
 go_wp2_with fail
 all_goals
  go_ret
  exact ⟨ret_bool (by simp [digitB]; omega), rfl⟩
theorem named75 (r : Int) (w : World) : Calls Tryz.prog 229 #[.int .i32 r] w fun e w' => e = .returned (.bool (nameB r)) ∧ w' = w := by
 have h1 := letter76 r w
 have h2 := digit77 r w
 go_enter Tryz.func229, Tryz.ntmps229
 go_wp2_with fail
 refine h1.mono ?_
 rintro e w2 ⟨rfl, rfl⟩
 cases hl : letterB r
 ·go_wp2_with fail
  refine h2.mono ?_
  rintro e w2 ⟨rfl, rfl⟩
  cases hd : digitB r
  ·go_wp2_with fail
   go_ret
   exact ⟨ret_bool (by simp [nameB, hl, hd]), rfl⟩
  ·go_wp2_with fail
   go_ret
   exact ⟨ret_bool (by simp [nameB, hl, hd]), rfl⟩
 ·go_wp2_with fail
  go_ret
  exact ⟨ret_bool (by simp [nameB, hl]), rfl⟩
theorem cut_stops (n : Nat) (hn : 1 ≤ n) (Bn n₀ : Nat) (s : ByteArray) (hs : s.size ≤ 1048576) (w : World) (hBn : Bn < n₀) (hn0 : n₀ ≤ w.heap.size) (hc : w.cell? ⟨Bn, 0, none⟩ = some (.string s)) :
  SeqStopsK Fence.wide n Tryz.prog 253 #[.pointer (some ⟨Bn, 0, none⟩)] (fun x : Nat × Int => #[.int .i64 x.1, .int .i32 x.2]) (Kc n₀) (fun ys => ys = cuts s) (fun pre => pre <+: cuts s) (cuts s).length w :=
 fun l J Jx W hW hJ _ hY h0 => cut96 n hn l Bn n₀ s hs J Jx W hJ hY hBn (Nat.le_trans hn0 hW.size) ((hW.cell (p := ⟨Bn, 0, none⟩) (Nat.lt_of_lt_of_le hBn hn0)).trans hc) h0
theorem Kc.b {n₀ : Nat} {w : World} (hn : n₀ ≤ w.heap.size) (W : World) (l : Nat) (o o' : Obj) (hl : w.heap.size ≤ l) (h : W.heap[l]? = some o) (h1 : o.isCells = false) (h2 : o.isWalk = false) : Kc n₀ W (W.putObj l o') := ⟨belowK_b hn W l o o' hl h h1 h2, walksK_b (w := w) W l o o' hl h h1 h2⟩
def stopAt (l : List (Nat × Int)) (n : Nat) : Nat := match l.find? (fun x => !nameB x.2) with
 | some x => x.1
 | none => n
theorem stop_none {l : List (Nat × Int)} {n : Nat} (h : ∀ y ∈ l, nameB y.2 = true) : stopAt l n = n := by
 unfold stopAt
 rw [List.find?_eq_none.2 (fun x hx => by simp [h x hx])]
theorem stop_at {l pre rest : List (Nat × Int)} {x : Nat × Int} {n : Nat} (hl : l = (pre ++ [x]) ++ rest) (h : ∀ y ∈ pre, nameB y.2 = true) (hx : nameB x.2 = false) : stopAt l n = x.1 := by
 subst hl
 unfold stopAt
 rw [List.append_assoc, List.find?_append, List.find?_eq_none.2 (fun y hy => by simp [h y hy])]
 simp [hx]
theorem cutsN_lt (s : ByteArray) : ∀ n i (x : Nat × Int), x ∈ cutsN s n i → x.1 < s.size
 | 0, _, _, h => by cases h
 | n + 1, i, x, h => by
  simp only [cutsN] at h
  split at h
  ·rcases List.mem_cons.1 h with rfl | h'
   ·assumption
   ·exact cutsN_lt s n _ x h'
  ·cases h
theorem cuts_lt (s : ByteArray) (x : Nat × Int) (h : x ∈ cuts s) : x.1 < s.size := cutsN_lt s _ _ x h
theorem row78 (s : ByteArray) (p : Nat) (w : World) (hs : s.size ≤ 1048576) (hp : p ≤ s.size) :
  Calls Tryz.prog 232 #[.string s, .int .i64 p, .func (.func 229) #[] #[]] w fun e w' => e = .returned (.int .i64 (p + stopAt (cuts (s.extract p s.size)) (s.size - p) : Nat)) ∧ Below w.heap.size w w' := by
 refine (callsIn_wide (n := 5)).1 ?_
 refine callsIn_of_wp_marks Tryz.func232 rfl trivial ?_ rfl
 simp only [Tryz.ntmps232, List.size_toArray, List.length_cons, List.length_nil, Nat.reduceAdd, Nat.reduceSub, Array.replicate_succ, Array.replicate_zero, List.push_toArray, List.append_toArray, List.nil_append, List.cons_append]
 gi_wp2_with (refine ⟨trivial, ?_⟩; gi_at_call 228; refine (callsIn_wide.2 (cutting74 _ _)).mono ?_; rintro e w' ⟨rfl, rfl⟩)
 obtain ⟨W0, hW0⟩ : ∃ W0, W0 = (((w.alloc (.cells #[.int .i64 p] 3)).alloc (.cells #[.func (.func 229) #[] #[]] 308)).alloc (.cells #[.int .i64 0] 3)).alloc (.cells #[.string (s.extract p s.size)] 9) := ⟨_, rfl⟩
 rw [← hW0]
 have hsz : W0.heap.size = w.heap.size + 4 := by rw [hW0]; simp
 have b4 : Boxed W0 w.heap.size 3 (.int .i64 p) := by rw [hW0]; exact (((Boxed.new w 3 _).alloc _).alloc _).alloc _
 have b5 : Boxed W0 (w.heap.size + 1) 308 (.func (.func 229) #[] #[]) := by
  rw [hW0]; have := ((Boxed.new (w.alloc (.cells #[.int .i64 p] 3)) 308 (.func (.func 229) #[] #[])).alloc (.cells #[.int .i64 0] 3)).alloc (.cells #[.string (s.extract p s.size)] 9); simpa using this
 have b6 : Boxed W0 (w.heap.size + 1 + 1) 3 (.int .i64 0) := by
  rw [hW0]; have := (Boxed.new ((w.alloc (.cells #[.int .i64 p] 3)).alloc (.cells #[.func (.func 229) #[] #[]] 308)) 3 (.int .i64 0)).alloc (.cells #[.string (s.extract p s.size)] 9); simpa using this
 have b7 : Boxed W0 (w.heap.size + 1 + 1 + 1) 9 (.string (s.extract p s.size)) := by
  rw [hW0]; have := Boxed.new (((w.alloc (.cells #[.int .i64 p] 3)).alloc (.cells #[.func (.func 229) #[] #[]] 308)).alloc (.cells #[.int .i64 0] 3)) 9 (.string (s.extract p s.size)); simpa using this
 have hB0 : Below w.heap.size w W0 := by rw [hW0]; exact ((((Below.refl _ w).alloc (Nat.le_refl _) _).alloc (by simp) _).alloc (by simp; omega) _).alloc (by simp; omega) _
 have hBox : ∀ W, Below W0.heap.size W0 W → Boxed W w.heap.size 3 (.int .i64 p) ∧ Boxed W (w.heap.size + 1) 308 (.func (.func 229) #[] #[]) ∧ Boxed W (w.heap.size + 1 + 1) 3 (.int .i64 0) := fun W h => ⟨(h.block _ (by omega)).trans b4, (h.block _ (by omega)).trans b5, (h.block _ (by omega)).trans b6⟩
 clear hW0
 refine wpIn_rangeFunc_ownF (w0 := W0) rfl (by omega) (gf := 253) (lb := #[.pointer (some ⟨w.heap.size + 1 + 1 + 1, 0, none⟩)]) rfl trivial (enters_of Tryz.func253 (by kernel_rfl) rfl)
  (cut_stops 4 (by omega) (w.heap.size + 1 + 1 + 1) W0.heap.size (s.extract p s.size) (by simp; omega) W0 (by omega) (Nat.le_refl _) b7.cell) Kc.t (Kc.b (Nat.le_refl _)) (Below.refl _ _) (fun _ => rfl)
  (fun pre W => (∀ y ∈ pre, nameB y.2 = true) ∧ Below W0.heap.size W0 W)
  (fun c pre W => ((∃ pre0 x, c = .ret ∧ pre = pre0 ++ [x] ∧ (∀ y ∈ pre0, nameB y.2 = true) ∧ nameB x.2 = false ∧ W.cell? ⟨w.heap.size + 1 + 1, 0, none⟩ = some (.int .i64 (wrap64 (p + x.1)))) ∧ Below w.heap.size w W))
  (OwnFrom.and (ownFrom_pure _ _) (ownFrom_below (Nat.le_refl _) (Nat.le_refl _)))
  (fun c => OwnFrom.and (Own.from (fun s A B row hs hg hr => by obtain ⟨q0, x, h1, h2, h3, h4, h5⟩ := hs; exact ⟨q0, x, h1, h2, h3, h4, cell_kept h5 hg hr⟩) _) (ownFrom_below (Nat.le_refl _) (by omega)))
  ⟨(fun y hy => by cases hy), Below.refl _ _⟩
  (fun x => { tmps := #[.string s, .int .i64 p, .func (.func 229) #[] #[], undef, .pointer (some ⟨w.heap.size, 0, none⟩), .pointer (some ⟨w.heap.size + 1, 0, none⟩), .pointer (some ⟨w.heap.size + 1 + 1, 0, none⟩), .int .i64 x.1, .int .i32 x.2, .string s, .int .i64 p, .string (s.extract p s.size), .func (.func 253) #[] #[.pointer (some ⟨w.heap.size + 1 + 1 + 1, 0, none⟩)], .int .i64 x.1, .int .i32 x.2, undef, undef, undef, undef, undef, undef, undef, undef, undef], defers := [] }) ?assign ?body ?done ?stop
 case assign =>
  intro l x W K hK
  gi_wp2
  exact hK
 case body =>
  rintro l pre x W ⟨hn, hB⟩ _
  obtain ⟨d4, d5, d6⟩ := hBox W hB
  have c4 := d4.cell
  have c5 := d5.cell
  have c6 := d6.cell
  have f6 := d6.frozen
  have hcall := named75 x.2 W
  cases hx : nameB x.2
  ·rw [hx] at hcall
   gi_wp2_with (refine ⟨trivial, ?_⟩; gi_at_call 229; refine (CallsIn.inRound l (callsIn_wide.2 hcall)).mono ?_; rintro e w' ⟨rfl, rfl⟩)
   exact ⟨KeepsOthers.setCell _ _ _, ⟨pre, x, rfl, rfl, hn, hx, World.cell?_setCell_same' _ _ _ (by rw [c6]; rfl)⟩, (hB0.trans (hB.mono (by omega))).setCell (by simp; omega) _⟩
  ·rw [hx] at hcall
   gi_wp2_with (refine ⟨trivial, ?_⟩; gi_at_call 229; refine (CallsIn.inRound l (callsIn_wide.2 hcall)).mono ?_; rintro e w' ⟨rfl, rfl⟩)
   refine ⟨KeepsOthers.refl _, ⟨Below.refl _ _, (KeepsOthers.refl _).walks⟩, fun y hy => ?_, hB⟩
   rcases List.mem_append.1 hy with h | h
   ·exact hn y h
   ·obtain rfl : y = x := by simpa using h
    exact hx
 case done =>
  rintro D ys W hD rfl ⟨hn, hB⟩ hK
  obtain ⟨d4, d5, d6⟩ := hBox W hB
  have c6 := d6.cell
  have f6 := d6.frozen
  gi_wp2
  have hK2 := (KeepsOthers.setCell W ⟨w.heap.size + 1 + 1, 0, none⟩ (.int .i64 s.size)).same D _ hK rfl
  have hc := cell_kept (World.cell?_setCell_same' W ⟨w.heap.size + 1 + 1, 0, none⟩ (.int .i64 s.size) (by rw [c6]; rfl)) (grownBy_putObj' _ D (.deferred none)) (fun r e => by cases e; exact ⟨_, hK2, rfl⟩)
  refine ⟨by simp, .inl ⟨_, _, rfl, run_takeDeferred hK2, ?_⟩⟩
  refine ⟨.int .i64 s.size, by simp [results, Tryz.results232, go_sem, hc], ?_, ?_⟩
  ·rw [stop_none hn]
   congr 2
   omega
  ·exact (((hB0.trans (hB.mono (by omega))).setCell (p := ⟨w.heap.size + 1 + 1, 0, none⟩) (by simp; omega) _)).trans (belowK_b (w := W0) (by omega) _ D _ _ hD hK2 rfl rfl)
 case stop =>
  rintro D c pre W hD hpre ⟨⟨pre0, x, rfl, rfl, h3, h4, h5⟩, hB⟩ hK
  gi_wp2
  obtain ⟨rest, hr⟩ := hpre
  have hx := stop_at (n := s.size - p) hr.symm h3 h4
  have hlt := cuts_lt (s.extract p s.size) x (by rw [← hr]; simp)
  have hw : wrap64 ((p : Int) + (x.1 : Int)) = ((p + x.1 : Nat) : Int) := by
   simp at hlt
   rw [show (p : Int) + (x.1 : Int) = ((p + x.1 : Nat) : Int) by omega]
   unfold wrap64
   omega
  rw [hw] at h5
  have hc := cell_kept h5 (grownBy_putObj' _ D (.deferred none)) (fun r e => by cases e; exact ⟨_, hK, rfl⟩)
  refine ⟨by simp, .inl ⟨_, _, rfl, run_takeDeferred hK, ?_⟩⟩
  refine ⟨.int .i64 ((p + x.1 : Nat) : Int), by simp [results, Tryz.results232, go_sem, hc], by rw [hx], ?_⟩
  exact hB.trans (belowK_b (w := W0) (by omega) _ D _ _ hD hK rfl rfl)
end
section
def Cnt (pb : Nat) (m : Int) (w : World) : Prop := w.heap[pb]? = some (.cells #[.int .i64 m] 3 (0, 0))
theorem Cnt.cell {pb : Nat} {m : Int} {w : World} (h : Cnt pb m w) : w.cell? ⟨pb, 0, none⟩ = some (.int .i64 m) := cell_of_one h
theorem Cnt.free {pb : Nat} {m : Int} {w : World} (h : Cnt pb m w) : w.frozen? ⟨pb, 0, none⟩ = false := free_of_one h
theorem Cnt.lt {pb : Nat} {m : Int} {w : World} (h : Cnt pb m w) : pb < w.heap.size := lt_of_block h
theorem Cnt.set {pb : Nat} {m : Int} {w : World} (h : Cnt pb m w) (x : Int) : Cnt pb x (w.setCell ⟨pb, 0, none⟩ (.int .i64 x)) := one_setCell h
theorem Cnt.alloc {pb : Nat} {m : Int} {w : World} (h : Cnt pb m w) (o : Obj) : Cnt pb m (w.alloc o) := (Below.heap_alloc _ _ _ h.lt).trans h
theorem Cnt.drew {pb : Nat} {m : Int} {w : World} (h : Cnt pb m w) : Cnt pb m w.drew := h
structure Few (w0 w : World) (pb : Nat) : Prop where
 below : Below w0.heap.size w0 w
 above : w0.heap.size ≤ pb
theorem Few.step {w0 w w' : World} {pb : Nat} (h : Few w0 w pb) (hg : w.grownBy w' (some pb)) : Few w0 w' pb :=
 ⟨h.below.grown hg h.below.size (fun k hk => by cases hk; exact h.above), h.above⟩
structure FewB (w wr : World) (c : Array Value) (x : Int) : Prop where
 few : Few w wr (w.heap.size + 1)
 cnt : Cnt (w.heap.size + 1) x wr
 box : ∀ i, wr.cell? ⟨w.heap.size, i, none⟩ = c[i]?
theorem FewB.step {w wr w' : World} {c : Array Value} {x y : Int} (h : FewB w wr c x) (hg : wr.grownBy w' (some (w.heap.size + 1))) (hc : Cnt (w.heap.size + 1) y w') : FewB w w' c y where
 few := h.few.step hg
 cnt := hc
 box := fun i => by
  have hlt : w.heap.size < wr.heap.size := by have := h.cnt.lt; omega
  rw [← h.box i]
  exact World.cell?_of_block (hg.block _ hlt (by simp))
theorem FewB.start (w : World) (c : Array Value) (t : TypeId) (x : Int) : FewB w ((w.alloc (.cells c t)).alloc (.cells #[.int .i64 x] 3)) c x where
 few := ⟨below2 _ _ _, by omega⟩
 cnt := by
  have := heap_alloc_new (w.alloc (.cells c t)) (.cells #[.int .i64 x] 3)
  simpa [Cnt] using this
 box := (box_on (Below.refl _ _)).1
end
end Go.Proofs.YtlabadkfkbenoaaGreatDoor
