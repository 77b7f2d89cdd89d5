/- Walks and plain laws, merged: EvlI IntA IntB IntM. No condition. -/
import Derived.Test.YtlabadkfkbenoaaGreatDoorKn26
import Derived.Test.YtlabadkfkbenoaaGreatDoorKn23
import Derived.Test.YtlabadkfkbenoaaGreatDoorKn02
namespace Go.Proofs.YtlabadkfkbenoaaGreatDoor
open Go.RowKit
set_option linter.unusedVariables false
set_option linter.unusedSimpArgs false
set_option maxRecDepth 100000
section
structure Inv (cf : Cf) (shp : List Nat) (m : MS) : Prop where
 steps : m.steps ≤ cf.allowed
 reps : m.reps ≤ cf.values.length
 evs : m.reps = m.evs.length
 shape : m.held.map List.length = shp
def Out.Ok {α : Type} (cf : Cf) (shp : List Nat) : Out α → Prop
 | .ok _ m => Inv cf shp m
 | .stop k x m => Inv cf shp m ∧ ((k = 2 ∧ (x = 1 ∨ x = 2)) ∨ (x = 0 ∧ ((k = 3 ∧ m.steps = cf.allowed) ∨ (k = 4 ∧ m.reps = cf.values.length) ∨ k = 5)))
 | .lost => True
theorem Out.ok_bind {α β : Type} {cf : Cf} {shp : List Nat} {o : Out α} {f : α → MS → Out β} (h : o.Ok cf shp) (hf : ∀ a m', Inv cf shp m' → (f a m').Ok cf shp) : (o.bind f).Ok cf shp := by
 cases o with
 | ok a m' => exact hf a m' h
 | stop k x m' => exact h
 | lost => trivial
theorem tick_ok {cf : Cf} {shp : List Nat} (m : MS) (hm : Inv cf shp m) : (tick cf m).Ok cf shp := by
 unfold tick
 split
 ·refine ⟨hm, .inr ⟨rfl, .inl ⟨rfl, ?_⟩⟩⟩
  have := hm.steps
  omega
 ·exact ⟨by show m.steps + 1 ≤ _; omega, hm.reps, hm.evs, hm.shape⟩
theorem set_shape (l : List (List Int)) (p i : Nat) (v : Int) : (l.set p ((l.getD p []).set i v)).map List.length = l.map List.length := by
 rw [List.map_set]
 apply List.ext_getElem?
 intro j
 rw [List.getElem?_set]
 split
 ·rename_i e
  subst e
  split
  ·rename_i h
   rw [List.length_map] at h
   rw [List.getElem?_map, List.getElem?_eq_getElem h]
   simp [List.getD, List.getElem?_eq_getElem h]
  ·rename_i h
   rw [List.getElem?_eq_none (by omega)]
 ·rfl
theorem putW_inv {cf : Cf} {shp : List Nat} (m : MS) (s : ByteArray) (i : Nat) (v : Int) (hm : Inv cf shp m) : Inv cf shp (putW cf m s i v) :=
 ⟨hm.steps, hm.reps, hm.evs, by unfold putW wordsAt; rw [set_shape]; exact hm.shape⟩
theorem writeV_inv {cf : Cf} {shp : List Nat} (fr : Fr) (m : MS) (s : ByteArray) (v : Int) (hm : Inv cf shp m) : Inv cf shp (writeV cf fr m s v).2 := by
 unfold writeV
 split
 ·exact hm
 ·exact putW_inv _ _ _ _ hm
structure Evl.Keeps (cf : Cf) (shp : List Nat) (ev : Evl) : Prop where
 E : ∀ d fr h k m, Inv cf shp m → (ev.E d fr h k m).Ok cf shp
 L : ∀ d fr l m, Inv cf shp m → (ev.L d fr l m).Ok cf shp
 W : ∀ d fr h k b m, Inv cf shp m → (ev.W d fr h k b m).Ok cf shp
 F : ∀ d g l m, Inv cf shp m → (ev.F d g l m).Ok cf shp
section
variable {cf : Cf} {shp : List Nat} {ev : Evl} (hg : ev.Keeps cf shp)
include hg
theorem evK_ok (d : Nat) (fr : Fr) (l : Exs) (i : Nat) (m : MS) (hm : Inv cf shp m) : (evK ev d fr l i m).Ok cf shp := by
 unfold evK
 split
 ·exact hg.E _ _ _ _ _ hm
 ·trivial
theorem evArgs_ok (d : Nat) (fr : Fr) : ∀ (l : Exs) (m : MS), Inv cf shp m → (evArgs ev d fr l m).Ok cf shp
 | .nil, m, hm => hm
 | .cons h k r, m, hm => Out.ok_bind (hg.E _ _ _ _ _ hm) fun v m1 hm => Out.ok_bind (evArgs_ok d fr r m1 hm) fun l m2 hm => hm
theorem exprB_ok (d : Nat) (fr : Fr) (h : EH) (k : Exs) (m : MS) (hm : Inv cf shp m) : (exprB cf ev d fr h k m).Ok cf shp := by
 unfold exprB
 split
 ·(first | exact hm | exact ⟨hm, .inl ⟨rfl, .inl rfl⟩⟩ | exact ⟨hm, .inl ⟨rfl, .inr rfl⟩⟩ | exact ⟨hm, .inr ⟨rfl, .inr (.inr rfl)⟩⟩)
 split
 ·(first | exact hm | exact ⟨hm, .inl ⟨rfl, .inl rfl⟩⟩ | exact ⟨hm, .inl ⟨rfl, .inr rfl⟩⟩ | exact ⟨hm, .inr ⟨rfl, .inr (.inr rfl)⟩⟩)
 split
 ·refine Out.ok_bind (evK_ok hg _ _ _ _ _ hm) fun i m1 hm => ?_
  split <;> (first | exact hm | exact ⟨hm, .inl ⟨rfl, .inl rfl⟩⟩ | exact ⟨hm, .inl ⟨rfl, .inr rfl⟩⟩ | exact ⟨hm, .inr ⟨rfl, .inr (.inr rfl)⟩⟩)
 split
 ·refine Out.ok_bind (evArgs_ok hg _ _ _ _ hm) fun args m1 hm => ?_
  split
  ·trivial
  ·split
   ·exact hg.F _ _ _ _ hm
   ·unfold hostV
    split
    ·rename_i hq
     refine ⟨hm, .inr ⟨rfl, .inr (.inl ⟨rfl, ?_⟩)⟩⟩
     have h1 := List.getElem?_eq_none_iff.1 hq
     have h2 := hm.reps
     omega
    ·rename_i hq
     have h1 : m1.reps < cf.values.length := by
      rcases Nat.lt_or_ge m1.reps cf.values.length with h | h
      ·exact h
      ·rw [List.getElem?_eq_none h] at hq; cases hq
     split
     ·trivial
     ·exact ⟨hm.steps, h1, by show m1.reps + 1 = (m1.evs ++ [_]).length; rw [List.length_append, hm.evs]; rfl, hm.shape⟩
 split
 ·refine Out.ok_bind (evK_ok hg _ _ _ _ _ hm) fun v m1 hm => ?_
  repeat' split
  all_goals (first | exact hm | exact ⟨hm, .inl ⟨rfl, .inl rfl⟩⟩ | exact ⟨hm, .inl ⟨rfl, .inr rfl⟩⟩ | exact ⟨hm, .inr ⟨rfl, .inr (.inr rfl)⟩⟩)
 split
 ·refine Out.ok_bind (evK_ok hg _ _ _ _ _ hm) fun a m1 hm => ?_
  split
  ·(first | exact hm | exact ⟨hm, .inl ⟨rfl, .inl rfl⟩⟩ | exact ⟨hm, .inl ⟨rfl, .inr rfl⟩⟩ | exact ⟨hm, .inr ⟨rfl, .inr (.inr rfl)⟩⟩)
  split
  ·(first | exact hm | exact ⟨hm, .inl ⟨rfl, .inl rfl⟩⟩ | exact ⟨hm, .inl ⟨rfl, .inr rfl⟩⟩ | exact ⟨hm, .inr ⟨rfl, .inr (.inr rfl)⟩⟩)
  refine Out.ok_bind (evK_ok hg _ _ _ _ _ hm) fun b m2 hm => ?_
  repeat' split
  all_goals (first | exact hm | exact ⟨hm, .inl ⟨rfl, .inl rfl⟩⟩ | exact ⟨hm, .inl ⟨rfl, .inr rfl⟩⟩ | exact ⟨hm, .inr ⟨rfl, .inr (.inr rfl)⟩⟩)
 split
 ·refine Out.ok_bind (evK_ok hg _ _ _ _ _ hm) fun v m1 hm => ?_
  repeat' split
  all_goals (first | exact hm | exact ⟨hm, .inl ⟨rfl, .inl rfl⟩⟩ | exact ⟨hm, .inl ⟨rfl, .inr rfl⟩⟩ | exact ⟨hm, .inr ⟨rfl, .inr (.inr rfl)⟩⟩)
 ·trivial
theorem setV_ok (d : Nat) (fr : Fr) (h : SH) (x : Exs) (m : MS) (hm : Inv cf shp m) : (setV cf ev d fr h x m).Ok cf shp := by
 unfold setV
 refine Out.ok_bind (evK_ok hg _ _ _ _ _ hm) fun v m1 hm => ?_
 split
 ·exact writeV_inv _ _ _ _ hm
 ·split
  ·exact writeV_inv _ _ _ _ hm
  ·(first | exact hm | exact ⟨hm, .inl ⟨rfl, .inl rfl⟩⟩ | exact ⟨hm, .inl ⟨rfl, .inr rfl⟩⟩ | exact ⟨hm, .inr ⟨rfl, .inr (.inr rfl)⟩⟩)
theorem putV_ok (d : Nat) (fr : Fr) (h : SH) (x : Exs) (m : MS) (hm : Inv cf shp m) : (putV cf ev d fr h x m).Ok cf shp := by
 unfold putV
 refine Out.ok_bind (evK_ok hg _ _ _ _ _ hm) fun i m1 hm => ?_
 split
 ·(first | exact hm | exact ⟨hm, .inl ⟨rfl, .inl rfl⟩⟩ | exact ⟨hm, .inl ⟨rfl, .inr rfl⟩⟩ | exact ⟨hm, .inr ⟨rfl, .inr (.inr rfl)⟩⟩)
 ·refine Out.ok_bind (evK_ok hg _ _ _ _ _ hm) fun v m2 hm => ?_
  split
  ·exact putW_inv _ _ _ _ hm
  ·split
   ·exact putW_inv _ _ _ _ hm
   ·(first | exact hm | exact ⟨hm, .inl ⟨rfl, .inl rfl⟩⟩ | exact ⟨hm, .inl ⟨rfl, .inr rfl⟩⟩ | exact ⟨hm, .inr ⟨rfl, .inr (.inr rfl)⟩⟩)
theorem stmtV_ok (d : Nat) (fr : Fr) (h : SH) (x : Exs) (b e : Sts) (m : MS) (hm : Inv cf shp m) : (stmtV cf ev d fr h x b e m).Ok cf shp := by
 unfold stmtV
 refine Out.ok_bind (tick_ok _ hm) fun _ m1 hm => ?_
 split
 ·exact Out.ok_bind (evK_ok hg _ _ _ _ _ hm) fun v m1 hm => hm
 split
 ·exact Out.ok_bind (setV_ok hg _ _ _ _ _ hm) fun v m1 hm => hm
 split
 ·exact Out.ok_bind (putV_ok hg _ _ _ _ _ hm) fun v m1 hm => hm
 split
 ·refine Out.ok_bind (evK_ok hg _ _ _ _ _ hm) fun v m1 hm => ?_
  split <;> exact hg.L _ _ _ _ hm
 split
 ·split
  ·exact hg.W _ _ _ _ _ _ hm
  ·trivial
 split
 ·(first | exact hm | exact ⟨hm, .inl ⟨rfl, .inl rfl⟩⟩ | exact ⟨hm, .inl ⟨rfl, .inr rfl⟩⟩ | exact ⟨hm, .inr ⟨rfl, .inr (.inr rfl)⟩⟩)
 split
 ·(first | exact hm | exact ⟨hm, .inl ⟨rfl, .inl rfl⟩⟩ | exact ⟨hm, .inl ⟨rfl, .inr rfl⟩⟩ | exact ⟨hm, .inr ⟨rfl, .inr (.inr rfl)⟩⟩)
 split
 ·exact Out.ok_bind (evK_ok hg _ _ _ _ _ hm) fun v m1 hm => hm
 split
 ·exact Out.ok_bind (evK_ok hg _ _ _ _ _ hm) fun v m1 hm => hm
 ·(first | exact hm | exact ⟨hm, .inl ⟨rfl, .inl rfl⟩⟩ | exact ⟨hm, .inl ⟨rfl, .inr rfl⟩⟩ | exact ⟨hm, .inr ⟨rfl, .inr (.inr rfl)⟩⟩)
theorem stmtsV_ok (d : Nat) : ∀ (l : Sts) (fr : Fr) (m : MS), Inv cf shp m → (stmtsV cf ev d l fr m).Ok cf shp
 | .nil, fr, m, hm => hm
 | .cons h x b e r, fr, m, hm => by
  unfold stmtsV
  refine Out.ok_bind (stmtV_ok hg _ _ _ _ _ _ _ hm) fun q m1 hm => ?_
  split
  ·exact stmtsV_ok d r _ _ hm
  ·(first | exact hm | exact ⟨hm, .inl ⟨rfl, .inl rfl⟩⟩ | exact ⟨hm, .inl ⟨rfl, .inr rfl⟩⟩ | exact ⟨hm, .inr ⟨rfl, .inr (.inr rfl)⟩⟩)
theorem whileV_ok (d : Nat) (fr : Fr) (h : EH) (k : Exs) (b : Sts) (m : MS) (hm : Inv cf shp m) : (whileV cf ev d fr h k b m).Ok cf shp := by
 unfold whileV
 refine Out.ok_bind (hg.E _ _ _ _ _ hm) fun c m1 hm => ?_
 split
 ·(first | exact hm | exact ⟨hm, .inl ⟨rfl, .inl rfl⟩⟩ | exact ⟨hm, .inl ⟨rfl, .inr rfl⟩⟩ | exact ⟨hm, .inr ⟨rfl, .inr (.inr rfl)⟩⟩)
 ·refine Out.ok_bind (hg.L _ _ _ _ hm) fun q m2 hm => ?_
  split
  ·(first | exact hm | exact ⟨hm, .inl ⟨rfl, .inl rfl⟩⟩ | exact ⟨hm, .inl ⟨rfl, .inr rfl⟩⟩ | exact ⟨hm, .inr ⟨rfl, .inr (.inr rfl)⟩⟩)
  split
  ·(first | exact hm | exact ⟨hm, .inl ⟨rfl, .inl rfl⟩⟩ | exact ⟨hm, .inl ⟨rfl, .inr rfl⟩⟩ | exact ⟨hm, .inr ⟨rfl, .inr (.inr rfl)⟩⟩)
  ·exact Out.ok_bind (tick_ok _ hm) fun _ m3 hm => hg.W _ _ _ _ _ _ hm
theorem funcV_ok (d : Nat) (g : Sig) (l : List Int) (m : MS) (hm : Inv cf shp m) : (funcV cf ev d g l m).Ok cf shp := by
 unfold funcV
 split
 ·(first | exact hm | exact ⟨hm, .inl ⟨rfl, .inl rfl⟩⟩ | exact ⟨hm, .inl ⟨rfl, .inr rfl⟩⟩ | exact ⟨hm, .inr ⟨rfl, .inr (.inr rfl)⟩⟩)
 ·split
  ·trivial
  ·exact Out.ok_bind (hg.L _ _ _ _ hm) fun q m2 hm => hm
end
theorem evl_keeps (cf : Cf) (shp : List Nat) : ∀ n, (evl cf n).Keeps cf shp
 | 0 => ⟨fun _ _ _ _ _ _ => trivial, fun _ _ _ _ _ => trivial, fun _ _ _ _ _ _ _ => trivial, fun _ _ _ _ _ => trivial⟩
 | n + 1 => ⟨fun d fr h k m hm => Out.ok_bind (tick_ok _ hm) fun _ m1 hm => exprB_ok (evl_keeps cf shp n) _ _ _ _ _ hm, fun d fr l m hm => Out.ok_bind (stmtsV_ok (evl_keeps cf shp n) _ _ _ _ hm) fun q m1 hm => hm,
  fun d fr h k b m hm => whileV_ok (evl_keeps cf shp n) _ _ _ _ _ _ hm, fun d g l m hm => funcV_ok (evl_keeps cf shp n) _ _ _ _ hm⟩
end
section
open Go.Shelf
/-! ### what is kept -/
/-- blocks ahead of n are kept but those of T -/
structure Kpt (T : Nat → Prop) (n : Nat) (w w' : World) : Prop where
 os : w'.os = w.os
 tape : w'.tape = w.tape
 output : w'.output = w.output
 size : w.heap.size ≤ w'.heap.size
 block : ∀ b, b < n → ¬ T b → w'.heap[b]? = w.heap[b]?
theorem Kpt.refl (T : Nat → Prop) (n : Nat) (w : World) : Kpt T n w w := ⟨rfl, rfl, rfl, Nat.le_refl _, fun _ _ _ => rfl⟩
theorem Kpt.trans {T : Nat → Prop} {n : Nat} {a b c : World} (h : Kpt T n a b) (k : Kpt T n b c) : Kpt T n a c :=
 ⟨k.os.trans h.os, k.tape.trans h.tape, k.output.trans h.output, Nat.le_trans h.size k.size, fun i hi ht => (k.block i hi ht).trans (h.block i hi ht)⟩
theorem Kpt.mono {T U : Nat → Prop} {n n' : Nat} {a b : World} (h : Kpt T n a b) (hn : n' ≤ n) (hT : ∀ b, b < n' → T b → U b) : Kpt U n' a b :=
 ⟨h.os, h.tape, h.output, h.size, fun i hi ht => h.block i (by omega) fun q => ht (hT i hi q)⟩
theorem Kpt.of {T : Nat → Prop} {n : Nat} {w w' : World} (h : Below n w w') : Kpt T n w w' := ⟨h.os, h.tape, h.output, h.size, fun b hb _ => h.block b hb⟩
theorem Kpt.gr {T : Nat → Prop} {n : Nat} {w w' : World} {row : Option Nat} (hg : w.grownBy w' row) (hn : n ≤ w.heap.size) (hr : ∀ k, row = some k → T k ∨ n ≤ k) : Kpt T n w w' := by
 refine ⟨hg.os, hg.tape, hg.output, hg.size, fun b hb ht => hg.block b (by omega) fun q => ?_⟩
 rcases hr b q.symm with h | h
 ·exact ht h
 ·omega
theorem Kpt.box {T : Nat → Prop} {n : Nat} {w w' : World} (h : Kpt T n w w') {q : Nat} {cs : Array Value} {t : TypeId} (hx : Bx w q cs t) (hn : q < n) (ht : ¬ T q) : Bx w' q cs t := (h.block q hn ht).trans hx
theorem Kpt.map {T : Nat → Prop} {n : Nat} {w w' : World} (h : Kpt T n w w') {b : Nat} {l : List (ByteArray × Value)} (hm : Mp w b l) (hn : b < n) (ht : ¬ T b) : Mp w' b l := by
 obtain ⟨es, c, h1, h2⟩ := hm
 exact ⟨es, c, (h.block b hn ht).trans h1, h2⟩
theorem Kpt.cells {T : Nat → Prop} {n : Nat} {w w' : World} (h : Kpt T n w w') {p : Nat → Bool} (hp : ∀ b, p b = true → b < n ∧ ¬ T b) : Cells (onlyW w p) (onlyW w' p) :=
 cells_move fun a u h1 h2 => ⟨h1, by
  have hb := h.block a.block (hp _ h1).1 (hp _ h1).2
  unfold World.cell? at h2 ⊢
  rw [hb]
  exact h2⟩
/-! ### the meaning's box -/
/-- a type of one thing: nought -/
inductive Nil0
 | mk
def Nil0.v (_ : Nil0) : Int := 0
/-- the blocks of a call -/
structure Pt where
 B : Nat
 M : Nat
 X : Nat
 vb : Nat
 cb : Nat
 pb : Nat
 kb : Nat
 kc : Nat
 vg : Value
 vh : Value
 vf : Value
 hv : Value
 vv : Value
 xs : List Value
 nms : List ByteArray
/-- the blocks that a call alters: its box, the words -/
def Pt.T (p : Pt) (b : Nat) : Prop := b = p.M ∨ ∃ x ∈ p.xs, x.ownBlock = some b
/-- the row of events, and those of their arguments -/
structure EvS where
 v : Value
 vas : List Value
/-- .. and the row of events -/
def Pt.TE (p : Pt) (ve : EvS) (b : Nat) : Prop := p.T b ∨ ve.v.ownBlock = some b
def evcells : List Ev → List Value → List Nil0 → List Value
 | a :: r, v :: vs, t :: ts => .int .u32 t.v :: .int .u32 a.number :: v :: .int .u32 a.value :: evcells r vs ts
 | _, _, _ => []
/-- events in memory, behind n -/
structure EvR (w : World) (n : Nat) (evs : List Ev) (vas : List Value) (ats : List Nil0) (ve : Value) : Prop where
 len : vas.length = evs.length
 at_ : ats.length = evs.length
 row : w.ownsRow n 127 4 ve evs.length (evcells evs vas ats)
 args : ∀ i (h : i < vas.length) (h' : i < evs.length), w.ownsRow n 52 1 vas[i] evs[i].args.length (evs[i].args.map (Value.int .u32))
/-- a call in memory, to read and write: n is where it began -/
structure MeR (p : Pt) (allowed : Nat) (n : Nat) (d : Nat) (m : MS) (ve : EvS) (w : World) : Prop where
 box : ∃ en va fa : Nil0, Bx w p.M #[.pointer (some ⟨p.X, 0, none⟩), .int .i64 allowed, p.vv, .int .u8 en.v, .int .u32 va.v, .int .u8 fa.v, .int .i64 m.steps, .int .i64 m.reps, ve.v, .int .i64 d, .map (some p.kb)] 119
 len : p.xs.length = m.held.length
 words : ∀ i (h : i < p.xs.length) (h' : i < m.held.length), w.ownsRow p.B 52 1 p.xs[i] m.held[i].length (m.held[i].map (Value.int .u32))
 nd : (p.xs.map Value.ownBlock).Nodup
 evs : ∃ ats, EvR w n m.evs ve.vas ats ve.v
 size : n ≤ w.heap.size
 mlt : p.M < n
theorem EvR.on {w w' : World} {n : Nat} {evs : List Ev} {vas : List Value} {ats : List Nil0} {ve : Value} (h : EvR w n evs vas ats ve) {row : Option Nat} (hg : w.grownBy w' row) (h1 : ve.ownBlock = none ∨ ve.ownBlock ≠ row) (h2 : ∀ x ∈ vas, x.ownBlock = none ∨ x.ownBlock ≠ row) : EvR w' n evs vas ats ve :=
 ⟨h.len, h.at_, h.row.kept hg h1, fun i q1 q2 => (h.args i q1 q2).kept hg (h2 _ (List.getElem_mem q1))⟩
/-- the box alone is altered -/
theorem MeR.turn {p : Pt} {allowed n d : Nat} {m : MS} {ve : EvS} {w w' : World} (h : MeR p allowed n d m ve w) (hg : w.grownBy w' (some p.M)) {steps d' : Nat}
  (hb : ∃ en va fa : Nil0, Bx w' p.M #[.pointer (some ⟨p.X, 0, none⟩), .int .i64 allowed, p.vv, .int .u8 en.v, .int .u32 va.v, .int .u8 fa.v, .int .i64 steps, .int .i64 m.reps, ve.v, .int .i64 d', .map (some p.kb)] 119) :
  MeR p allowed n d' { m with steps := steps } ve w' := by
 obtain ⟨en, va, fa, hx⟩ := h.box
 obtain ⟨ats, he⟩ := h.evs
 have nr : ∀ {base : Nat} {e : TypeId} {size k : Nat} {v : Value} {ys : List Value}, w.ownsRow base e size v k ys → (119 : TypeId) ≠ e → w'.ownsRow base e size v k ys := fun {base e size k v ys} hr hne =>
  hr.kept hg (.inr fun q => hx.not_row hr hne q.symm)
 exact ⟨hb, h.len, fun i h1 h2 => nr (h.words i h1 h2) (by decide), h.nd, ⟨ats, he.len, he.at_, nr he.row (by decide), fun i h1 h2 => nr (he.args i h1 h2) (by decide)⟩, Nat.le_trans h.size hg.size, h.mlt⟩
/-- blocks are made, none is altered -/
theorem MeR.below {p : Pt} {allowed n d : Nat} {m : MS} {ve : EvS} {w w' : World} (h : MeR p allowed n d m ve w) (hb : Below w.heap.size w w') : MeR p allowed n d m ve w' := by
 obtain ⟨en, va, fa, hx⟩ := h.box
 obtain ⟨ats, he⟩ := h.evs
 exact ⟨⟨en, va, fa, hx.on (grown_of_below hb) (by simp)⟩, h.len, fun i h1 h2 => ownsRow_at (h.words i h1 h2) hb, h.nd, ⟨ats, he.len, he.at_, ownsRow_at he.row hb, fun i h1 h2 => ownsRow_at (he.args i h1 h2) hb⟩, Nat.le_trans h.size hb.size, h.mlt⟩
/-- what a walk makes of the events' rows: k is what it keeps -/
def Vc (ve ve' : EvS) (k : Nat) : Prop := (ve'.v.ownBlock = ve.v.ownBlock ∨ ∃ b, ve'.v.ownBlock = some b ∧ k ≤ b) ∧ ∀ x ∈ ve'.vas, x ∈ ve.vas ∨ ∀ b, x.ownBlock = some b → k ≤ b
theorem Vc.refl (ve : EvS) (k : Nat) : Vc ve ve k := ⟨.inl rfl, fun _ h => .inl h⟩
/-- what a walk of the meaning comes to: k is what it keeps -/
def PostM (p : Pt) (allowed n d k : Nat) (ve : EvS) {α : Type} (f : α → Ending) (o : Out α) (w : World) (e : Ending) (w' : World) : Prop := match o with
 | .ok a m => e = f a ∧ ∃ ve', MeR p allowed n d m ve' w' ∧ Kpt (p.TE ve) k w w' ∧ Vc ve ve' k
 | .stop x y m => e = endE x y ∧ ∃ ve' d', MeR p allowed n d' m ve' w' ∧ Kpt (p.TE ve) k w w' ∧ Vc ve ve' k
 | .lost => True
set_option maxHeartbeats 2000000 in
theorem step116 (p : Pt) (cf : Cf) (n d : Nat) (m : MS) (ve : EvS) (w : World) (ha : cf.allowed ≤ 65536) (hs : m.steps ≤ cf.allowed) (h : MeR p cf.allowed n d m ve w) :
  Calls Tryz.prog 116 #[.pointer (some ⟨p.M, 0, none⟩)] w (PostM p cf.allowed n d w.heap.size ve (fun _ => .returned (.tuple #[])) (tick cf m) w) := by
 obtain ⟨en, va, fa, hx⟩ := h.box
 have H := hid h
 have HX := hid hx
 have p1 : w.drew.cell? ⟨p.M, 1, none⟩ = some (.int .i64 cf.allowed) := by simpa using hx.cell 1
 have p6 : w.drew.cell? ⟨p.M, 6, none⟩ = some (.int .i64 m.steps) := by simpa using hx.cell 6
 have f6 : w.drew.frozen? ⟨p.M, 6, none⟩ = false := hx.free 6
 obtain ⟨P, hP⟩ : ∃ x, x = PostM p cf.allowed n d w.heap.size ve (fun _ : Unit => Ending.returned (.tuple #[])) (tick cf m) w := ⟨_, rfl⟩
 rw [← hP]
 have HP := hid hP
 clear hP h hx
 by_cases hc : cf.allowed ≤ m.steps
 ·have hT := hid (show tick cf m = .stop 3 0 m by simp [tick, hc])
  have hcc : (cf.allowed : Int) ≤ (m.steps : Int) := by omega
  go_enter Tryz.func116, Tryz.ntmps116
  go_wp2_with fail
  go_region
  go_wp2_with fail
  refine bp_panic ?_
  rw [HP.out, hT.out]
  exact ⟨rfl, ve, d, H.out.below (Below.refl _ _).drew, Kpt.of (Below.refl _ _).drew, Vc.refl _ _⟩
 ·have hT := hid (show tick cf m = .ok () { m with steps := m.steps + 1 } by simp [tick, hc])
  have hcc : ¬ (cf.allowed : Int) ≤ (m.steps : Int) := by omega
  have hw : IntKind.i64.wrap ((m.steps : Int) + 1) = (((m.steps + 1 : Nat)) : Int) := by rw [IntWalk.i64_in _ (by omega)]; omega
  go_enter Tryz.func116, Tryz.ntmps116
  go_wp2_with fail
  go_region
  go_wp2_with fail
  go_end0
  have hg := grown_setCell w ⟨p.M, 6, none⟩ (.int .i64 ((m.steps : Int) + 1))
  have hb := (Below.refl (w.setCell ⟨p.M, 6, none⟩ (.int .i64 ((m.steps : Int) + 1))).heap.size (w.setCell ⟨p.M, 6, none⟩ (.int .i64 ((m.steps : Int) + 1)))).drew
  rw [HP.out, hT.out]
  refine ⟨rfl, ve, (H.out.turn hg ⟨en, va, fa, by simpa using HX.out.set 6 (.int .i64 ((m.steps : Int) + 1))⟩).below hb, (Kpt.gr hg (Nat.le_refl _) fun k e => by cases e; exact .inl (.inl (.inl rfl))).trans (Kpt.of (hb.mono ?_)), Vc.refl _ _⟩
  simp [World.setCell]
end
section
open Go.Shelf
/-- a scope and its boxes -/
abbrev BSc := List (ByteArray × ((Int × Int) × Nat))
abbrev ptrv (x : (Int × Int) × Nat) : Value := .pointer (some ⟨x.2, 0, none⟩)
abbrev bareSc (sc : BSc) : LSc := sc.map fun x => (x.1, x.2.1)
abbrev bareF (fb : List BSc) : Fr := fb.map bareSc
def seesB (s : ByteArray) (fb : List BSc) : Option ((Int × Int) × Nat) := fb.foldl (fun a sc => match getM s sc with | some t => some t | none => a) none
theorem seesB_take {s : ByteArray} {fb : List BSc} {k : Nat} (h : k < fb.length) : seesB s (fb.take (k + 1)) = match getM s fb[k] with | some t => some t | none => seesB s (fb.take k) := by
 unfold seesB
 rw [List.take_add_one, List.getElem?_eq_getElem h]
 simp only [Option.toList_some, List.foldl_append, List.foldl_cons, List.foldl_nil]
theorem seesB_bare (s : ByteArray) (fb : List BSc) : seesF s (bareF fb) = (seesB s fb).map (·.1) := by
 unfold seesF seesB
 suffices ∀ (fb : List BSc) (a : Option ((Int × Int) × Nat)), (bareF fb).foldl (fun a sc => match getM s sc with | some t => some t | none => a) (a.map (·.1)) = (fb.foldl (fun a sc => match getM s sc with | some t => some t | none => a) a).map (·.1) from this fb none
 intro fb
 induction fb with
 | nil => intro a; rfl
 | cons c r ih =>
  intro a
  simp only [bareF, List.map_cons, List.foldl_cons] at ih ⊢
  rw [← ih]
  congr 1
  have : getM s (bareSc c) = (getM s c).map (·.1) := getM_map (fun x : (Int × Int) × Nat => x.1) s c
  rw [this]
  cases getM s c <;> rfl
/-- a frame in memory, to read and write: behind n -/
structure FrR (w : World) (n F : Nat) (fb : List BSc) (g cap : Nat) (ms : List Nat) : Prop where
 box : Bx w F #[.slice (some ⟨g, 0, none⟩) fb.length cap] 213
 row : w.ownsRow n 210 1 (.slice (some ⟨g, 0, none⟩) fb.length cap) fb.length (ms.map fun m => .map (some m))
 len : ms.length = fb.length
 maps : ∀ i (h1 : i < ms.length) (h2 : i < fb.length), Mp w ms[i] (fb[i].map fun x => (x.1, ptrv x.2))
 boxes : ∀ sc ∈ fb, ∀ x ∈ sc, Bx w x.2.2 #[.int .u32 x.2.1.2, .int .u8 x.2.1.1] 201
 nd : ms.Nodup
 apart : (fb.flatten.map fun x => x.2.2).Nodup
 far : (∀ m ∈ ms, n ≤ m) ∧ (∀ sc ∈ fb, ∀ x ∈ sc, n ≤ x.2.2) ∧ n ≤ F
 le : fb.length ≤ 100000000
theorem getM_in {α : Type} (s : ByteArray) : ∀ (l : List (ByteArray × α)) (v : α), getM s l = some v → (s, v) ∈ l
 | [], v, h => by cases h
 | x :: l, v, h => by
  rw [getM_cons] at h
  split at h
  ·rename_i hq
   cases h
   have : s = x.1 := (Go.MapKept.bytes_beq s x.1).1 hq
   rw [this]
   simp
  ·simp [getM_in s l v h]
theorem seesB_mem {s : ByteArray} {fb : List BSc} {t : (Int × Int) × Nat} (h : seesB s fb = some t) : ∃ sc ∈ fb, (s, t) ∈ sc := by
 suffices ∀ (fb : List BSc) (a : Option ((Int × Int) × Nat)), fb.foldl (fun a sc => match getM s sc with | some t => some t | none => a) a = some t → a = some t ∨ ∃ sc ∈ fb, (s, t) ∈ sc by
  rcases this fb none h with q | q
  ·cases q
  ·exact q
 intro fb
 induction fb with
 | nil => intro a h; exact .inl h
 | cons c r ih =>
  intro a h
  simp only [List.foldl_cons] at h
  rcases ih _ h with q | ⟨sc, q1, q2⟩
  ·cases hg : getM s c with
   | none => rw [hg] at q; exact .inl q
   | some y =>
    rw [hg] at q
    cases q
    exact .inr ⟨c, by simp, getM_in s c _ hg⟩
  ·exact .inr ⟨sc, by simp [q1], q2⟩
theorem FrR.on {w w' : World} {n F : Nat} {fb : List BSc} {g cap : Nat} {ms : List Nat} (h : FrR w n F fb g cap ms) {row : Option Nat} (hg : w.grownBy w' row) (h1 : some F ≠ row) (h2 : some g ≠ row) (h3 : ∀ m ∈ ms, some m ≠ row) (h4 : ∀ sc ∈ fb, ∀ x ∈ sc, some x.2.2 ≠ row) : FrR w' n F fb g cap ms :=
 ⟨h.box.on hg h1, h.row.kept hg (.inr h2), h.len, fun i q1 q2 => (h.maps i q1 q2).on hg (h3 _ (List.getElem_mem q1)), fun sc q x q2 => (h.boxes sc q x q2).on hg (h4 sc q x q2), h.nd, h.apart, h.far, h.le⟩
theorem FrR.below {w w' : World} {n F : Nat} {fb : List BSc} {g cap : Nat} {ms : List Nat} (h : FrR w n F fb g cap ms) (hb : Below w.heap.size w w') : FrR w' n F fb g cap ms :=
 h.on (grown_of_below hb) (by simp) (by simp) (fun _ _ => by simp) (fun _ _ _ _ => by simp)
theorem under210 : Tryz.prog.underlying 210 = some (.map 9 198) := by kernel_rfl
theorem zero198 (w : World) : (zeroValue 198).run Tryz.prog w = .ok (.pointer none) w := by kernel_rfl
set_option maxHeartbeats 4000000 in
theorem find115 (s : ByteArray) (n F : Nat) (fb : List BSc) (g cap : Nat) (ms : List Nat) (w : World) (h : FrR w n F fb g cap ms) :
  Calls Tryz.prog 115 #[.pointer (some ⟨F, 0, none⟩), .string s] w fun e w' => e = .returned (((seesB s fb).map ptrv).getD (.pointer none)) ∧ w' = w := by
 have hH := hid h
 have hlen := h.le
 have hbc := h.box.cell 0
 simp at hbc
 obtain ⟨k0, hn⟩ : ∃ k, k = fb.length := ⟨_, rfl⟩
 have hN := hid hn
 rw [← hn] at hlen hbc
 clear h hn
 go_enter Tryz.func115, Tryz.ntmps115
 go_wp2_with fail
 go_loopw [5] (fun y wr => ∃ k : Nat, y = .int .i64 ((k : Int) - 1) ∧ k ≤ k0 ∧ seesB s (fb.take k) = seesB s fb ∧ wr = w) (fun y _ => (intOf y + 1).toNat)
 case atStart => exact ⟨k0, rfl, Nat.le_refl _, by rw [hN.out, List.take_length], rfl⟩
 case round =>
  obtain ⟨k, rfl, hk, hsee, hw⟩ := hrel
  subst wr
  have hS := hid hsee
  clear hsee
  by_cases hk0 : k = 0
  ·subst k
   have hz := hid (show seesB s fb = none by rw [← hS.out]; rfl)
   clear hS
   go_wp2_with fail
   go_ret
   rw [hz.out]
   exact ⟨rfl, rfl⟩
  ·obtain ⟨k, rfl⟩ : ∃ j, k = j + 1 := ⟨k - 1, by omega⟩
   have hl1 : k < fb.length := by have := hN.out; omega
   have hl2 : k < ms.length := by have := hH.out.len; omega
   have hc : w.cell? ⟨g, k, none⟩ = some (.map (some ms[k])) := by rw [hH.out.row.cellAt k (by have := hH.out.len; omega)]; simp [hl2]
   have hlk := (hH.out.maps k hl2 hl1).lookup under210 under9 s (.pointer none) (zero198 w) true
   have hst := hid (seesB_take (s := s) hl1)
   rw [getM_map ptrv] at hlk
   generalize ms[k] = m at hc hlk
   cases hg : getM s fb[k] with
   | none =>
    rw [hg] at hst hlk
    simp only [Option.map_none, Option.getD_none, Option.isSome_none, if_true] at hlk
    go_wp2_with fail
    exact ⟨⟨k, rfl, by omega, by rw [← hS.out, hst.out], trivial⟩, by simp only [intOf]; omega⟩
   | some t =>
    rw [hg] at hst hlk
    simp only [Option.map_some, Option.getD_some, Option.isSome_some, if_true] at hlk
    go_wp2_with fail
    go_ret
    rw [← hS.out, hst.out]
    exact ⟨rfl, rfl⟩
end
section
open Go.MapKept (run_checkKey run_findKey run_setObj_map IsKey heap_set)
def getI {α : Type} (k : Int) : List (Int × α) → Option α
 | [] => none
 | x :: r => if k == x.1 then some x.2 else getI k r
/-- block b is a map of these entries -/
def MpI (w : World) (b : Nat) (l : List (Int × Value)) : Prop :=
 ∃ (es : Array MapEntry) (clock : Nat), w.heap[b]? = some (.map es clock) ∧ es.toList.map (fun e => (e.key, e.val)) = l.map fun x => (Value.int .u8 x.1, x.2)
theorem MpI.new (w : World) : MpI (w.alloc (.map #[] 0)) w.heap.size [] := ⟨#[], 0, heap_alloc_new w _, rfl⟩
theorem MpI.lt {w : World} {b : Nat} {l : List (Int × Value)} (h : MpI w b l) : b < w.heap.size := by
 obtain ⟨es, c, h, _⟩ := h
 exact lt_of_block h
theorem MpI.on {w w' : World} {b : Nat} {l : List (Int × Value)} (h : MpI w b l) {row : Option Nat} (hg : w.grownBy w' row) (hn : some b ≠ row) : MpI w' b l := by
 obtain ⟨es, c, h, h2⟩ := h
 exact ⟨es, c, (hg.block b (lt_of_block h) hn).trans h, h2⟩
theorem MpI.at {w w' : World} {b : Nat} {l : List (Int × Value)} (h : MpI w b l) (e : w'.heap[b]? = w.heap[b]?) : MpI w' b l := by
 obtain ⟨es, c, h, h2⟩ := h
 exact ⟨es, c, e.trans h, h2⟩
theorem findNow_u8 (k : Int) : ∀ (es : List MapEntry) (l : List (Int × Value)) (i : Nat), es.map (fun e => (e.key, e.val)) = l.map (fun x => (Value.int .u8 x.1, x.2)) →
  ∃ r, Instr.findNow (.int .u8) (.int .u8 k) es i = some r ∧ r.map (·.2) = getI k l
 | [], [], i, _ => ⟨none, rfl, rfl⟩
 | [], x :: l, i, h => by cases h
 | e :: es, [], i, h => by cases h
 | e :: es, x :: l, i, h => by
  simp only [List.map_cons, List.cons.injEq, Prod.mk.injEq] at h
  obtain ⟨⟨h1, h2⟩, h3⟩ := h
  simp only [Instr.findNow, h1, Instr.sameNow, if_true, getI]
  cases hq : k == x.1
  ·simp only [Bool.false_eq_true, if_false]
   exact findNow_u8 k es l (i + 1) h3
  ·simp only [if_true, h2]
   exact ⟨_, rfl, rfl⟩
section
variable {P : Program} {w : World} {b : Nat} {l : List (Int × Value)} {T K E : TypeId}
theorem MpI.lookup (h : MpI w b l) (hT : P.underlying T = some (.map K E)) (hK : P.underlying K = some (.int .u8)) (k : Int) (v : Value) (hv : getI k l = some v) :
  (Instr.lookup T (.map (some b)) (.int .u8 k) false).run P w = .ok v w := by
 obtain ⟨es, c, h1, h2⟩ := h
 obtain ⟨r, hf, hr⟩ := findNow_u8 k es.toList l 0 h2
 have hck : (Instr.checkKey es.isEmpty 10000 K (.int .u8 k)).run P w = .ok () w := run_checkKey hK (k := .int .u8 k) (by simp [IsKey]) es.isEmpty 9999
 rw [hv] at hr
 cases r with
 | none => cases hr
 | some a =>
  obtain ⟨j, y⟩ := a
  simp only [Option.map_some, Option.some.injEq] at hr
  subst hr
  simp [Instr.lookup, run_underlying hT, MapKept.run_getObj_map h1, hck, run_findKey hK hf, Result.andThen]
theorem MpI.put (h : MpI w b l) (hT : P.underlying T = some (.map K E)) (hK : P.underlying K = some (.int .u8)) (k : Int) (v : Value) (hn : getI k l = none) :
  ∃ w', (Instr.mapUpdate T (.map (some b)) (.int .u8 k) v).run P w = .ok () w' ∧ w.grownBy w' (some b) ∧ w'.heap.size = w.heap.size ∧ MpI w' b (l ++ [(k, v)]) := by
 obtain ⟨es, c, h1, h2⟩ := h
 obtain ⟨r, hf, hr⟩ := findNow_u8 k es.toList l 0 h2
 have hck : (Instr.checkKey false 10000 K (.int .u8 k)).run P w = .ok () w := run_checkKey hK (k := .int .u8 k) (by simp [IsKey]) false 9999
 have hgr : ∀ o, w.grownBy { w with heap := w.heap.setIfInBounds b o } (some b) := fun o => ⟨rfl, rfl, rfl, by simp, fun i hi hn => by
  have : b ≠ i := fun q => hn (by rw [q])
  simp [this]⟩
 rw [hn] at hr
 cases r with
 | some a => cases hr
 | none =>
  refine ⟨_, by simp [Instr.mapUpdate, run_underlying hT, MapKept.run_getObj_map h1, hck, run_findKey hK hf, run_setObj_map _ h1, Result.andThen]; rfl, hgr _, by simp, ?_⟩
  refine ⟨_, _, (heap_set h1).1, ?_⟩
  simp [h2]
end
end
end Go.Proofs.YtlabadkfkbenoaaGreatDoor
