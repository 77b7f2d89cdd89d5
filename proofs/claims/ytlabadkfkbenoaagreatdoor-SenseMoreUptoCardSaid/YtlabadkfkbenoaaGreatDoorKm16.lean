/- Walks and plain laws, merged: EvlI IntA IntB IntM IntC EvlR. No condition. -/
import Derived.Test.YtlabadkfkbenoaaGreatDoorKm15
import Derived.Test.YtlabadkfkbenoaaGreatDoorKm13
import Derived.Test.YtlabadkfkbenoaaGreatDoorKm01
import Derived.Laws.FloatBits
namespace Go.Proofs.YtlabadkfkbenoaaGreatDoor
open Go.RowKit
set_option linter.unusedVariables false
set_option linter.unusedSimpArgs false
set_option maxRecDepth 100000
set_option maxHeartbeats 64000000
section
structure Inv (cf : Cf) (shp : List Nat) (m : MS) : Prop where
 steps : m.steps ≤ cf.allowed
 reps : m.reps ≤ cf.values.length
 evs : m.reps = m.evs.length
 shape : m.held.map List.length = shp
def Out.Ok {α : Type} (cf : Cf) (shp : List Nat) : Out α → Prop
 | .ok _ m => Inv cf shp m
 | .stop k x m => Inv cf shp m ∧ ((k = 2 ∧ (x = 1 ∨ x = 2)) ∨ (x = 0 ∧ ((k = 3 ∧ m.steps = cf.allowed) ∨ (k = 4 ∧ m.reps = cf.values.length) ∨ k = 5)))
 | .lost => True
theorem Out.ok_bind {α β : Type} {cf : Cf} {shp : List Nat} {o : Out α} {f : α → MS → Out β} (h : o.Ok cf shp) (hf : ∀ a m', Inv cf shp m' → (f a m').Ok cf shp) : (o.bind f).Ok cf shp := by
 cases o with
 | ok a m' => exact hf a m' h
 | stop k x m' => exact h
 | lost => trivial
theorem tick_ok {cf : Cf} {shp : List Nat} (m : MS) (hm : Inv cf shp m) : (tick cf m).Ok cf shp := by
 unfold tick
 split
 ·refine ⟨hm, .inr ⟨rfl, .inl ⟨rfl, ?_⟩⟩⟩
  have := hm.steps
  omega
 ·exact ⟨by show m.steps + 1 ≤ _; omega, hm.reps, hm.evs, hm.shape⟩
theorem set_shape (l : List (List Int)) (p i : Nat) (v : Int) : (l.set p ((l.getD p []).set i v)).map List.length = l.map List.length := by
 rw [List.map_set]
 apply List.ext_getElem?
 intro j
 rw [List.getElem?_set]
 split
 ·rename_i e
  subst e
  split
  ·rename_i h
   rw [List.length_map] at h
   rw [List.getElem?_map, List.getElem?_eq_getElem h]
   simp [List.getD, List.getElem?_eq_getElem h]
  ·rename_i h
   rw [List.getElem?_eq_none (by omega)]
 ·rfl
theorem putW_inv {cf : Cf} {shp : List Nat} (m : MS) (s : ByteArray) (i : Nat) (v : Int) (hm : Inv cf shp m) : Inv cf shp (putW cf m s i v) :=
 ⟨hm.steps, hm.reps, hm.evs, by unfold putW wordsAt; rw [set_shape]; exact hm.shape⟩
theorem writeV_inv {cf : Cf} {shp : List Nat} (fr : Fr) (m : MS) (s : ByteArray) (v : Int) (hm : Inv cf shp m) : Inv cf shp (writeV cf fr m s v).2 := by
 unfold writeV
 split
 ·exact hm
 ·exact putW_inv _ _ _ _ hm
structure Evl.Keeps (cf : Cf) (shp : List Nat) (ev : Evl) : Prop where
 E : ∀ d fr h k m, Inv cf shp m → (ev.E d fr h k m).Ok cf shp
 L : ∀ d fr l m, Inv cf shp m → (ev.L d fr l m).Ok cf shp
 W : ∀ d fr h k b m, Inv cf shp m → (ev.W d fr h k b m).Ok cf shp
 F : ∀ d g l m, Inv cf shp m → (ev.F d g l m).Ok cf shp
section
variable {cf : Cf} {shp : List Nat} {ev : Evl} (hg : ev.Keeps cf shp)
include hg
theorem evK_ok (d : Nat) (fr : Fr) (l : Exs) (i : Nat) (m : MS) (hm : Inv cf shp m) : (evK ev d fr l i m).Ok cf shp := by
 unfold evK
 split
 ·exact hg.E _ _ _ _ _ hm
 ·trivial
theorem evArgs_ok (d : Nat) (fr : Fr) : ∀ (l : Exs) (m : MS), Inv cf shp m → (evArgs ev d fr l m).Ok cf shp
 | .nil, m, hm => hm
 | .cons h k r, m, hm => Out.ok_bind (hg.E _ _ _ _ _ hm) fun v m1 hm => Out.ok_bind (evArgs_ok d fr r m1 hm) fun l m2 hm => hm
theorem exprB_ok (d : Nat) (fr : Fr) (h : EH) (k : Exs) (m : MS) (hm : Inv cf shp m) : (exprB cf ev d fr h k m).Ok cf shp := by
 unfold exprB
 split
 ·(first | exact hm | exact ⟨hm, .inl ⟨rfl, .inl rfl⟩⟩ | exact ⟨hm, .inl ⟨rfl, .inr rfl⟩⟩ | exact ⟨hm, .inr ⟨rfl, .inr (.inr rfl)⟩⟩)
 split
 ·(first | exact hm | exact ⟨hm, .inl ⟨rfl, .inl rfl⟩⟩ | exact ⟨hm, .inl ⟨rfl, .inr rfl⟩⟩ | exact ⟨hm, .inr ⟨rfl, .inr (.inr rfl)⟩⟩)
 split
 ·refine Out.ok_bind (evK_ok hg _ _ _ _ _ hm) fun i m1 hm => ?_
  split <;> (first | exact hm | exact ⟨hm, .inl ⟨rfl, .inl rfl⟩⟩ | exact ⟨hm, .inl ⟨rfl, .inr rfl⟩⟩ | exact ⟨hm, .inr ⟨rfl, .inr (.inr rfl)⟩⟩)
 split
 ·refine Out.ok_bind (evArgs_ok hg _ _ _ _ hm) fun args m1 hm => ?_
  split
  ·trivial
  ·split
   ·exact hg.F _ _ _ _ hm
   ·unfold hostV
    split
    ·rename_i hq
     refine ⟨hm, .inr ⟨rfl, .inr (.inl ⟨rfl, ?_⟩)⟩⟩
     have h1 := List.getElem?_eq_none_iff.1 hq
     have h2 := hm.reps
     omega
    ·rename_i hq
     have h1 : m1.reps < cf.values.length := by
      rcases Nat.lt_or_ge m1.reps cf.values.length with h | h
      ·exact h
      ·rw [List.getElem?_eq_none h] at hq; cases hq
     split
     ·trivial
     ·exact ⟨hm.steps, h1, by show m1.reps + 1 = (m1.evs ++ [_]).length; rw [List.length_append, hm.evs]; rfl, hm.shape⟩
 split
 ·refine Out.ok_bind (evK_ok hg _ _ _ _ _ hm) fun v m1 hm => ?_
  repeat' split
  all_goals (first | exact hm | exact ⟨hm, .inl ⟨rfl, .inl rfl⟩⟩ | exact ⟨hm, .inl ⟨rfl, .inr rfl⟩⟩ | exact ⟨hm, .inr ⟨rfl, .inr (.inr rfl)⟩⟩)
 split
 ·refine Out.ok_bind (evK_ok hg _ _ _ _ _ hm) fun a m1 hm => ?_
  split
  ·(first | exact hm | exact ⟨hm, .inl ⟨rfl, .inl rfl⟩⟩ | exact ⟨hm, .inl ⟨rfl, .inr rfl⟩⟩ | exact ⟨hm, .inr ⟨rfl, .inr (.inr rfl)⟩⟩)
  split
  ·(first | exact hm | exact ⟨hm, .inl ⟨rfl, .inl rfl⟩⟩ | exact ⟨hm, .inl ⟨rfl, .inr rfl⟩⟩ | exact ⟨hm, .inr ⟨rfl, .inr (.inr rfl)⟩⟩)
  refine Out.ok_bind (evK_ok hg _ _ _ _ _ hm) fun b m2 hm => ?_
  repeat' split
  all_goals (first | exact hm | exact ⟨hm, .inl ⟨rfl, .inl rfl⟩⟩ | exact ⟨hm, .inl ⟨rfl, .inr rfl⟩⟩ | exact ⟨hm, .inr ⟨rfl, .inr (.inr rfl)⟩⟩)
 split
 ·refine Out.ok_bind (evK_ok hg _ _ _ _ _ hm) fun v m1 hm => ?_
  repeat' split
  all_goals (first | exact hm | exact ⟨hm, .inl ⟨rfl, .inl rfl⟩⟩ | exact ⟨hm, .inl ⟨rfl, .inr rfl⟩⟩ | exact ⟨hm, .inr ⟨rfl, .inr (.inr rfl)⟩⟩)
 ·trivial
theorem setV_ok (d : Nat) (fr : Fr) (h : SH) (x : Exs) (m : MS) (hm : Inv cf shp m) : (setV cf ev d fr h x m).Ok cf shp := by
 unfold setV
 refine Out.ok_bind (evK_ok hg _ _ _ _ _ hm) fun v m1 hm => ?_
 split
 ·exact writeV_inv _ _ _ _ hm
 ·split
  ·exact writeV_inv _ _ _ _ hm
  ·(first | exact hm | exact ⟨hm, .inl ⟨rfl, .inl rfl⟩⟩ | exact ⟨hm, .inl ⟨rfl, .inr rfl⟩⟩ | exact ⟨hm, .inr ⟨rfl, .inr (.inr rfl)⟩⟩)
theorem putV_ok (d : Nat) (fr : Fr) (h : SH) (x : Exs) (m : MS) (hm : Inv cf shp m) : (putV cf ev d fr h x m).Ok cf shp := by
 unfold putV
 refine Out.ok_bind (evK_ok hg _ _ _ _ _ hm) fun i m1 hm => ?_
 split
 ·(first | exact hm | exact ⟨hm, .inl ⟨rfl, .inl rfl⟩⟩ | exact ⟨hm, .inl ⟨rfl, .inr rfl⟩⟩ | exact ⟨hm, .inr ⟨rfl, .inr (.inr rfl)⟩⟩)
 ·refine Out.ok_bind (evK_ok hg _ _ _ _ _ hm) fun v m2 hm => ?_
  split
  ·exact putW_inv _ _ _ _ hm
  ·split
   ·exact putW_inv _ _ _ _ hm
   ·(first | exact hm | exact ⟨hm, .inl ⟨rfl, .inl rfl⟩⟩ | exact ⟨hm, .inl ⟨rfl, .inr rfl⟩⟩ | exact ⟨hm, .inr ⟨rfl, .inr (.inr rfl)⟩⟩)
theorem stmtV_ok (d : Nat) (fr : Fr) (h : SH) (x : Exs) (b e : Sts) (m : MS) (hm : Inv cf shp m) : (stmtV cf ev d fr h x b e m).Ok cf shp := by
 unfold stmtV
 refine Out.ok_bind (tick_ok _ hm) fun _ m1 hm => ?_
 split
 ·exact Out.ok_bind (evK_ok hg _ _ _ _ _ hm) fun v m1 hm => hm
 split
 ·exact Out.ok_bind (setV_ok hg _ _ _ _ _ hm) fun v m1 hm => hm
 split
 ·exact Out.ok_bind (putV_ok hg _ _ _ _ _ hm) fun v m1 hm => hm
 split
 ·refine Out.ok_bind (evK_ok hg _ _ _ _ _ hm) fun v m1 hm => ?_
  split <;> exact hg.L _ _ _ _ hm
 split
 ·split
  ·exact hg.W _ _ _ _ _ _ hm
  ·trivial
 split
 ·(first | exact hm | exact ⟨hm, .inl ⟨rfl, .inl rfl⟩⟩ | exact ⟨hm, .inl ⟨rfl, .inr rfl⟩⟩ | exact ⟨hm, .inr ⟨rfl, .inr (.inr rfl)⟩⟩)
 split
 ·(first | exact hm | exact ⟨hm, .inl ⟨rfl, .inl rfl⟩⟩ | exact ⟨hm, .inl ⟨rfl, .inr rfl⟩⟩ | exact ⟨hm, .inr ⟨rfl, .inr (.inr rfl)⟩⟩)
 split
 ·exact Out.ok_bind (evK_ok hg _ _ _ _ _ hm) fun v m1 hm => hm
 split
 ·exact Out.ok_bind (evK_ok hg _ _ _ _ _ hm) fun v m1 hm => hm
 ·(first | exact hm | exact ⟨hm, .inl ⟨rfl, .inl rfl⟩⟩ | exact ⟨hm, .inl ⟨rfl, .inr rfl⟩⟩ | exact ⟨hm, .inr ⟨rfl, .inr (.inr rfl)⟩⟩)
theorem stmtsV_ok (d : Nat) : ∀ (l : Sts) (fr : Fr) (m : MS), Inv cf shp m → (stmtsV cf ev d l fr m).Ok cf shp
 | .nil, fr, m, hm => hm
 | .cons h x b e r, fr, m, hm => by
  unfold stmtsV
  refine Out.ok_bind (stmtV_ok hg _ _ _ _ _ _ _ hm) fun q m1 hm => ?_
  split
  ·exact stmtsV_ok d r _ _ hm
  ·(first | exact hm | exact ⟨hm, .inl ⟨rfl, .inl rfl⟩⟩ | exact ⟨hm, .inl ⟨rfl, .inr rfl⟩⟩ | exact ⟨hm, .inr ⟨rfl, .inr (.inr rfl)⟩⟩)
theorem whileV_ok (d : Nat) (fr : Fr) (h : EH) (k : Exs) (b : Sts) (m : MS) (hm : Inv cf shp m) : (whileV cf ev d fr h k b m).Ok cf shp := by
 unfold whileV
 refine Out.ok_bind (hg.E _ _ _ _ _ hm) fun c m1 hm => ?_
 split
 ·(first | exact hm | exact ⟨hm, .inl ⟨rfl, .inl rfl⟩⟩ | exact ⟨hm, .inl ⟨rfl, .inr rfl⟩⟩ | exact ⟨hm, .inr ⟨rfl, .inr (.inr rfl)⟩⟩)
 ·refine Out.ok_bind (hg.L _ _ _ _ hm) fun q m2 hm => ?_
  split
  ·(first | exact hm | exact ⟨hm, .inl ⟨rfl, .inl rfl⟩⟩ | exact ⟨hm, .inl ⟨rfl, .inr rfl⟩⟩ | exact ⟨hm, .inr ⟨rfl, .inr (.inr rfl)⟩⟩)
  split
  ·(first | exact hm | exact ⟨hm, .inl ⟨rfl, .inl rfl⟩⟩ | exact ⟨hm, .inl ⟨rfl, .inr rfl⟩⟩ | exact ⟨hm, .inr ⟨rfl, .inr (.inr rfl)⟩⟩)
  ·exact Out.ok_bind (tick_ok _ hm) fun _ m3 hm => hg.W _ _ _ _ _ _ hm
theorem funcV_ok (d : Nat) (g : Sig) (l : List Int) (m : MS) (hm : Inv cf shp m) : (funcV cf ev d g l m).Ok cf shp := by
 unfold funcV
 split
 ·(first | exact hm | exact ⟨hm, .inl ⟨rfl, .inl rfl⟩⟩ | exact ⟨hm, .inl ⟨rfl, .inr rfl⟩⟩ | exact ⟨hm, .inr ⟨rfl, .inr (.inr rfl)⟩⟩)
 ·split
  ·trivial
  ·exact Out.ok_bind (hg.L _ _ _ _ hm) fun q m2 hm => hm
end
theorem evl_keeps (cf : Cf) (shp : List Nat) : ∀ n, (evl cf n).Keeps cf shp
 | 0 => ⟨fun _ _ _ _ _ _ => trivial, fun _ _ _ _ _ => trivial, fun _ _ _ _ _ _ _ => trivial, fun _ _ _ _ _ => trivial⟩
 | n + 1 => ⟨fun d fr h k m hm => Out.ok_bind (tick_ok _ hm) fun _ m1 hm => exprB_ok (evl_keeps cf shp n) _ _ _ _ _ hm, fun d fr l m hm => Out.ok_bind (stmtsV_ok (evl_keeps cf shp n) _ _ _ _ hm) fun q m1 hm => hm,
  fun d fr h k b m hm => whileV_ok (evl_keeps cf shp n) _ _ _ _ _ _ hm, fun d g l m hm => funcV_ok (evl_keeps cf shp n) _ _ _ _ hm⟩
end
section
open Go.Shelf
/-! ### what is kept -/
structure Kpt (T : Nat → Prop) (n : Nat) (w w' : World) : Prop where
 os : w'.os = w.os
 tape : w'.tape = w.tape
 output : w'.output = w.output
 size : w.heap.size ≤ w'.heap.size
 block : ∀ b, b < n → ¬ T b → w'.heap[b]? = w.heap[b]?
theorem Kpt.refl (T : Nat → Prop) (n : Nat) (w : World) : Kpt T n w w := ⟨rfl, rfl, rfl, Nat.le_refl _, fun _ _ _ => rfl⟩
theorem Kpt.trans {T : Nat → Prop} {n : Nat} {a b c : World} (h : Kpt T n a b) (k : Kpt T n b c) : Kpt T n a c :=
 ⟨k.os.trans h.os, k.tape.trans h.tape, k.output.trans h.output, Nat.le_trans h.size k.size, fun i hi ht => (k.block i hi ht).trans (h.block i hi ht)⟩
theorem Kpt.mono {T U : Nat → Prop} {n n' : Nat} {a b : World} (h : Kpt T n a b) (hn : n' ≤ n) (hT : ∀ b, b < n' → T b → U b) : Kpt U n' a b :=
 ⟨h.os, h.tape, h.output, h.size, fun i hi ht => h.block i (by omega) fun q => ht (hT i hi q)⟩
theorem Kpt.of {T : Nat → Prop} {n : Nat} {w w' : World} (h : Below n w w') : Kpt T n w w' := ⟨h.os, h.tape, h.output, h.size, fun b hb _ => h.block b hb⟩
theorem Kpt.gr {T : Nat → Prop} {n : Nat} {w w' : World} {row : Option Nat} (hg : w.grownBy w' row) (hn : n ≤ w.heap.size) (hr : ∀ k, row = some k → T k ∨ n ≤ k) : Kpt T n w w' := by
 refine ⟨hg.os, hg.tape, hg.output, hg.size, fun b hb ht => hg.block b (by omega) fun q => ?_⟩
 rcases hr b q.symm with h | h
 ·exact ht h
 ·omega
theorem Kpt.box {T : Nat → Prop} {n : Nat} {w w' : World} (h : Kpt T n w w') {q : Nat} {cs : Array Value} {t : TypeId} (hx : Bx w q cs t) (hn : q < n) (ht : ¬ T q) : Bx w' q cs t := (h.block q hn ht).trans hx
theorem Kpt.map {T : Nat → Prop} {n : Nat} {w w' : World} (h : Kpt T n w w') {b : Nat} {l : List (ByteArray × Value)} (hm : Mp w b l) (hn : b < n) (ht : ¬ T b) : Mp w' b l := by
 obtain ⟨es, c, h1, h2⟩ := hm
 exact ⟨es, c, (h.block b hn ht).trans h1, h2⟩
theorem Kpt.cells {T : Nat → Prop} {n : Nat} {w w' : World} (h : Kpt T n w w') {p : Nat → Bool} (hp : ∀ b, p b = true → b < n ∧ ¬ T b) : Cells (onlyW w p) (onlyW w' p) :=
 cells_move fun a u h1 h2 => ⟨h1, by
  have hb := h.block a.block (hp _ h1).1 (hp _ h1).2
  unfold World.cell? at h2 ⊢
  rw [hb]
  exact h2⟩
/-! ### the meaning's box -/
inductive Nil0
 | mk
def Nil0.v (_ : Nil0) : Int := 0
structure Pt where
 B : Nat
 M : Nat
 X : Nat
 vb : Nat
 cb : Nat
 pb : Nat
 kb : Nat
 kc : Nat
 vg : Value
 vh : Value
 vf : Value
 hv : Value
 vv : Value
 xs : List Value
 nms : List ByteArray
def Pt.T (p : Pt) (b : Nat) : Prop := b = p.M ∨ ∃ x ∈ p.xs, x.ownBlock = some b
structure EvS where
 v : Value
 vas : List Value
def Pt.TE (p : Pt) (ve : EvS) (b : Nat) : Prop := p.T b ∨ ve.v.ownBlock = some b
def evcells : List Ev → List Value → List Nil0 → List Value
 | a :: r, v :: vs, t :: ts => .int .u32 t.v :: .int .u32 a.number :: v :: .int .u32 a.value :: evcells r vs ts
 | _, _, _ => []
structure EvR (w : World) (n : Nat) (evs : List Ev) (vas : List Value) (ats : List Nil0) (ve : Value) : Prop where
 len : vas.length = evs.length
 at_ : ats.length = evs.length
 row : w.ownsRow n 127 4 ve evs.length (evcells evs vas ats)
 args : ∀ i (h : i < vas.length) (h' : i < evs.length), w.ownsRow n 52 1 vas[i] evs[i].args.length (evs[i].args.map (Value.int .u32))
structure MeR (p : Pt) (allowed : Nat) (n : Nat) (d : Nat) (m : MS) (ve : EvS) (w : World) : Prop where
 box : ∃ en va fa : Nil0, Bx w p.M #[.pointer (some ⟨p.X, 0, none⟩), .int .i64 allowed, p.vv, .int .u8 en.v, .int .u32 va.v, .int .u8 fa.v, .int .i64 m.steps, .int .i64 m.reps, ve.v, .int .i64 d, .map (some p.kb)] 119
 len : p.xs.length = m.held.length
 words : ∀ i (h : i < p.xs.length) (h' : i < m.held.length), w.ownsRow p.B 52 1 p.xs[i] m.held[i].length (m.held[i].map (Value.int .u32))
 nd : (p.xs.map Value.ownBlock).Nodup
 evs : ∃ ats, EvR w n m.evs ve.vas ats ve.v
 size : n ≤ w.heap.size
 mlt : p.M < n
theorem EvR.on {w w' : World} {n : Nat} {evs : List Ev} {vas : List Value} {ats : List Nil0} {ve : Value} (h : EvR w n evs vas ats ve) {row : Option Nat} (hg : w.grownBy w' row) (h1 : ve.ownBlock = none ∨ ve.ownBlock ≠ row) (h2 : ∀ x ∈ vas, x.ownBlock = none ∨ x.ownBlock ≠ row) : EvR w' n evs vas ats ve :=
 ⟨h.len, h.at_, h.row.kept hg h1, fun i q1 q2 => (h.args i q1 q2).kept hg (h2 _ (List.getElem_mem q1))⟩
theorem MeR.turn {p : Pt} {allowed n d : Nat} {m : MS} {ve : EvS} {w w' : World} (h : MeR p allowed n d m ve w) (hg : w.grownBy w' (some p.M)) {steps d' : Nat}
  (hb : ∃ en va fa : Nil0, Bx w' p.M #[.pointer (some ⟨p.X, 0, none⟩), .int .i64 allowed, p.vv, .int .u8 en.v, .int .u32 va.v, .int .u8 fa.v, .int .i64 steps, .int .i64 m.reps, ve.v, .int .i64 d', .map (some p.kb)] 119) :
  MeR p allowed n d' { m with steps := steps } ve w' := by
 obtain ⟨en, va, fa, hx⟩ := h.box
 obtain ⟨ats, he⟩ := h.evs
 have nr : ∀ {base : Nat} {e : TypeId} {size k : Nat} {v : Value} {ys : List Value}, w.ownsRow base e size v k ys → (119 : TypeId) ≠ e → w'.ownsRow base e size v k ys := fun {base e size k v ys} hr hne =>
  hr.kept hg (.inr fun q => hx.not_row hr hne q.symm)
 exact ⟨hb, h.len, fun i h1 h2 => nr (h.words i h1 h2) (by decide), h.nd, ⟨ats, he.len, he.at_, nr he.row (by decide), fun i h1 h2 => nr (he.args i h1 h2) (by decide)⟩, Nat.le_trans h.size hg.size, h.mlt⟩
theorem MeR.below {p : Pt} {allowed n d : Nat} {m : MS} {ve : EvS} {w w' : World} (h : MeR p allowed n d m ve w) (hb : Below w.heap.size w w') : MeR p allowed n d m ve w' := by
 obtain ⟨en, va, fa, hx⟩ := h.box
 obtain ⟨ats, he⟩ := h.evs
 exact ⟨⟨en, va, fa, hx.on (grown_of_below hb) (by simp)⟩, h.len, fun i h1 h2 => ownsRow_at (h.words i h1 h2) hb, h.nd, ⟨ats, he.len, he.at_, ownsRow_at he.row hb, fun i h1 h2 => ownsRow_at (he.args i h1 h2) hb⟩, Nat.le_trans h.size hb.size, h.mlt⟩
def Vc (ve ve' : EvS) (k : Nat) : Prop := (ve'.v.ownBlock = ve.v.ownBlock ∨ ∃ b, ve'.v.ownBlock = some b ∧ k ≤ b) ∧ ∀ x ∈ ve'.vas, x ∈ ve.vas ∨ ∀ b, x.ownBlock = some b → k ≤ b
theorem Vc.refl (ve : EvS) (k : Nat) : Vc ve ve k := ⟨.inl rfl, fun _ h => .inl h⟩
def PostM (p : Pt) (allowed n d k : Nat) (ve : EvS) {α : Type} (f : α → Ending) (o : Out α) (w : World) (e : Ending) (w' : World) : Prop := match o with
 | .ok a m => e = f a ∧ ∃ ve', MeR p allowed n d m ve' w' ∧ Kpt (p.TE ve) k w w' ∧ Vc ve ve' k
 | .stop x y m => e = endE x y ∧ ∃ ve' d', MeR p allowed n d' m ve' w' ∧ Kpt (p.TE ve) k w w' ∧ Vc ve ve' k
 | .lost => True
theorem step116 (p : Pt) (cf : Cf) (n d : Nat) (m : MS) (ve : EvS) (w : World) (ha : cf.allowed ≤ 65536) (hs : m.steps ≤ cf.allowed) (h : MeR p cf.allowed n d m ve w) :
  Calls Tryz.prog 116 #[.pointer (some ⟨p.M, 0, none⟩)] w (PostM p cf.allowed n d w.heap.size ve (fun _ => .returned (.tuple #[])) (tick cf m) w) := by
 obtain ⟨en, va, fa, hx⟩ := h.box
 have H := hid h
 have HX := hid hx
 have p1 : w.drew.cell? ⟨p.M, 1, none⟩ = some (.int .i64 cf.allowed) := by simpa using hx.cell 1
 have p6 : w.drew.cell? ⟨p.M, 6, none⟩ = some (.int .i64 m.steps) := by simpa using hx.cell 6
 have f6 : w.drew.frozen? ⟨p.M, 6, none⟩ = false := hx.free 6
 obtain ⟨P, hP⟩ : ∃ x, x = PostM p cf.allowed n d w.heap.size ve (fun _ : Unit => Ending.returned (.tuple #[])) (tick cf m) w := ⟨_, rfl⟩
 rw [← hP]
 have HP := hid hP
 clear hP h hx
 by_cases hc : cf.allowed ≤ m.steps
 ·have hT := hid (show tick cf m = .stop 3 0 m by simp [tick, hc])
  have hcc : (cf.allowed : Int) ≤ (m.steps : Int) := by omega
  go_enter Tryz.func116, Tryz.ntmps116
  go_wp2_with fail
  go_region
  go_wp2_with fail
  refine bp_panic ?_
  rw [HP.out, hT.out]
  exact ⟨rfl, ve, d, H.out.below (Below.refl _ _).drew, Kpt.of (Below.refl _ _).drew, Vc.refl _ _⟩
 ·have hT := hid (show tick cf m = .ok () { m with steps := m.steps + 1 } by simp [tick, hc])
  have hcc : ¬ (cf.allowed : Int) ≤ (m.steps : Int) := by omega
  have hw : IntKind.i64.wrap ((m.steps : Int) + 1) = (((m.steps + 1 : Nat)) : Int) := by rw [IntWalk.i64_in _ (by omega)]; omega
  go_enter Tryz.func116, Tryz.ntmps116
  go_wp2_with fail
  go_region
  go_wp2_with fail
  go_end0
  have hg := grown_setCell w ⟨p.M, 6, none⟩ (.int .i64 ((m.steps : Int) + 1))
  have hb := (Below.refl (w.setCell ⟨p.M, 6, none⟩ (.int .i64 ((m.steps : Int) + 1))).heap.size (w.setCell ⟨p.M, 6, none⟩ (.int .i64 ((m.steps : Int) + 1)))).drew
  rw [HP.out, hT.out]
  refine ⟨rfl, ve, (H.out.turn hg ⟨en, va, fa, by simpa using HX.out.set 6 (.int .i64 ((m.steps : Int) + 1))⟩).below hb, (Kpt.gr hg (Nat.le_refl _) fun k e => by cases e; exact .inl (.inl (.inl rfl))).trans (Kpt.of (hb.mono ?_)), Vc.refl _ _⟩
  simp [World.setCell]
end
section
open Go.Shelf
abbrev BSc := List (ByteArray × ((Int × Int) × Nat))
abbrev ptrv (x : (Int × Int) × Nat) : Value := .pointer (some ⟨x.2, 0, none⟩)
abbrev bareSc (sc : BSc) : LSc := sc.map fun x => (x.1, x.2.1)
abbrev bareF (fb : List BSc) : Fr := fb.map bareSc
def seesB (s : ByteArray) (fb : List BSc) : Option ((Int × Int) × Nat) := fb.foldl (fun a sc => match getM s sc with | some t => some t | none => a) none
theorem seesB_take {s : ByteArray} {fb : List BSc} {k : Nat} (h : k < fb.length) : seesB s (fb.take (k + 1)) = match getM s fb[k] with | some t => some t | none => seesB s (fb.take k) := by
 unfold seesB
 rw [List.take_add_one, List.getElem?_eq_getElem h]
 simp only [Option.toList_some, List.foldl_append, List.foldl_cons, List.foldl_nil]
theorem seesB_bare (s : ByteArray) (fb : List BSc) : seesF s (bareF fb) = (seesB s fb).map (·.1) := by
 unfold seesF seesB
 suffices ∀ (fb : List BSc) (a : Option ((Int × Int) × Nat)), (bareF fb).foldl (fun a sc => match getM s sc with | some t => some t | none => a) (a.map (·.1)) = (fb.foldl (fun a sc => match getM s sc with | some t => some t | none => a) a).map (·.1) from this fb none
 intro fb
 induction fb with
 | nil => intro a; rfl
 | cons c r ih =>
  intro a
  simp only [bareF, List.map_cons, List.foldl_cons] at ih ⊢
  rw [← ih]
  congr 1
  have : getM s (bareSc c) = (getM s c).map (·.1) := getM_map (fun x : (Int × Int) × Nat => x.1) s c
  rw [this]
  cases getM s c <;> rfl
structure FrR (w : World) (n F : Nat) (fb : List BSc) (g cap : Nat) (ms : List Nat) : Prop where
 box : Bx w F #[.slice (some ⟨g, 0, none⟩) fb.length cap] 213
 row : w.ownsRow n 210 1 (.slice (some ⟨g, 0, none⟩) fb.length cap) fb.length (ms.map fun m => .map (some m))
 len : ms.length = fb.length
 maps : ∀ i (h1 : i < ms.length) (h2 : i < fb.length), Mp w ms[i] (fb[i].map fun x => (x.1, ptrv x.2))
 boxes : ∀ sc ∈ fb, ∀ x ∈ sc, Bx w x.2.2 #[.int .u32 x.2.1.2, .int .u8 x.2.1.1] 201
 nd : ms.Nodup
 apart : (fb.flatten.map fun x => x.2.2).Nodup
 far : (∀ m ∈ ms, n ≤ m) ∧ (∀ sc ∈ fb, ∀ x ∈ sc, n ≤ x.2.2) ∧ n ≤ F
 le : fb.length ≤ 100000000
theorem getM_in {α : Type} (s : ByteArray) : ∀ (l : List (ByteArray × α)) (v : α), getM s l = some v → (s, v) ∈ l
 | [], v, h => by cases h
 | x :: l, v, h => by
  rw [getM_cons] at h
  split at h
  ·rename_i hq
   cases h
   have : s = x.1 := (Go.MapKept.bytes_beq s x.1).1 hq
   rw [this]
   simp
  ·simp [getM_in s l v h]
theorem seesB_mem {s : ByteArray} {fb : List BSc} {t : (Int × Int) × Nat} (h : seesB s fb = some t) : ∃ sc ∈ fb, (s, t) ∈ sc := by
 suffices ∀ (fb : List BSc) (a : Option ((Int × Int) × Nat)), fb.foldl (fun a sc => match getM s sc with | some t => some t | none => a) a = some t → a = some t ∨ ∃ sc ∈ fb, (s, t) ∈ sc by
  rcases this fb none h with q | q
  ·cases q
  ·exact q
 intro fb
 induction fb with
 | nil => intro a h; exact .inl h
 | cons c r ih =>
  intro a h
  simp only [List.foldl_cons] at h
  rcases ih _ h with q | ⟨sc, q1, q2⟩
  ·cases hg : getM s c with
   | none => rw [hg] at q; exact .inl q
   | some y =>
    rw [hg] at q
    cases q
    exact .inr ⟨c, by simp, getM_in s c _ hg⟩
  ·exact .inr ⟨sc, by simp [q1], q2⟩
theorem FrR.on {w w' : World} {n F : Nat} {fb : List BSc} {g cap : Nat} {ms : List Nat} (h : FrR w n F fb g cap ms) {row : Option Nat} (hg : w.grownBy w' row) (h1 : some F ≠ row) (h2 : some g ≠ row) (h3 : ∀ m ∈ ms, some m ≠ row) (h4 : ∀ sc ∈ fb, ∀ x ∈ sc, some x.2.2 ≠ row) : FrR w' n F fb g cap ms :=
 ⟨h.box.on hg h1, h.row.kept hg (.inr h2), h.len, fun i q1 q2 => (h.maps i q1 q2).on hg (h3 _ (List.getElem_mem q1)), fun sc q x q2 => (h.boxes sc q x q2).on hg (h4 sc q x q2), h.nd, h.apart, h.far, h.le⟩
theorem FrR.below {w w' : World} {n F : Nat} {fb : List BSc} {g cap : Nat} {ms : List Nat} (h : FrR w n F fb g cap ms) (hb : Below w.heap.size w w') : FrR w' n F fb g cap ms :=
 h.on (grown_of_below hb) (by simp) (by simp) (fun _ _ => by simp) (fun _ _ _ _ => by simp)
theorem under210 : Tryz.prog.underlying 210 = some (.map 9 198) := by kernel_rfl
theorem zero198 (w : World) : (zeroValue 198).run Tryz.prog w = .ok (.pointer none) w := by kernel_rfl
theorem find115 (s : ByteArray) (n F : Nat) (fb : List BSc) (g cap : Nat) (ms : List Nat) (w : World) (h : FrR w n F fb g cap ms) :
  Calls Tryz.prog 115 #[.pointer (some ⟨F, 0, none⟩), .string s] w fun e w' => e = .returned (((seesB s fb).map ptrv).getD (.pointer none)) ∧ w' = w := by
 have hH := hid h
 have hlen := h.le
 have hbc := h.box.cell 0
 simp at hbc
 obtain ⟨k0, hn⟩ : ∃ k, k = fb.length := ⟨_, rfl⟩
 have hN := hid hn
 rw [← hn] at hlen hbc
 clear h hn
 go_enter Tryz.func115, Tryz.ntmps115
 go_wp2_with fail
 go_loopw [5] (fun y wr => ∃ k : Nat, y = .int .i64 ((k : Int) - 1) ∧ k ≤ k0 ∧ seesB s (fb.take k) = seesB s fb ∧ wr = w) (fun y _ => (intOf y + 1).toNat)
 case atStart => exact ⟨k0, rfl, Nat.le_refl _, by rw [hN.out, List.take_length], rfl⟩
 case round =>
  obtain ⟨k, rfl, hk, hsee, hw⟩ := hrel
  subst wr
  have hS := hid hsee
  clear hsee
  by_cases hk0 : k = 0
  ·subst k
   have hz := hid (show seesB s fb = none by rw [← hS.out]; rfl)
   clear hS
   go_wp2_with fail
   go_ret
   rw [hz.out]
   exact ⟨rfl, rfl⟩
  ·obtain ⟨k, rfl⟩ : ∃ j, k = j + 1 := ⟨k - 1, by omega⟩
   have hl1 : k < fb.length := by have := hN.out; omega
   have hl2 : k < ms.length := by have := hH.out.len; omega
   have hc : w.cell? ⟨g, k, none⟩ = some (.map (some ms[k])) := by rw [hH.out.row.cellAt k (by have := hH.out.len; omega)]; simp [hl2]
   have hlk := (hH.out.maps k hl2 hl1).lookup under210 under9 s (.pointer none) (zero198 w) true
   have hst := hid (seesB_take (s := s) hl1)
   rw [getM_map ptrv] at hlk
   generalize ms[k] = m at hc hlk
   cases hg : getM s fb[k] with
   | none =>
    rw [hg] at hst hlk
    simp only [Option.map_none, Option.getD_none, Option.isSome_none, if_true] at hlk
    go_wp2_with fail
    exact ⟨⟨k, rfl, by omega, by rw [← hS.out, hst.out], trivial⟩, by simp only [intOf]; omega⟩
   | some t =>
    rw [hg] at hst hlk
    simp only [Option.map_some, Option.getD_some, Option.isSome_some, if_true] at hlk
    go_wp2_with fail
    go_ret
    rw [← hS.out, hst.out]
    exact ⟨rfl, rfl⟩
end
section
open Go.MapKept (run_checkKey run_findKey run_setObj_map IsKey heap_set)
def getI {α : Type} (k : Int) : List (Int × α) → Option α
 | [] => none
 | x :: r => if k == x.1 then some x.2 else getI k r
def MpI (w : World) (b : Nat) (l : List (Int × Value)) : Prop :=
 ∃ (es : Array MapEntry) (clock : Nat), w.heap[b]? = some (.map es clock) ∧ es.toList.map (fun e => (e.key, e.val)) = l.map fun x => (Value.int .u8 x.1, x.2)
theorem MpI.new (w : World) : MpI (w.alloc (.map #[] 0)) w.heap.size [] := ⟨#[], 0, heap_alloc_new w _, rfl⟩
theorem MpI.lt {w : World} {b : Nat} {l : List (Int × Value)} (h : MpI w b l) : b < w.heap.size := by
 obtain ⟨es, c, h, _⟩ := h
 exact lt_of_block h
theorem MpI.on {w w' : World} {b : Nat} {l : List (Int × Value)} (h : MpI w b l) {row : Option Nat} (hg : w.grownBy w' row) (hn : some b ≠ row) : MpI w' b l := by
 obtain ⟨es, c, h, h2⟩ := h
 exact ⟨es, c, (hg.block b (lt_of_block h) hn).trans h, h2⟩
theorem MpI.at {w w' : World} {b : Nat} {l : List (Int × Value)} (h : MpI w b l) (e : w'.heap[b]? = w.heap[b]?) : MpI w' b l := by
 obtain ⟨es, c, h, h2⟩ := h
 exact ⟨es, c, e.trans h, h2⟩
theorem findNow_u8 (k : Int) : ∀ (es : List MapEntry) (l : List (Int × Value)) (i : Nat), es.map (fun e => (e.key, e.val)) = l.map (fun x => (Value.int .u8 x.1, x.2)) →
  ∃ r, Instr.findNow (.int .u8) (.int .u8 k) es i = some r ∧ r.map (·.2) = getI k l
 | [], [], i, _ => ⟨none, rfl, rfl⟩
 | [], x :: l, i, h => by cases h
 | e :: es, [], i, h => by cases h
 | e :: es, x :: l, i, h => by
  simp only [List.map_cons, List.cons.injEq, Prod.mk.injEq] at h
  obtain ⟨⟨h1, h2⟩, h3⟩ := h
  simp only [Instr.findNow, h1, Instr.sameNow, if_true, getI]
  cases hq : k == x.1
  ·simp only [Bool.false_eq_true, if_false]
   exact findNow_u8 k es l (i + 1) h3
  ·simp only [if_true, h2]
   exact ⟨_, rfl, rfl⟩
section
variable {P : Program} {w : World} {b : Nat} {l : List (Int × Value)} {T K E : TypeId}
theorem MpI.lookup (h : MpI w b l) (hT : P.underlying T = some (.map K E)) (hK : P.underlying K = some (.int .u8)) (k : Int) (v : Value) (hv : getI k l = some v) :
  (Instr.lookup T (.map (some b)) (.int .u8 k) false).run P w = .ok v w := by
 obtain ⟨es, c, h1, h2⟩ := h
 obtain ⟨r, hf, hr⟩ := findNow_u8 k es.toList l 0 h2
 have hck : (Instr.checkKey es.isEmpty 10000 K (.int .u8 k)).run P w = .ok () w := run_checkKey hK (k := .int .u8 k) (by simp [IsKey]) es.isEmpty 9999
 rw [hv] at hr
 cases r with
 | none => cases hr
 | some a =>
  obtain ⟨j, y⟩ := a
  simp only [Option.map_some, Option.some.injEq] at hr
  subst hr
  simp [Instr.lookup, run_underlying hT, MapKept.run_getObj_map h1, hck, run_findKey hK hf, Result.andThen]
theorem MpI.put (h : MpI w b l) (hT : P.underlying T = some (.map K E)) (hK : P.underlying K = some (.int .u8)) (k : Int) (v : Value) (hn : getI k l = none) :
  ∃ w', (Instr.mapUpdate T (.map (some b)) (.int .u8 k) v).run P w = .ok () w' ∧ w.grownBy w' (some b) ∧ w'.heap.size = w.heap.size ∧ MpI w' b (l ++ [(k, v)]) := by
 obtain ⟨es, c, h1, h2⟩ := h
 obtain ⟨r, hf, hr⟩ := findNow_u8 k es.toList l 0 h2
 have hck : (Instr.checkKey false 10000 K (.int .u8 k)).run P w = .ok () w := run_checkKey hK (k := .int .u8 k) (by simp [IsKey]) false 9999
 have hgr : ∀ o, w.grownBy { w with heap := w.heap.setIfInBounds b o } (some b) := fun o => ⟨rfl, rfl, rfl, by simp, fun i hi hn => by
  have : b ≠ i := fun q => hn (by rw [q])
  simp [this]⟩
 rw [hn] at hr
 cases r with
 | some a => cases hr
 | none =>
  refine ⟨_, by simp [Instr.mapUpdate, run_underlying hT, MapKept.run_getObj_map h1, hck, run_findKey hK hf, run_setObj_map _ h1, Result.andThen]; rfl, hgr _, by simp, ?_⟩
  refine ⟨_, _, (heap_set h1).1, ?_⟩
  simp [h2]
end
end
section
open Go.Shelf
def hc2 : List ByteArray → List Value → List Value
 | a :: r, x :: xs => .string a :: x :: hc2 r xs
 | _, _ => []
theorem hc2_at : ∀ (nms : List ByteArray) (xs : List Value) (i : Nat) (h : i < xs.length), xs.length = nms.length → (hc2 nms xs)[i * 2 + 1]? = some xs[i]
 | [], [], i, h, _ => by simp at h
 | [], _ :: _, _, _, h => by simp at h
 | _ :: _, [], _, h, _ => by simp at h
 | a :: r, x :: xs, 0, h, _ => rfl
 | a :: r, x :: xs, i + 1, h, h2 => by
  have := hc2_at r xs i (by simpa using h) (by simpa using h2)
  simp only [hc2, List.getElem_cons_succ]
  rw [show (i + 1) * 2 + 1 = (i * 2 + 1) + 1 + 1 by omega]
  simpa using this
def kindsL (M kc : Nat) : List (Int × Value) := [(1, .func (.func 74) #[] #[]), (2, .func (.func 74) #[] #[]), (3, .func (.func 75) #[] #[.pointer (some ⟨kc, 0, none⟩)]), (4, .func (.func 77) #[] #[.pointer (some ⟨kc, 0, none⟩)]), (5, .func (.func 80) #[.pointer (some ⟨M, 0, none⟩)] #[]),
 (6, .func (.func 81) #[.pointer (some ⟨M, 0, none⟩)] #[]), (7, .func (.func 82) #[.pointer (some ⟨M, 0, none⟩)] #[]), (8, .func (.func 83) #[] #[.pointer (some ⟨kc, 0, none⟩)])]
structure MSt (p : Pt) (cf : Cf) (u : UT) (n : Nat) (w : World) : Prop where
 X : Bx w p.X #[p.vg, p.vh, p.vf, .map (some p.vb), .map (some p.cb), p.hv, .map (some p.pb)] 94
 unit : UIn (onlyW w (oldB p.B)) false none u (.agg #[p.vg, p.vh, p.vf])
 nm : NmR (onlyW w (oldB p.B)) cf.vs cf.cs p.vb p.cb
 place : Mp w p.pb (cf.pl.map fun x => (x.1, Value.int .i64 x.2))
 held : w.ownsRow p.B 82 2 p.hv p.xs.length (hc2 p.nms p.xs)
 hlen : p.xs.length = p.nms.length
 vals : ∃ ka kb koff kcap, p.vv = .slice ka cf.values.length kcap ∧ (cf.values.length = 0 ∨ ka = some ⟨kb, koff, none⟩) ∧ (cf.values.length = 0 ∨ (kb < n ∧ ¬ p.T kb)) ∧ ∀ i (h : i < cf.values.length), w.cell? ⟨kb, koff + i, none⟩ = some (.int .u32 cf.values[i])
 pl : ∀ s x, getM s cf.vs = some x → ∃ i : Nat, getM s cf.pl = some (i : Int) ∧ i < p.xs.length
 hs : u.hs = cf.hs
 fs : u.fs = cf.fs
 lX : p.X < n
 lv : p.vb < p.B
 lc : p.cb < p.B
 lp : p.pb < p.B
 M : p.B ≤ p.M
 Bn : p.B ≤ n
 lh : ∀ b, p.hv.ownBlock = some b → b < n
 lx : ∀ x ∈ p.xs, ∀ b, x.ownBlock = some b → b < n
 kinds : MpI w p.kb (kindsL p.M p.kc)
 kbox : Bx w p.kc #[.pointer (some ⟨p.M, 0, none⟩)] 116
 lk : p.kb < n
 lkc : p.kc < n
 vlen : cf.values.length ≤ 1000000000
theorem own_from {w : World} {base : Nat} {e : TypeId} {size k : Nat} {v : Value} {ys : List Value} (h : w.ownsRow base e size v k ys) {b : Nat} (hb : v.ownBlock = some b) : base ≤ b := by
 rcases h.2 with ⟨rfl, _⟩ | ⟨g, cap, cur, rfl, hg, _⟩
 ·cases hb
 ·cases hb
  exact hg
theorem Kpt.own {T : Nat → Prop} {k : Nat} {w w' : World} (h : Kpt T k w w') {base : Nat} {e : TypeId} {size j : Nat} {v : Value} {ys : List Value} (hr : w.ownsRow base e size v j ys) (hb : ∀ b, v.ownBlock = some b → b < k ∧ ¬ T b) : w'.ownsRow base e size v j ys := by
 refine ⟨hr.1, ?_⟩
 rcases hr.2 with q | ⟨g, cap, cur, rfl, h1, h2, h3⟩
 ·exact .inl q
 ·exact .inr ⟨g, cap, cur, rfl, h1, (h.block g (hb g rfl).1 (hb g rfl).2).trans h2, h3⟩
theorem EvR.base {w : World} {n : Nat} {evs : List Ev} {vas : List Value} {ats : List Nil0} {ve : Value} (h : EvR w n evs vas ats ve) {b : Nat} (hb : ve.ownBlock = some b) : n ≤ b := own_from h.row hb
theorem MeR.old {p : Pt} {a n d : Nat} {m : MS} {ve : EvS} {w : World} (h : MeR p a n d m ve w) (hM : p.B ≤ p.M) (hn : p.B ≤ n) {b : Nat} (hb : b < p.B) : ¬ p.TE ve b := by
 rintro ((rfl | ⟨x, hx, hq⟩) | hq)
 ·omega
 ·obtain ⟨i, hi, rfl⟩ := List.getElem_of_mem hx
  have := own_from (h.words i hi (by have := h.len; omega)) hq
  omega
 ·obtain ⟨ats, he⟩ := h.evs
  have := he.base hq
  omega
theorem MeR.other {p : Pt} {a n d : Nat} {m : MS} {ve : EvS} {w : World} (h : MeR p a n d m ve w) {base : Nat} {e : TypeId} {size k : Nat} {v : Value} {ys : List Value} (hr : w.ownsRow base e size v k ys) (h1 : e ≠ 119) (h2 : e ≠ 52) (h3 : e ≠ 127) {b : Nat} (hb : v.ownBlock = some b) : ¬ p.TE ve b := by
 obtain ⟨en, va, fa, hx⟩ := h.box
 rintro ((rfl | ⟨x, hx2, hq⟩) | hq)
 ·exact hx.not_row hr (Ne.symm h1) hb.symm
 ·obtain ⟨i, hi, rfl⟩ := List.getElem_of_mem hx2
  rcases row_ne hr (h.words i hi (by have := h.len; omega)) h2 with e1 | e1
  ·rw [e1] at hb; cases hb
  ·exact e1 (by rw [hb, hq])
 ·obtain ⟨ats, he⟩ := h.evs
  rcases row_ne hr he.row h3 with e1 | e1
  ·rw [e1] at hb; cases hb
  ·exact e1 (by rw [hb, hq])
theorem row_block {w : World} {base : Nat} {e : TypeId} {size k : Nat} {v : Value} {ys : List Value} (h : w.ownsRow base e size v k ys) {b : Nat} (hb : v.ownBlock = some b) : ∃ cs, Bx w b cs e := by
 rcases h.2 with ⟨rfl, _⟩ | ⟨g, cap, cur, rfl, _, hg, _⟩
 ·cases hb
 ·cases hb
  exact ⟨cur, hg⟩
theorem MeR.blocks {p : Pt} {a n d : Nat} {m : MS} {ve : EvS} {w : World} (h : MeR p a n d m ve w) {b : Nat} (hb : p.TE ve b) : ∃ cs t, Bx w b cs t ∧ (t = 119 ∨ t = 52 ∨ t = 127) := by
 obtain ⟨en, va, fa, hx⟩ := h.box
 rcases hb with (rfl | ⟨x, hx2, hq⟩) | hq
 ·exact ⟨_, _, hx, .inl rfl⟩
 ·obtain ⟨i, hi, rfl⟩ := List.getElem_of_mem hx2
  obtain ⟨cs, hc⟩ := row_block (h.words i hi (by have := h.len; omega)) hq
  exact ⟨cs, _, hc, .inr (.inl rfl)⟩
 ·obtain ⟨ats, he⟩ := h.evs
  obtain ⟨cs, hc⟩ := row_block he.row hq
  exact ⟨cs, _, hc, .inr (.inr rfl)⟩
theorem MeR.notBox {p : Pt} {a n d : Nat} {m : MS} {ve : EvS} {w : World} (h : MeR p a n d m ve w) {q : Nat} {cs : Array Value} {t : TypeId} (hx : Bx w q cs t) (h1 : t ≠ 119) (h2 : t ≠ 52) (h3 : t ≠ 127) : ¬ p.TE ve q := fun hq => by
 obtain ⟨cs2, t2, hb, ht⟩ := h.blocks hq
 unfold Bx at hx hb
 rw [hx] at hb
 simp at hb
 obtain ⟨-, rfl⟩ := hb
 rcases ht with e | e | e
 ·exact h1 e
 ·exact h2 e
 ·exact h3 e
theorem MeR.notMap {p : Pt} {a n d : Nat} {m : MS} {ve : EvS} {w : World} (h : MeR p a n d m ve w) {b : Nat} {es : Array MapEntry} {c : Nat} (hm : w.heap[b]? = some (.map es c)) : ¬ p.TE ve b := fun hq => by
 obtain ⟨cs2, t2, hb, ht⟩ := h.blocks hq
 unfold Bx at hb
 rw [hm] at hb
 cases hb
theorem MSt.move {p : Pt} {cf : Cf} {u : UT} {n : Nat} {w w' : World} (h : MSt p cf u n w) {a d : Nat} {m : MS} {ve : EvS} (hm : MeR p a n d m ve w) {k : Nat} (hk : Kpt (p.TE ve) k w w') (hn : n ≤ k) : MSt p cf u n w' := by
 have old : ∀ b, b < p.B → b < k ∧ ¬ p.TE ve b := fun b hb => ⟨by have := h.Bn; omega, hm.old h.M h.Bn hb⟩
 have hc : Cells (onlyW w (oldB p.B)) (onlyW w' (oldB p.B)) := hk.cells fun b hb => old b (by simpa using hb)
 have mv : ∀ {b l}, b < p.B → Mp (onlyW w (oldB p.B)) b l → Mp (onlyW w' (oldB p.B)) b l := fun {b l} hb hq => map_only (hk.map (map_whole hq (by simpa using hb)) (old b hb).1 (old b hb).2) (by simpa using hb)
 obtain ⟨ka, kb, koff, kcap, v1, v2, v4, v3⟩ := h.vals
 have hv : ∀ i (hi : i < cf.values.length), w'.cell? ⟨kb, koff + i, none⟩ = some (.int .u32 cf.values[i]) := fun i hi => by
  rcases v4 with q | ⟨q1, q2⟩
  ·omega
  have hne : ¬ p.TE ve kb := by
   rintro (q | q)
   ·exact q2 q
   ·obtain ⟨ats, he⟩ := hm.evs
    have := he.base q
    omega
  have hb := hk.block kb (by omega) hne
  have := v3 i hi
  unfold World.cell? at this ⊢
  rw [hb]
  exact this
 obtain ⟨c1, l, c2, c3⟩ := h.nm
 exact ⟨hk.box h.X (by have := h.lX; omega) (hm.notBox h.X (by decide) (by decide) (by decide)), h.unit.sub hc, ⟨mv h.lv c1, l, mv h.lc c2, c3.sub hc⟩, hk.map h.place (old _ h.lp).1 (old _ h.lp).2,
  hk.own h.held fun b hb => ⟨by have := h.lh b hb; omega, hm.other h.held (by decide) (by decide) (by decide) hb⟩, h.hlen, ⟨ka, kb, koff, kcap, v1, v2, v4, hv⟩, h.pl, h.hs, h.fs, h.lX, h.lv, h.lc, h.lp, h.M, h.Bn, h.lh, h.lx,
  by obtain ⟨es, c, q1, q2⟩ := h.kinds; exact ⟨es, c, (hk.block _ (by have := h.lk; omega) (hm.notMap q1)).trans q1, q2⟩, hk.box h.kbox (by have := h.lkc; omega) (hm.notBox h.kbox (by decide) (by decide) (by decide)), h.lk, h.lkc, h.vlen⟩
end
section
abbrev U (x : Int) : Prop := 0 ≤ x ∧ x < 4294967296
def MS.Rg (m : MS) : Prop := ∀ q ∈ m.held, ∀ x ∈ q, U x
def Fr.Rg (fr : Fr) : Prop := ∀ sc ∈ fr, ∀ x ∈ sc, U x.2.2
def Out.Rg {α : Type} (P : α → Prop) : Out α → Prop
 | .ok a m => P a ∧ m.Rg
 | .stop _ _ m => m.Rg
 | .lost => True
theorem Out.rg_bind {α β : Type} {P : α → Prop} {Q : β → Prop} {o : Out α} {f : α → MS → Out β} (h : o.Rg P) (hf : ∀ a m, P a → m.Rg → (f a m).Rg Q) : (o.bind f).Rg Q := by
 cases o with
 | ok a m => exact hf a m h.1 h.2
 | stop k x m => exact h
 | lost => trivial
structure AluRg (A : Alu) : Prop where
 one : ∀ op a, U a → U (A.U op a)
 two : ∀ op a b r, U a → U b → A.B op a b = some r → U r
structure Cf.Rg (cf : Cf) : Prop where
 alu : AluRg cf.alu
 values : ∀ x ∈ cf.values, U x
 body : ∀ f ∈ cf.fs, f.body.Wf
theorem getM_in' {α : Type} (s : ByteArray) : ∀ (l : List (ByteArray × α)) (v : α), getM s l = some v → ∃ k, (k, v) ∈ l
 | [], v, h => by cases h
 | x :: l, v, h => by
  rw [getM_cons] at h
  split at h
  ·cases h
   exact ⟨x.1, by simp⟩
  ·obtain ⟨k, hk⟩ := getM_in' s l v h
   exact ⟨k, by simp [hk]⟩
theorem putM_in {α : Type} (s : ByteArray) (v : α) : ∀ (l : List (ByteArray × α)) (x : ByteArray × α), x ∈ putM s v l → x = (s, v) ∨ x ∈ l
 | [], x, h => by simp [putM] at h; exact .inl h
 | y :: l, x, h => by
  simp only [putM] at h
  split at h
  ·rcases List.mem_cons.1 h with q | q
   ·exact .inl q
   ·exact .inr (by simp [q])
  ·rcases List.mem_cons.1 h with q | q
   ·exact .inr (by simp [q])
   ·rcases putM_in s v l x q with q | q
    ·exact .inl q
    ·exact .inr (by simp [q])
theorem seesF_in {s : ByteArray} {fr : Fr} {t : Int × Int} (h : seesF s fr = some t) : ∃ sc ∈ fr, ∃ k, (k, t) ∈ sc := by
 suffices ∀ (fr : Fr) (a : Option (Int × Int)), fr.foldl (fun a sc => match getM s sc with | some t => some t | none => a) a = some t → a = some t ∨ ∃ sc ∈ fr, ∃ k, (k, t) ∈ sc by
  rcases this fr none h with q | q
  ·cases q
  ·exact q
 intro fr
 induction fr with
 | nil => intro a h; exact .inl h
 | cons c r ih =>
  intro a h
  simp only [List.foldl_cons] at h
  rcases ih _ h with q | ⟨sc, q1, q2⟩
  ·cases hg : getM s c with
   | none => rw [hg] at q; exact .inl q
   | some y =>
    rw [hg] at q
    cases q
    exact .inr ⟨c, by simp, getM_in' s c _ hg⟩
  ·exact .inr ⟨sc, by simp [q1], q2⟩
theorem wordsAt_rg {cf : Cf} {m : MS} (hm : m.Rg) (s : ByteArray) : ∀ x ∈ wordsAt cf m s, U x := by
 intro x hx
 unfold wordsAt at hx
 rw [List.getD_eq_getElem?_getD] at hx
 cases hq : m.held[placeOf cf s]? with
 | none => rw [hq] at hx; simp at hx
 | some l => rw [hq] at hx; exact hm l (List.mem_of_getElem? hq) x (by simpa using hx)
theorem readV_rg {cf : Cf} {fr : Fr} {m : MS} (hf : fr.Rg) (hm : m.Rg) (s : ByteArray) : U (readV cf fr m s).2 := by
 unfold readV
 cases hs : seesF s fr with
 | some x =>
  obtain ⟨sc, h1, k, h2⟩ := seesF_in hs
  exact hf sc h1 _ h2
 | none =>
  show U ((wordsAt cf m s).getD 0 0)
  rw [List.getD_eq_getElem?_getD]
  cases hq : (wordsAt cf m s)[0]? with
  | none => exact ⟨by decide, by decide⟩
  | some y => exact wordsAt_rg hm s y (List.mem_of_getElem? hq)
theorem setF_rg {s : ByteArray} {v : Int} (hv : U v) : ∀ {fr : Fr}, fr.Rg → Fr.Rg (setF s v fr)
 | [], h => h
 | c :: r, h => by
  have h1 : ∀ x ∈ c, U x.2.2 := h c (by simp)
  have h2 : Fr.Rg r := fun sc hs => h sc (by simp [hs])
  unfold setF
  split
  ·intro sc hs
   rcases List.mem_cons.1 hs with rfl | q
   ·exact h1
   ·exact setF_rg hv h2 sc q
  ·split
   ·intro sc hs
    rcases List.mem_cons.1 hs with rfl | q
    ·intro x hx
     rcases putM_in _ _ _ _ hx with rfl | q
     ·exact hv
     ·exact h1 x q
    ·exact h2 sc q
   ·exact h
theorem giveF_rg {s : ByteArray} {x : Int × Int} (hv : U x.2) {fr : Fr} (h : fr.Rg) : Fr.Rg (giveF s x fr) := by
 intro sc hs
 unfold giveF at hs
 rcases List.mem_append.1 hs with q | q
 ·exact h sc (List.dropLast_subset _ q)
 ·simp only [List.mem_singleton] at q
  subst q
  intro y hy
  rcases putM_in _ _ _ _ hy with rfl | q
  ·exact hv
  ·cases hl : fr.getLast? with
   | none => simp [List.getLastD_eq_getLast?, hl] at q
   | some z =>
    rw [List.getLastD_eq_getLast?, hl] at q
    exact h z (List.mem_of_getLast? hl) y (by simpa using q)
theorem putW_rg {cf : Cf} {m : MS} (hm : m.Rg) (s : ByteArray) (i : Nat) {v : Int} (hv : U v) : (putW cf m s i v).Rg := by
 intro q hq x hx
 have hq2 : q ∈ m.held.set (placeOf cf s) ((wordsAt cf m s).set i v) := hq
 rcases List.mem_or_eq_of_mem_set hq2 with h | rfl
 ·exact hm q h x hx
 ·rcases List.mem_or_eq_of_mem_set hx with h | rfl
  ·exact wordsAt_rg hm s x h
  ·exact hv
theorem writeV_rg {cf : Cf} {fr : Fr} {m : MS} (hf : fr.Rg) (hm : m.Rg) (s : ByteArray) {v : Int} (hv : U v) : (writeV cf fr m s v).1.Rg ∧ (writeV cf fr m s v).2.Rg := by
 unfold writeV
 split
 ·exact ⟨setF_rg hv hf, hm⟩
 ·exact ⟨hf, putW_rg hm s 0 hv⟩
theorem truth_rg (b : Bool) : U (truth b) := by cases b <;> exact ⟨by decide, by decide⟩
theorem workedV_rg {A : Alu} (hA : AluRg A) {s : ByteArray} {t a b r : Int} (ha : U a) (hb : U b) (h : workedV A s t a b = some r) : U r := by
 unfold workedV at h
 simp only [] at h
 split at h
 ·cases h
  split <;> exact ⟨by decide, by decide⟩
 ·exact hA.two _ _ _ _ ha hb h
theorem tick_rg (cf : Cf) {m : MS} (hm : m.Rg) : (tick cf m).Rg fun _ => True := by
 unfold tick
 split
 ·exact hm
 ·exact ⟨trivial, hm⟩
abbrev Lr (q : Int × Int × Fr) : Prop := U q.2.1 ∧ q.2.2.Rg
theorem U0 : U 0 := ⟨by decide, by decide⟩
structure Evl.Rg (ev : Evl) : Prop where
 E : ∀ d fr h k m, h.Wf → k.Wf → fr.Rg → m.Rg → (ev.E d fr h k m).Rg U
 L : ∀ d fr l m, l.Wf → fr.Rg → m.Rg → (ev.L d fr l m).Rg Lr
 W : ∀ d fr h k b m, h.Wf → k.Wf → b.Wf → fr.Rg → m.Rg → (ev.W d fr h k b m).Rg Lr
 F : ∀ d g l m, (∀ x ∈ l, U x) → m.Rg → (ev.F d g l m).Rg U
theorem Exs.wf_at : ∀ {l : Exs}, l.Wf → ∀ (i : Nat) (a : EH × Exs), l.toL[i]? = some a → a.1.Wf ∧ a.2.Wf
 | .nil, _, i, a, h => by simp [Exs.toL] at h
 | .cons h k r, hw, i, a, ha => by
  cases i with
  | zero =>
   simp only [Exs.toL, List.getElem?_cons_zero, Option.some.injEq] at ha
   subst ha
   exact ⟨hw.1, hw.2.1⟩
  | succ i =>
   simp only [Exs.toL, List.getElem?_cons_succ] at ha
   exact Exs.wf_at hw.2.2 i a ha
section
variable {cf : Cf} {ev : Evl} (hc : cf.Rg) (hg : ev.Rg)
include hg
theorem evK_rg (d : Nat) {fr : Fr} {l : Exs} (i : Nat) {m : MS} (hl : l.Wf) (hf : fr.Rg) (hm : m.Rg) : (evK ev d fr l i m).Rg U := by
 unfold evK
 split
 ·rename_i a ha
  exact hg.E _ _ _ _ _ (Exs.wf_at hl i a ha).1 (Exs.wf_at hl i a ha).2 hf hm
 ·trivial
theorem evArgs_rg (d : Nat) {fr : Fr} (hf : fr.Rg) : ∀ {l : Exs} {m : MS}, l.Wf → m.Rg → (evArgs ev d fr l m).Rg fun l => ∀ x ∈ l, U x
 | .nil, m, _, hm => ⟨fun x hx => by simp at hx, hm⟩
 | .cons h k r, m, hw, hm => Out.rg_bind (hg.E _ _ _ _ _ hw.1 hw.2.1 hf hm) fun v m1 hv hm1 => Out.rg_bind (evArgs_rg d hf hw.2.2 hm1) fun l m2 hl hm2 => ⟨fun x hx => by
   rcases List.mem_cons.1 hx with rfl | q
   ·exact hv
   ·exact hl x q, hm2⟩
include hc
theorem exprB_rg (d : Nat) {fr : Fr} {h : EH} {k : Exs} {m : MS} (hw : h.Wf) (hk : k.Wf) (hf : fr.Rg) (hm : m.Rg) : (exprB cf ev d fr h k m).Rg U := by
 have HW := hid hw.1
 clear hw
 unfold exprB
 split
 ·exact ⟨HW.out, hm⟩
 split
 ·exact ⟨readV_rg hf hm _, hm⟩
 split
 ·refine Out.rg_bind (evK_rg hg _ _ hk hf hm) fun i m1 hi hm1 => ?_
  split
  ·rename_i x hx
   exact ⟨wordsAt_rg hm1 _ x (List.mem_of_getElem? hx), hm1⟩
  ·exact hm1
 split
 ·refine Out.rg_bind (evArgs_rg hg _ hf hk hm) fun args m1 ha hm1 => ?_
  split
  ·trivial
  ·split
   ·exact hg.F _ _ _ _ ha hm1
   ·unfold hostV
    split
    ·exact hm1
    ·rename_i v hv
     split
     ·trivial
     ·exact ⟨hc.values v (List.mem_of_getElem? hv), hm1⟩
 split
 ·refine Out.rg_bind (evK_rg hg _ _ hk hf hm) fun v m1 hv hm1 => ?_
  split
  ·exact ⟨hc.alu.one _ _ hv, hm1⟩
  split
  ·exact ⟨truth_rg _, hm1⟩
  split
  ·exact ⟨hc.alu.one _ _ hv, hm1⟩
  ·exact ⟨hc.alu.one _ _ hv, hm1⟩
 split
 ·refine Out.rg_bind (evK_rg hg _ _ hk hf hm) fun a m1 ha hm1 => ?_
  split
  ·exact ⟨U0, hm1⟩
  split
  ·exact ⟨⟨by decide, by decide⟩, hm1⟩
  refine Out.rg_bind (evK_rg hg _ _ hk hf hm1) fun b m2 hb hm2 => ?_
  split
  ·exact ⟨truth_rg _, hm2⟩
  ·split
   ·rename_i x hx
    exact ⟨workedV_rg hc.alu ha hb hx, hm2⟩
   ·exact hm2
 split
 ·refine Out.rg_bind (evK_rg hg _ _ hk hf hm) fun v m1 hv hm1 => ?_
  split
  ·exact ⟨hv, hm1⟩
  split
  ·exact ⟨hc.alu.one _ _ hv, hm1⟩
  ·exact ⟨hc.alu.one _ _ hv, hm1⟩
 ·trivial
theorem setV_rg (d : Nat) {fr : Fr} (h : SH) {x : Exs} {m : MS} (hx : x.Wf) (hf : fr.Rg) (hm : m.Rg) : (setV cf ev d fr h x m).Rg Fr.Rg := by
 unfold setV
 refine Out.rg_bind (evK_rg hg _ _ hx hf hm) fun v m2 hv hm2 => ?_
 split
 ·exact writeV_rg hf hm2 _ hv
 ·split
  ·rename_i r hr
   exact writeV_rg hf hm2 _ (workedV_rg hc.alu (readV_rg hf hm _) hv hr)
  ·exact hm2
theorem putV_rg (d : Nat) {fr : Fr} (h : SH) {x : Exs} {m : MS} (hx : x.Wf) (hf : fr.Rg) (hm : m.Rg) : (putV cf ev d fr h x m).Rg fun _ => True := by
 unfold putV
 refine Out.rg_bind (evK_rg hg _ _ hx hf hm) fun i m1 hi hm1 => ?_
 split
 ·exact hm1
 ·rename_i old ho
  refine Out.rg_bind (evK_rg hg _ _ hx hf hm1) fun v m2 hv hm2 => ?_
  split
  ·exact ⟨trivial, putW_rg hm2 _ _ hv⟩
  ·split
   ·rename_i r hr
    exact ⟨trivial, putW_rg hm2 _ _ (workedV_rg hc.alu (wordsAt_rg hm1 _ old (List.mem_of_getElem? ho)) hv hr)⟩
   ·exact hm2
theorem stmtV_rg (d : Nat) {fr : Fr} (h : SH) {x : Exs} {b e : Sts} {m : MS} (hx : x.Wf) (hb : b.Wf) (he : e.Wf) (hf : fr.Rg) (hm : m.Rg) : (stmtV cf ev d fr h x b e m).Rg Lr := by
 unfold stmtV
 refine Out.rg_bind (tick_rg _ hm) fun _ m1 _ hm1 => ?_
 split
 ·exact Out.rg_bind (evK_rg hg _ _ hx hf hm1) fun v m2 hv hm2 => ⟨⟨U0, giveF_rg hv hf⟩, hm2⟩
 split
 ·exact Out.rg_bind (setV_rg hc hg _ _ hx hf hm1) fun fr2 m2 hf2 hm2 => ⟨⟨U0, hf2⟩, hm2⟩
 split
 ·exact Out.rg_bind (putV_rg hc hg _ _ hx hf hm1) fun _ m2 _ hm2 => ⟨⟨U0, hf⟩, hm2⟩
 split
 ·refine Out.rg_bind (evK_rg hg _ _ hx hf hm1) fun c m2 _ hm2 => ?_
  split
  ·exact hg.L _ _ _ _ he hf hm2
  ·exact hg.L _ _ _ _ hb hf hm2
 split
 ·split
  ·rename_i a ha
   exact hg.W _ _ _ _ _ _ (Exs.wf_at hx 0 a ha).1 (Exs.wf_at hx 0 a ha).2 hb hf hm1
  ·trivial
 split
 ·exact ⟨⟨U0, hf⟩, hm1⟩
 split
 ·exact ⟨⟨U0, hf⟩, hm1⟩
 split
 ·exact Out.rg_bind (evK_rg hg _ _ hx hf hm1) fun v m2 hv hm2 => ⟨⟨hv, hf⟩, hm2⟩
 split
 ·exact Out.rg_bind (evK_rg hg _ _ hx hf hm1) fun v m2 hv hm2 => ⟨⟨U0, hf⟩, hm2⟩
 ·exact ⟨⟨U0, hf⟩, hm1⟩
theorem stmtsV_rg (d : Nat) : ∀ {l : Sts} {fr : Fr} {m : MS}, l.Wf → fr.Rg → m.Rg → (stmtsV cf ev d l fr m).Rg Lr
 | .nil, fr, m, _, hf, hm => ⟨⟨U0, hf⟩, hm⟩
 | .cons h x b e r, fr, m, hw, hf, hm => by
  unfold stmtsV
  refine Out.rg_bind (stmtV_rg hc hg d h hw.2.1 hw.2.2.1 hw.2.2.2.1 hf hm) fun q m1 hq hm1 => ?_
  split
  ·exact stmtsV_rg d hw.2.2.2.2 hq.2 hm1
  ·exact ⟨hq, hm1⟩
theorem listV_rg (d : Nat) {fr : Fr} {l : Sts} {m : MS} (hl : l.Wf) (hf : fr.Rg) (hm : m.Rg) : (listV cf ev d fr l m).Rg Lr := by
 unfold listV
 refine Out.rg_bind (stmtsV_rg hc hg d hl ?_ hm) fun q m1 hq hm1 => ⟨⟨hq.1, fun sc hs => hq.2 sc (List.dropLast_subset _ hs)⟩, hm1⟩
 intro sc hs
 rcases List.mem_append.1 hs with q | q
 ·exact hf sc q
 ·simp only [List.mem_singleton] at q
  subst q
  intro x hx
  simp at hx
omit hc in
theorem whileV_rg (d : Nat) {fr : Fr} {h : EH} {k : Exs} {b : Sts} {m : MS} (hh : h.Wf) (hk : k.Wf) (hb : b.Wf) (hf : fr.Rg) (hm : m.Rg) : (whileV cf ev d fr h k b m).Rg Lr := by
 unfold whileV
 refine Out.rg_bind (hg.E _ _ _ _ _ hh hk hf hm) fun c m1 _ hm1 => ?_
 split
 ·exact ⟨⟨U0, hf⟩, hm1⟩
 ·refine Out.rg_bind (hg.L _ _ _ _ hb hf hm1) fun q m2 hq hm2 => ?_
  split
  ·exact ⟨hq, hm2⟩
  split
  ·exact ⟨⟨U0, hq.2⟩, hm2⟩
  ·exact Out.rg_bind (tick_rg _ hm2) fun _ m3 _ hm3 => hg.W _ _ _ _ _ _ hh hk hb hq.2 hm3
theorem funcV_rg (d : Nat) (g : Sig) {l : List Int} {m : MS} (hl : ∀ x ∈ l, U x) (hm : m.Rg) : (funcV cf ev d g l m).Rg U := by
 have par : ∀ (ps : List PW) (l : List Int) (sc : LSc), (∀ x ∈ l, U x) → (∀ x ∈ sc, U x.2.2) → ∀ x ∈ parSc ps l sc, U x.2.2 := by
  intro ps
  induction ps with
  | nil => intro l sc _ h; cases l <;> exact h
  | cons p r ih =>
   intro l sc hl h
   cases l with
   | nil => exact h
   | cons a l =>
    refine ih l _ (fun x hx => hl x (by simp [hx])) (fun x hx => ?_)
    rcases putM_in _ _ _ _ hx with rfl | q
    ·exact hl a (by simp)
    ·exact h x q
 unfold funcV
 split
 ·exact hm
 ·split
  ·trivial
  ·rename_i f hf
   refine Out.rg_bind (hg.L _ _ _ _ (hc.body f (List.mem_of_getElem? hf)) (fun sc hs => ?_) hm) fun q m1 hq hm1 => ⟨hq.1, hm1⟩
   simp only [List.mem_singleton] at hs
   subst hs
   exact par _ _ _ hl (fun x hx => by simp at hx)
end
theorem evl_rg {cf : Cf} (hc : cf.Rg) : ∀ n, (evl cf n).Rg
 | 0 => ⟨fun _ _ _ _ _ _ _ _ _ => trivial, fun _ _ _ _ _ _ _ => trivial, fun _ _ _ _ _ _ _ _ _ _ _ => trivial, fun _ _ _ _ _ _ => trivial⟩
 | n + 1 => ⟨fun d fr h k m hh hk hf hm => Out.rg_bind (tick_rg _ hm) fun _ m1 _ hm1 => exprB_rg hc (evl_rg hc n) _ hh hk hf hm1, fun d fr l m hl hf hm => listV_rg hc (evl_rg hc n) _ hl hf hm,
  fun d fr h k b m hh hk hb hf hm => whileV_rg (evl_rg hc n) _ hh hk hb hf hm, fun d g l m hl hm => funcV_rg hc (evl_rg hc n) _ _ hl hm⟩
/-! ### the arithmetic unit's -/
theorem U_mod (x : Int) : U (x % 4294967296) := by
 have h1 := Int.emod_nonneg x (by decide : (4294967296 : Int) ≠ 0)
 have h2 := Int.emod_lt_of_pos x (by decide : (0 : Int) < 4294967296)
 exact ⟨h1, h2⟩
theorem U_wrap (x : Int) : U (IntKind.u32.wrap x) := by
 have : IntKind.u32.wrap x = x % 4294967296 := by unfold IntKind.wrap; simp [IntKind.signed, IntKind.bits]
 rw [this]
 exact U_mod x
theorem U_word {r : Nat} (h : r < 4294967296) : U (wordN r) := by
 unfold wordN
 split
 ·exact ⟨by decide, by decide⟩
 ·exact ⟨by omega, by omega⟩
theorem U_bits (op : BinOp) (a b : Int) : U (bits op .u32 a b) := by
 unfold bits
 exact U_wrap _
theorem U_near (z : Int) : floatOfInt .f32 z < 4294967296 := by
 have h := FloatKind.f32.format.write_lt (.number (z < 0) z.natAbs 0)
 have e : 2 ^ FloatKind.f32.format.width = 4294967296 := by decide
 rw [e] at h
 exact h
theorem aluV_rg : AluRg aluV := by
 constructor
 ·intro op a ha
  show U (unaryV op a)
  unfold unaryV turnV
  repeat' split
  ·exact U_bits _ _ _
  ·exact U_bits _ _ _
  ·exact U_word (U_near _)
  ·exact U_wrap _
  ·exact U_wrap _
 ·intro op a b r ha hb h
  have h2 : binV op a b = some r := h
  unfold binV at h2
  have fl : ∀ o : Option Nat, (∀ r, o = some r → r < 4294967296) → U (floatV o) := fun o ho => by
   cases o with
   | none => exact ⟨by decide, by decide⟩
   | some r => exact U_word (ho r rfl)
  by_cases h39 : op = 39
  ·rw [if_pos h39] at h2; cases h2; exact U_mod _
  rw [if_neg h39] at h2
  by_cases h40 : op = 40
  ·rw [if_pos h40] at h2; cases h2; exact U_mod _
  rw [if_neg h40] at h2
  by_cases h41 : op = 41
  ·rw [if_pos h41] at h2; cases h2; exact U_mod _
  rw [if_neg h41] at h2
  by_cases h42 : op = 42
  ·rw [if_pos h42] at h2
   by_cases hz : wrap32 b = 0
   ·rw [if_pos hz] at h2; cases h2
   ·rw [if_neg hz] at h2; cases h2; exact U_mod _
  rw [if_neg h42] at h2
  by_cases h44 : op = 44
  ·rw [if_pos h44] at h2
   by_cases hz : wrap32 b = 0
   ·rw [if_pos hz] at h2; cases h2
   ·rw [if_neg hz] at h2; cases h2; exact U_mod _
  rw [if_neg h44] at h2
  by_cases h46 : op = 46
  ·rw [if_pos h46] at h2; cases h2; exact U_bits _ _ _
  rw [if_neg h46] at h2
  by_cases h47 : op = 47
  ·rw [if_pos h47] at h2; cases h2; exact U_bits _ _ _
  rw [if_neg h47] at h2
  by_cases h48 : op = 48
  ·rw [if_pos h48] at h2; cases h2; exact U_bits _ _ _
  rw [if_neg h48] at h2
  by_cases h50 : op = 50
  ·rw [if_pos h50] at h2; cases h2; exact U_mod _
  rw [if_neg h50] at h2
  by_cases h51 : op = 51
  ·rw [if_pos h51] at h2; cases h2; exact U_mod _
  rw [if_neg h51] at h2
  by_cases h54 : op = 54
  ·rw [if_pos h54] at h2; cases h2; exact fl _ fun r h => FloatKind.f32.format.add_lt h
  rw [if_neg h54] at h2
  by_cases h55 : op = 55
  ·rw [if_pos h55] at h2; cases h2; exact fl _ fun r h => FloatKind.f32.format.sub_lt h
  rw [if_neg h55] at h2
  by_cases h56 : op = 56
  ·rw [if_pos h56] at h2; cases h2; exact fl _ fun r h => FloatKind.f32.format.mul_lt h
  rw [if_neg h56] at h2
  by_cases h57 : op = 57
  ·rw [if_pos h57] at h2; cases h2; exact fl _ fun r h => FloatKind.f32.format.div_lt h
  rw [if_neg h57] at h2
  cases h2
  exact U0
end
end Go.Proofs.YtlabadkfkbenoaaGreatDoor
