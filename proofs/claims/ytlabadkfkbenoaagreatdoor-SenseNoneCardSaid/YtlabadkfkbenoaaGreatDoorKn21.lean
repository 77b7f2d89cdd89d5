/- Walks and plain laws, merged: SenU. No condition. -/
import Derived.Test.YtlabadkfkbenoaaGreatDoorKn20
namespace Go.Proofs.YtlabadkfkbenoaaGreatDoor
open Go.RowKit
set_option linter.unusedVariables false
set_option linter.unusedSimpArgs false
set_option maxRecDepth 100000
section
open Go.Shelf
theorem ParR.sub {w w' : World} {a : PW} {b q : Nat} (h : ParR w a b q) (hs : Cells w w') : ParR w' a b q := ⟨hs _ _ h.c0, hs _ _ h.c1⟩
theorem SlPz.sub {w w' : World} {l : List PW} {v : Value} (h : SlPz w none l v) (hs : Cells w w') : SlPz w' none l v := by
 obtain ⟨ka, kb, koff, kcap, rfl, y2, y3⟩ := h
 exact ⟨ka, kb, koff, kcap, rfl, y2.imp id (fun z => ⟨z.1, Zone.any⟩), fun i hi => (y3 i hi).sub hs⟩
theorem flatten_row {w : World} {B : Nat} {e : TypeId} {n : Nat} {α : Type} {l : List α} {cs : List (List Value)} {g cap m : Nat} (hown : w.ownsRow B e n (.slice (some ⟨g, 0, none⟩) m cap) m cs.flatten) (h1 : cs.length = l.length) (hm : m = l.length) (hl : ∀ i (h : i < cs.length), cs[i].length = n) (k : Nat) (hk : k < l.length) (j : Nat) (hj : j < n) : w.cell? ⟨g, k * n + j, none⟩ = (cs[k]'(by omega))[j]? := by
 subst hm
 have hlt : k * n + j < l.length * n := by
  calc k * n + j < k * n + n := by omega
   _ = (k + 1) * n := by rw [Nat.add_mul]; omega
   _ ≤ l.length * n := Nat.mul_le_mul_right _ (by omega)
 rw [hown.cellAt _ hlt, flatten_at hl k (by omega) j hj]
/-- a row of records that a clone made -/
theorem own_list {α : Type} {w w2 : World} {B : Nat} {e : TypeId} {n : Nat} {R : α → Nat → Nat → Prop} {Rc : α → List Value → Prop} {l : List α} {cs : List (List Value)} {v : Value} {m : Nat} (hown : w.ownsRow B e n v m cs.flatten) (h1 : cs.length = l.length) (hm : m = l.length) (h2 : ∀ i (h : i < l.length) (h' : i < cs.length), cs[i].length = n ∧ Rc l[i] cs[i])
  (hR : ∀ a c g q, B ≤ g → Rc a c → (∀ j, j < n → w.cell? ⟨g, q + j, none⟩ = c[j]?) → R a g q) : SlR w2 none e n R l v := by
 have hl : ∀ i (h : i < cs.length), cs[i].length = n := fun i h => (h2 i (by omega) h).1
 have ho := hown.2
 rcases ho with ⟨rfl, h0⟩ | ⟨g, cap, cur, rfl, hg, _⟩
 ·have hl0 : l.length = 0 := by omega
  exact ⟨none, 0, 0, 0, by rw [hl0], .inl ⟨hl0, rfl⟩, fun i hi => by omega⟩
 ·refine ⟨_, g, 0, cap, by rw [hm], .inr ⟨rfl, Zone.any⟩, fun i hi => ?_⟩
  refine hR _ _ g _ hg (h2 i hi (by omega)).2 (fun j hj => ?_)
  rw [Nat.zero_add]
  exact flatten_row hown h1 hm hl i hi j hj
/-- cells of a copied global, host, function -/
def XcG (a : GH) (c : List Value) : Prop := ∃ t, c = [.int .i64 t, .string a.name, .int .u8 a.type, .int .u32 a.len, .int .u32 a.word]
theorem GloR.xells {w : World} {a : GH} {b q : Nat} (h : GloR w false a b q) : ∃ c : List Value, c.length = 5 ∧ XcG a c ∧ (∀ u ∈ c, u.oneCell' = true) ∧ ∀ j u, c[j]? = some u → w.cell? ⟨b, q + j, none⟩ = some u := by
 obtain ⟨⟨t, y0, _⟩, y1, y2, y3, y4⟩ := h
 refine ⟨_, rfl, ⟨t, rfl⟩, by simp [Value.oneCell'], fun j u hj => ?_⟩
 match j, hj with
 | 0, hj => simp at hj; subst hj; exact y0
 | 1, hj => simp at hj; subst hj; exact y1
 | 2, hj => simp at hj; subst hj; exact y2
 | 3, hj => simp at hj; subst hj; exact y3
 | 4, hj => simp at hj; subst hj; exact y4
 | j + 5, hj => simp at hj
def XcH (w0 : World) (n1 : Nat) (wr : World) (d : Bool) (a : HH) (c : List Value) : Prop :=
 ∃ t v, c = [.int .i64 t, .string a.name, v, .int .u8 a.type, .int .u32 a.number] ∧ if d then SlPz (onlyW wr (newB n1)) none a.params v else SlPz w0 none a.params v
theorem XcH.on {w0 wr w' : World} {n1 : Nat} {d : Bool} {a : HH} {c : List Value} (h : XcH w0 n1 wr d a c) (hs : Cells (onlyW wr (newB n1)) (onlyW w' (newB n1))) : XcH w0 n1 w' d a c := by
 obtain ⟨t, v, hc, hv⟩ := h
 refine ⟨t, v, hc, ?_⟩
 cases d
 ·exact hv
 ·exact SlPz.sub hv hs
theorem HosR.xells {w : World} {a : HH} {b q : Nat} (h : HosR w false none a b q) : ∃ c : List Value, c.length = 5 ∧ XcH w 0 w false a c ∧ (∀ u ∈ c, u.oneCell' = true) ∧ ∀ j u, c[j]? = some u → w.cell? ⟨b, q + j, none⟩ = some u := by
 obtain ⟨⟨t, y0, _⟩, y1, ⟨v, y2, hv⟩, y3, y4⟩ := h
 have hv2 := hv
 obtain ⟨ka, kc, rfl⟩ := hv2.shape'
 refine ⟨_, rfl, ⟨t, _, rfl, hv⟩, by simp [Value.oneCell'], fun j u hj => ?_⟩
 match j, hj with
 | 0, hj => simp at hj; subst hj; exact y0
 | 1, hj => simp at hj; subst hj; exact y1
 | 2, hj => simp at hj; subst hj; exact y2
 | 3, hj => simp at hj; subst hj; exact y3
 | 4, hj => simp at hj; subst hj; exact y4
 | j + 5, hj => simp at hj
def XcF (w0 : World) (n1 : Nat) (wr : World) (d d' : Bool) (a : FH) (c : List Value) : Prop :=
 ∃ t v x, c = [.int .i64 t, .string a.name, v, .int .u8 a.type, .bool a.opn, x] ∧ (if d then SlPz (onlyW wr (newB n1)) none a.params v else SlPz w0 none a.params v) ∧
  if d' then SlS (onlyW wr (newB n1)) false none a.body x else SlS w0 false none a.body x
theorem XcF.on {w0 wr w' : World} {n1 : Nat} {d d' : Bool} {a : FH} {c : List Value} (h : XcF w0 n1 wr d d' a c) (hs : Cells (onlyW wr (newB n1)) (onlyW w' (newB n1))) : XcF w0 n1 w' d d' a c := by
 obtain ⟨t, v, x, hc, hv, hx⟩ := h
 refine ⟨t, v, x, hc, ?_, ?_⟩
 ·cases d
  ·exact hv
  ·exact SlPz.sub hv hs
 ·cases d'
  ·exact hx
  ·exact SlS.sub hx hs
theorem FunR.xells {w : World} {a : FH} {b q : Nat} (h : FunR w false none a b q) : ∃ c : List Value, c.length = 6 ∧ XcF w 0 w false false a c ∧ (∀ u ∈ c, u.oneCell' = true) ∧ ∀ j u, c[j]? = some u → w.cell? ⟨b, q + j, none⟩ = some u := by
 obtain ⟨⟨t, y0, _⟩, y1, ⟨v, y2, hv⟩, y3, y4, ⟨x, y5, hx⟩⟩ := h
 have hv2 := hv
 have hx2 := hx
 obtain ⟨ka, kc, rfl⟩ := hv2.shape'
 obtain ⟨xa, xc, rfl⟩ := hx2.shape'
 refine ⟨_, rfl, ⟨t, _, _, rfl, hv, hx⟩, by simp [Value.oneCell'], fun j u hj => ?_⟩
 match j, hj with
 | 0, hj => simp at hj; subst hj; exact y0
 | 1, hj => simp at hj; subst hj; exact y1
 | 2, hj => simp at hj; subst hj; exact y2
 | 3, hj => simp at hj; subst hj; exact y3
 | 4, hj => simp at hj; subst hj; exact y4
 | 5, hj => simp at hj; subst hj; exact y5
 | j + 6, hj => simp at hj
theorem params71 (l : List PW) (v : Value) (w : World) (hs : l.length ≤ 100000000) (hv : SlPz w none l v) :
  Calls Tryz.prog 71 #[v] w fun e w' => ∃ v', e = .returned v' ∧ SlPz (onlyW w' (newB w.heap.size)) none l v' ∧ Below w.heap.size w w' := by
 have hv0 := hv
 obtain ⟨ka, kc, rfl⟩ := hv0.shape'
 obtain ⟨cs, c1, c2, c3, -, c5, c6⟩ := SlR.cells (by omega) hv ParC (fun a b q h => h.cells)
 refine (clone71 ka l.length kc cs.flatten w c5 (hid c6) (hid c3) hs).mono ?_
 rintro e w' ⟨v', rfl, hown, hb⟩
 refine ⟨v', rfl, own_list hown c1 rfl c2 (fun a c g q hg hc hcell => ?_), hb⟩
 refine ParR.of hc (fun j hj => ?_)
 rw [cell_only, if_pos (by simpa using hg)]
 exact hcell j hj
theorem GloR.sub {w w' : World} {a : GH} {b q : Nat} (h : GloR w false a b q) (hs : Cells w w') : GloR w' false a b q := by
 obtain ⟨⟨t, y0, y0'⟩, y1, y2, y3, y4⟩ := h
 exact ⟨⟨t, hs _ _ y0, y0'⟩, hs _ _ y1, hs _ _ y2, hs _ _ y3, hs _ _ y4⟩
theorem HosR.sub {w w' : World} {a : HH} {b q : Nat} (h : HosR w false none a b q) (hs : Cells w w') : HosR w' false none a b q := by
 obtain ⟨⟨t, y0, y0'⟩, y1, ⟨v, y2, y2'⟩, y3, y4⟩ := h
 exact ⟨⟨t, hs _ _ y0, y0'⟩, hs _ _ y1, ⟨v, hs _ _ y2, SlPz.sub y2' hs⟩, hs _ _ y3, hs _ _ y4⟩
theorem FunR.sub {w w' : World} {a : FH} {b q : Nat} (h : FunR w false none a b q) (hs : Cells w w') : FunR w' false none a b q := by
 obtain ⟨⟨t, y0, y0'⟩, y1, ⟨v, y2, y2'⟩, y3, y4, ⟨x, y5, y5'⟩⟩ := h
 exact ⟨⟨t, hs _ _ y0, y0'⟩, hs _ _ y1, ⟨v, hs _ _ y2, SlPz.sub y2' hs⟩, hs _ _ y3, hs _ _ y4, ⟨x, hs _ _ y5, SlS.sub y5' hs⟩⟩
theorem SlR.sub {α : Type} {w w' : World} {t : TypeId} {n : Nat} {R R' : α → Nat → Nat → Prop} {l : List α} {v : Value} (h : SlR w none t n R l v) (hR : ∀ a b q, R a b q → R' a b q) : SlR w' none t n R' l v := by
 obtain ⟨ka, kb, koff, kcap, rfl, y2, y3⟩ := h
 exact ⟨ka, kb, koff, kcap, rfl, y2.imp id (fun z => ⟨z.1, Zone.any⟩), fun i hi => hR _ _ _ (y3 i hi)⟩
theorem UIn.sub {w w' : World} {u : UT} {v : Value} (h : UIn w false none u v) (hs : Cells w w') : UIn w' false none u v := by
 obtain ⟨vg, vh, vf, rfl, h1, h2, h3⟩ := h
 exact ⟨vg, vh, vf, rfl, SlR.sub h1 (fun _ _ _ x => x.sub hs), SlR.sub h2 (fun _ _ _ x => x.sub hs), SlR.sub h3 (fun _ _ _ x => x.sub hs)⟩
theorem own_shape2 {w : World} {B : Nat} {e : TypeId} {n m : Nat} {v : Value} {xs : List Value} (h : w.ownsRow B e n v m xs) : ∃ va vc, v = .slice va m vc ∧ (m = 0 ∨ ∃ g, va = some ⟨g, 0, none⟩) := by
 rcases h.2 with ⟨rfl, hn⟩ | ⟨g, cap, cur, rfl, _⟩
 ·exact ⟨none, 0, by rw [hn], .inl hn⟩
 ·exact ⟨_, _, rfl, .inr ⟨g, rfl⟩⟩
theorem cells_b_below {w w' : World} {n : Nat} (h : Below w.heap.size w w') : Cells (onlyW w (newB n)) (onlyW w' (newB n)) := cells_move fun a u hp hc => ⟨hp, cell_on hc h⟩
theorem cells_b_set {w : World} {n g i : Nat} {u : Value} (hg : g < n) : Cells (onlyW w (newB n)) (onlyW (w.setCell ⟨g, i, none⟩ u) (newB n)) := cells_move fun a v hp hc => ⟨hp, by
 rw [setCell_other _ _ _ _ _ (by simp at hp; omega)]
 exact hc⟩
theorem row_ne {w : World} {b1 b2 : Nat} {e1 e2 : TypeId} {s1 s2 n1 n2 : Nat} {v1 v2 : Value} {x1 x2 : List Value} (h1 : w.ownsRow b1 e1 s1 v1 n1 x1) (h2 : w.ownsRow b2 e2 s2 v2 n2 x2) (he : e1 ≠ e2) : v1.ownBlock = none ∨ v1.ownBlock ≠ v2.ownBlock := by
 rcases h1.2 with ⟨rfl, _⟩ | ⟨g, cap, cur, rfl, _, hg, _⟩
 ·exact .inl rfl
 ·rcases h2.2 with ⟨rfl, _⟩ | ⟨g', cap', cur', rfl, _, hg', _⟩
  ·exact .inr (by simp [Value.ownBlock])
  ·refine .inr fun e => ?_
   simp only [Value.ownBlock, Option.some.injEq] at e
   subst e
   rw [hg] at hg'
   simp at hg'
   exact he hg'.2
theorem BldI.ne {α β : Type} {w : World} {B B' : Nat} {e e' : TypeId} {n n' : Nat} {R : Nat → α → List Value → Prop} {R' : Nat → β → List Value → Prop} {l : List α} {l' : List β} {v v' : Value} (h : BldI w B e n R l v) (h' : BldI w B' e' n' R' l' v') (he : e ≠ e') : v.ownBlock = none ∨ v.ownBlock ≠ v'.ownBlock := by
 obtain ⟨_, _, _, h3⟩ := h
 obtain ⟨_, _, _, k3⟩ := h'
 exact row_ne h3 k3 he
theorem BldI.box {α : Type} {w : World} {B : Nat} {e : TypeId} {n : Nat} {R : Nat → α → List Value → Prop} {l : List α} {v : Value} (h : BldI w B e n R l v) {q : Nat} {cs : Array Value} {t : TypeId} (hx : Bx w q cs t) (he : t ≠ e) : some q ≠ v.ownBlock := by
 obtain ⟨_, _, _, h3⟩ := h
 exact hx.not_row h3 he
/-- what stands while a unit is copied: B: its own box; n1: all rows lie ahead -/
structure G39 (w : World) (u : UT) (n n1 B : Nat) (box : Array Value) (vg vh vf : Value) (kh kf kb : Nat) (wr : World) : Prop where
 b1 : Bx wr n box 26
 b2 : Bx wr (n + 1) #[.slice none 0 0, .slice none 0 0, .slice none 0 0] 26
 b3 : Bx wr B #[vg, vh, vf] 26
 hs : BldI wr (n + 1 + 1) 101 5 (fun i => XcH w n1 wr (decide (i < kh))) u.hs vh
 fs : BldI wr (n + 1 + 1) 43 6 (fun i => XcF w n1 wr (decide (i < kf)) (decide (i < kb))) u.fs vf
 gs : BldI wr (n + 1 + 1) 105 5 (fun _ => XcG) u.gs vg
 below : Below n w wr
 lt : n + 1 < B
 hlt : ∀ g, vh.ownBlock = some g → g < n1
 flt : ∀ g, vf.ownBlock = some g → g < n1
 n1n : n + 1 + 1 ≤ n1
 n1s : n1 ≤ wr.heap.size
 size : n = w.heap.size
section
variable {w wr w' : World} {u : UT} {n n1 B : Nat} {box : Array Value} {vg vh vf : Value} {kh kf kb : Nat}
theorem G39.on (h : G39 w u n n1 B box vg vh vf kh kf kb wr) (hb : Below wr.heap.size wr w') : G39 w u n n1 B box vg vh vf kh kf kb w' :=
  ⟨h.b1.on (grown_of_below hb) (by simp), h.b2.on (grown_of_below hb) (by simp), h.b3.on (grown_of_below hb) (by simp), h.hs.on (grown_of_below hb) (by cases hq : vh.ownBlock; exact .inl rfl; exact .inr (by simp)) (fun i a c x => x.on (cells_b_below hb)),
   h.fs.on (grown_of_below hb) (by cases hq : vf.ownBlock; exact .inl rfl; exact .inr (by simp)) (fun i a c x => x.on (cells_b_below hb)), h.gs.on (grown_of_below hb) (by cases hq : vg.ownBlock; exact .inl rfl; exact .inr (by simp)) (fun i a c x => x), h.below.trans (hb.mono (by have := h.b1.lt; omega)), h.lt, h.hlt, h.flt, h.n1n, Nat.le_trans h.n1s hb.size, h.size⟩
/-- a host's parameters are laid -/
theorem G39.putH {g cap m : Nat} (h : G39 w u n n1 B box vg (.slice (some ⟨g, 0, none⟩) m cap) vf kh kf kb wr) (hm : m = u.hs.length) (hk : kh < u.hs.length) {v : Value} (hv : SlPz (onlyW wr (newB n1)) none u.hs[kh].params v) :
  G39 w u n n1 B box vg (.slice (some ⟨g, 0, none⟩) m cap) vf (kh + 1) kf kb (wr.setCell ⟨g, kh * 5 + 2, none⟩ v) := by
 have hg := grown_setCell wr ⟨g, kh * 5 + 2, none⟩ v
 have hlt := h.hlt g rfl
 refine ⟨h.b1.on hg (h.hs.box h.b1 (by decide)), h.b2.on hg (h.hs.box h.b2 (by decide)), h.b3.on hg (h.hs.box h.b3 (by decide)), ?_, h.fs.on hg (h.fs.ne h.hs (by decide)) (fun i a c x => x.on (cells_b_set hlt)), h.gs.on hg (h.gs.ne h.hs (by decide)) (fun i a c x => x),
  h.below.grown hg (by have := h.b1.lt; omega) (fun q e => by cases e; have := (h.hs.lt g rfl).1; show n ≤ g; omega), h.lt, h.hlt, h.flt, h.n1n, by simpa [World.setCell] using h.n1s, h.size⟩
 refine h.hs.store hm kh hk 2 (by omega) v (fun i a c hi hx => ?_) (fun c hx => ?_)
 ·have e1 : decide (i < kh + 1) = decide (i < kh) := by simp; omega
  rw [e1]
  exact hx.on (cells_b_set hlt)
 ·obtain ⟨t, v0, rfl, -⟩ := hx
  exact ⟨t, v, rfl, by simpa using SlPz.sub hv (cells_b_set hlt)⟩
theorem G39.putF {g cap m : Nat} (h : G39 w u n n1 B box vg vh (.slice (some ⟨g, 0, none⟩) m cap) kh kf kf wr) (hm : m = u.fs.length) (hk : kf < u.fs.length) {v : Value} (hv : SlPz (onlyW wr (newB n1)) none u.fs[kf].params v) :
  G39 w u n n1 B box vg vh (.slice (some ⟨g, 0, none⟩) m cap) kh (kf + 1) kf (wr.setCell ⟨g, kf * 6 + 2, none⟩ v) := by
 have hg := grown_setCell wr ⟨g, kf * 6 + 2, none⟩ v
 have hlt := h.flt g rfl
 refine ⟨h.b1.on hg (h.fs.box h.b1 (by decide)), h.b2.on hg (h.fs.box h.b2 (by decide)), h.b3.on hg (h.fs.box h.b3 (by decide)), h.hs.on hg (h.hs.ne h.fs (by decide)) (fun i a c x => x.on (cells_b_set hlt)), ?_, h.gs.on hg (h.gs.ne h.fs (by decide)) (fun i a c x => x),
  h.below.grown hg (by have := h.b1.lt; omega) (fun q e => by cases e; have := (h.fs.lt g rfl).1; show n ≤ g; omega), h.lt, h.hlt, h.flt, h.n1n, by simpa [World.setCell] using h.n1s, h.size⟩
 refine h.fs.store hm kf hk 2 (by omega) v (fun i a c hi hx => ?_) (fun c hx => ?_)
 ·have e1 : decide (i < kf + 1) = decide (i < kf) := by simp; omega
  rw [e1]
  exact hx.on (cells_b_set hlt)
 ·obtain ⟨t, v0, x, rfl, -, hx⟩ := hx
  refine ⟨t, v, x, rfl, by simpa using SlPz.sub hv (cells_b_set hlt), ?_⟩
  simp only [Nat.lt_irrefl, decide_false, Bool.false_eq_true, if_false] at hx ⊢
  exact hx
theorem G39.putB {g cap m : Nat} (h : G39 w u n n1 B box vg vh (.slice (some ⟨g, 0, none⟩) m cap) kh (kf + 1) kf wr) (hm : m = u.fs.length) (hk : kf < u.fs.length) {v : Value} (hv : SlS (onlyW wr (newB n1)) false none u.fs[kf].body v) :
  G39 w u n n1 B box vg vh (.slice (some ⟨g, 0, none⟩) m cap) kh (kf + 1) (kf + 1) (wr.setCell ⟨g, kf * 6 + 5, none⟩ v) := by
 have hg := grown_setCell wr ⟨g, kf * 6 + 5, none⟩ v
 have hlt := h.flt g rfl
 refine ⟨h.b1.on hg (h.fs.box h.b1 (by decide)), h.b2.on hg (h.fs.box h.b2 (by decide)), h.b3.on hg (h.fs.box h.b3 (by decide)), h.hs.on hg (h.hs.ne h.fs (by decide)) (fun i a c x => x.on (cells_b_set hlt)), ?_, h.gs.on hg (h.gs.ne h.fs (by decide)) (fun i a c x => x),
  h.below.grown hg (by have := h.b1.lt; omega) (fun q e => by cases e; have := (h.fs.lt g rfl).1; show n ≤ g; omega), h.lt, h.hlt, h.flt, h.n1n, by simpa [World.setCell] using h.n1s, h.size⟩
 refine h.fs.store hm kf hk 5 (by omega) v (fun i a c hi hx => ?_) (fun c hx => ?_)
 ·have e1 : decide (i < kf + 1) = decide (i < kf) := by simp; omega
  have hx2 := hx.on (cells_b_set (i := kf * 6 + 5) (u := v) hlt)
  rw [← e1] at hx2
  rwa [e1, ← e1]
 ·obtain ⟨t, v0, x, rfl, hp, -⟩ := hx
  simp only [Nat.lt_succ_self, decide_true, if_true] at hp ⊢
  exact ⟨t, v0, v, rfl, SlPz.sub hp (cells_b_set hlt), by simpa using SlS.sub hv (cells_b_set hlt)⟩
theorem G39.done (h : G39 w u n n1 B box vg vh vf u.hs.length u.fs.length u.fs.length wr) : UIn (onlyW wr (newB (n + 1 + 1))) false none u (.agg #[vg, vh, vf]) := by
 have hm : Cells (onlyW wr (newB n1)) (onlyW wr (newB (n + 1 + 1))) := cells_move fun a v hp hc => ⟨by simp at hp ⊢; have := h.n1n; omega, hc⟩
 refine ⟨vg, vh, vf, rfl, ?_, ?_, ?_⟩
 ·obtain ⟨cs, d1, d2, d3⟩ := h.gs
  refine own_list d3 d1 rfl d2 (fun a c g q hg hc hcell => ?_)
  obtain ⟨t, rfl⟩ := hc
  have hb : ∀ j v, j < 5 → ([Value.int .i64 t, .string a.name, .int .u8 a.type, .int .u32 a.len, .int .u32 a.word] : List Value)[j]? = some v → (onlyW wr (newB (n + 1 + 1))).cell? ⟨g, q + j, none⟩ = some v := fun j v hj hv => by rw [cell_only, if_pos (by simpa using hg), hcell j hj, hv]
  exact ⟨⟨t, hb 0 _ (by omega) rfl, fun e => by cases e⟩, hb 1 _ (by omega) rfl, hb 2 _ (by omega) rfl, hb 3 _ (by omega) rfl, hb 4 _ (by omega) rfl⟩
 ·obtain ⟨cs, d1, d2, d3⟩ := h.hs
  refine own_list (Rc := XcH w n1 wr true) d3 d1 rfl (fun i hi hi' => ⟨(d2 i hi hi').1, by have h3 := (d2 i hi hi').2; have e : decide (i < u.hs.length) = true := (by simpa using hi); simp only [e] at h3; exact h3⟩) (fun a c g q hg hc hcell => ?_)
  obtain ⟨t, v, rfl, hv⟩ := hc
  have hb : ∀ j u, j < 5 → ([Value.int .i64 t, .string a.name, v, .int .u8 a.type, .int .u32 a.number] : List Value)[j]? = some u → (onlyW wr (newB (n + 1 + 1))).cell? ⟨g, q + j, none⟩ = some u := fun j u hj hv => by rw [cell_only, if_pos (by simpa using hg), hcell j hj, hv]
  exact ⟨⟨t, hb 0 _ (by omega) rfl, fun e => by cases e⟩, hb 1 _ (by omega) rfl, ⟨v, hb 2 _ (by omega) rfl, SlPz.sub hv hm⟩, hb 3 _ (by omega) rfl, hb 4 _ (by omega) rfl⟩
 ·obtain ⟨cs, d1, d2, d3⟩ := h.fs
  refine own_list (Rc := XcF w n1 wr true true) d3 d1 rfl (fun i hi hi' => ⟨(d2 i hi hi').1, by have h3 := (d2 i hi hi').2; have e : decide (i < u.fs.length) = true := (by simpa using hi); simp only [e] at h3; exact h3⟩) (fun a c g q hg hc hcell => ?_)
  obtain ⟨t, v, x, rfl, hv, hx⟩ := hc
  have hb : ∀ j u, j < 6 → ([Value.int .i64 t, .string a.name, v, .int .u8 a.type, .bool a.opn, x] : List Value)[j]? = some u → (onlyW wr (newB (n + 1 + 1))).cell? ⟨g, q + j, none⟩ = some u := fun j u hj hv => by rw [cell_only, if_pos (by simpa using hg), hcell j hj, hv]
  exact ⟨⟨t, hb 0 _ (by omega) rfl, fun e => by cases e⟩, hb 1 _ (by omega) rfl, ⟨v, hb 2 _ (by omega) rfl, SlPz.sub hv hm⟩, hb 3 _ (by omega) rfl, hb 4 _ (by omega) rfl, ⟨x, hb 5 _ (by omega) rfl, SlS.sub hx hm⟩⟩
end
end
end Go.Proofs.YtlabadkfkbenoaaGreatDoor
