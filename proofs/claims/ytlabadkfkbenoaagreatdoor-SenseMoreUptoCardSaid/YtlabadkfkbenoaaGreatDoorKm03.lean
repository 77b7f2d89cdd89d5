/- Walks and plain laws, merged: TreeM TreeN TreeO TokD TokE TokF TokG TokH TokK RefA RefB RefC. No condition. -/
import Derived.Test.YtlabadkfkbenoaaGreatDoorKm02
import Derived.Outline
import Derived.Test.YtlabadkfkbenoaaGreatDoorKm01
import Derived.OneCell
import Derived.Test.YtlabadkfkbenoaaGreatDoorProg
import Derived.Lib.Bytealg
import Derived.WalkMore
namespace Go.Proofs.YtlabadkfkbenoaaGreatDoor
open Go.RowKit
set_option linter.unusedVariables false
set_option linter.unusedSimpArgs false
set_option maxRecDepth 100000
set_option maxHeartbeats 64000000
section
section
variable {w w' : World} {row : Option Nat} {Z Z' : Nat → Prop} {p : Bool}
theorem Zone.move {t : TypeId} {b off n len cap : Nat} (h : Zone w (some Z) t b off n len cap) (hg : w.grownBy w' row) (hr : ∀ b, Z b → some b ≠ row) (hz : ∀ b, Z b → Z' b) : Zone w' (some Z') t b off n len cap := fun Y hY => by
 cases hY
 obtain ⟨h1, h2, ⟨cs, h3⟩, h4, h5⟩ := h Z rfl
 exact ⟨hz _ h1, h2, ⟨cs, (hg.block b (lt_of_block h3) (hr _ h1)).trans h3⟩, h4, hg.cell h5 (hr _ h1)⟩
theorem HeadE.move {h : EH} {b q : Nat} (x : HeadE w p h b q) (hg : w.grownBy w' row) (hb : some b ≠ row) : HeadE w' p h b q := by
 obtain ⟨⟨t, y0, y0'⟩, y1, y2, y3, y4, y5⟩ := x
 exact ⟨⟨t, hg.cell y0 hb, y0'⟩, hg.cell y1 hb, hg.cell y2 hb, hg.cell y3 hb, hg.cell y4 hb, hg.cell y5 hb⟩
theorem HeadS.move {h : SH} {b q : Nat} (x : HeadS w p h b q) (hg : w.grownBy w' row) (hb : some b ≠ row) : HeadS w' p h b q := by
 obtain ⟨⟨t, y0, y0'⟩, y1, y2, y3, y4⟩ := x
 exact ⟨⟨t, hg.cell y0 hb, y0'⟩, hg.cell y1 hb, hg.cell y2 hb, hg.cell y3 hb, hg.cell y4 hb⟩
theorem ExsIn.move (hg : w.grownBy w' row) (hr : ∀ b, Z b → some b ≠ row) (hz : ∀ b, Z b → Z' b) : ∀ {l : Exs} {b off k : Nat}, ExsIn w p (some Z) l b off k → (l.len = 0 ∨ some b ≠ row) → ExsIn w' p (some Z') l b off k
 | .nil, _, _, _, _, _ => trivial
 | .cons h kids rest, b, off, k, ⟨x1, ⟨ka, kb, koff, kcap, y1, y2, y3⟩, x3⟩, hb =>
  have hb' : some b ≠ row := hb.resolve_left (by simp [Exs.len])
  ⟨x1.move hg hb', ⟨ka, kb, koff, kcap, hg.cell y1 hb', y2.imp (fun z => nomatch z.2) (fun z => ⟨z.1, z.2.move hg hr hz⟩), ExsIn.move hg hr hz y3 (y2.imp And.left (fun z => hr _ (z.2 Z rfl).1))⟩, ExsIn.move hg hr hz x3 (.inr hb')⟩
theorem SlE.move {l : Exs} {v : Value} (h : SlE w p (some Z) l v) (hg : w.grownBy w' row) (hr : ∀ b, Z b → some b ≠ row) (hz : ∀ b, Z b → Z' b) : SlE w' p (some Z') l v := by
 obtain ⟨ka, kb, koff, kcap, rfl, y2, y3⟩ := h
 exact ⟨ka, kb, koff, kcap, rfl, y2.imp (fun z => nomatch z.2) (fun z => ⟨z.1, z.2.move hg hr hz⟩), y3.move hg hr hz (y2.imp And.left (fun z => hr _ (z.2 Z rfl).1))⟩
theorem StsIn.move (hg : w.grownBy w' row) (hr : ∀ b, Z b → some b ≠ row) (hz : ∀ b, Z b → Z' b) : ∀ {l : Sts} {b off k : Nat}, StsIn w p (some Z) l b off k → (l.len = 0 ∨ some b ≠ row) → StsIn w' p (some Z') l b off k
 | .nil, _, _, _, _, _ => trivial
 | .cons h x body els rest, b, off, k, ⟨x1, ⟨v, x2, x3⟩, ⟨ka, kb, koff, kcap, y1, y2, y3⟩, ⟨ja, jb, joff, jcap, z1, z2, z3⟩, x4⟩, hb =>
  have hb' : some b ≠ row := hb.resolve_left (by simp [Sts.len])
  ⟨x1.move hg hb', ⟨v, hg.cell x2 hb', x3.move hg hr hz⟩, ⟨ka, kb, koff, kcap, hg.cell y1 hb', y2.imp (fun z => nomatch z.2) (fun z => ⟨z.1, z.2.move hg hr hz⟩), StsIn.move hg hr hz y3 (y2.imp And.left (fun z => hr _ (z.2 Z rfl).1))⟩, ⟨ja, jb, joff, jcap, hg.cell z1 hb', z2.imp (fun z => nomatch z.2) (fun z => ⟨z.1, z.2.move hg hr hz⟩), StsIn.move hg hr hz z3 (z2.imp And.left (fun z => hr _ (z.2 Z rfl).1))⟩, StsIn.move hg hr hz x4 (.inr hb')⟩
theorem SlS.move {l : Sts} {v : Value} (h : SlS w p (some Z) l v) (hg : w.grownBy w' row) (hr : ∀ b, Z b → some b ≠ row) (hz : ∀ b, Z b → Z' b) : SlS w' p (some Z') l v := by
 obtain ⟨ka, kb, koff, kcap, rfl, y2, y3⟩ := h
 exact ⟨ka, kb, koff, kcap, rfl, y2.imp (fun z => nomatch z.2) (fun z => ⟨z.1, z.2.move hg hr hz⟩), y3.move hg hr hz (y2.imp And.left (fun z => hr _ (z.2 Z rfl).1))⟩
theorem SlR.move {α : Type} {t : TypeId} {n : Nat} {R R' : α → Nat → Nat → Prop} {l : List α} {v : Value} (h : SlR w (some Z) t n R l v) (hg : w.grownBy w' row) (hr : ∀ b, Z b → some b ≠ row) (hz : ∀ b, Z b → Z' b) (hR : ∀ a b q, some b ≠ row → R a b q → R' a b q) : SlR w' (some Z') t n R' l v := by
 obtain ⟨ka, kb, koff, kcap, rfl, y2, y3⟩ := h
 refine ⟨ka, kb, koff, kcap, rfl, y2.imp (fun z => nomatch z.2) (fun z => ⟨z.1, z.2.move hg hr hz⟩), fun i hi => ?_⟩
 rcases y2 with h0 | ⟨_, hZ⟩
 ·exact nomatch h0.2
 ·exact hR _ _ _ (hr _ (hZ Z rfl).1) (y3 i hi)
theorem ParR.move {a : PW} {b q : Nat} (h : ParR w a b q) (hg : w.grownBy w' row) (hb : some b ≠ row) : ParR w' a b q := ⟨hg.cell h.c0 hb, hg.cell h.c1 hb⟩
theorem SlPz.move {l : List PW} {v : Value} (h : SlPz w (some Z) l v) (hg : w.grownBy w' row) (hr : ∀ b, Z b → some b ≠ row) (hz : ∀ b, Z b → Z' b) : SlPz w' (some Z') l v := SlR.move h hg hr hz (fun _ _ _ hb h => h.move hg hb)
end
/-! ### lists of a tree -/
def Exs.toL : Exs → List (EH × Exs)
 | .nil => []
 | .cons h k r => (h, k) :: r.toL
theorem Exs.toL_len : ∀ l : Exs, l.toL.length = l.len
 | .nil => rfl
 | .cons h k r => by simp [Exs.toL, Exs.len, Exs.toL_len r]
theorem Exs.toL_sz : ∀ (l : Exs) (a : EH × Exs), a ∈ l.toL → a.2.sz < l.sz
 | .nil, _, h => by cases h
 | .cons h k r, a, hm => by
  rcases List.mem_cons.1 hm with rfl | h'
  ·simp only [Exs.sz]; omega
  ·have := Exs.toL_sz r a h'; simp only [Exs.sz]; omega
structure ExpR (w : World) (p : Bool) (o : Option (Nat → Prop)) (a : EH × Exs) (b q : Nat) : Prop where
 head : HeadE w p a.1 b q
 kids : ∃ v, w.cell? ⟨b, q + 6, none⟩ = some v ∧ SlE w p o a.2 v
theorem ExsIn_at {w : World} {p : Bool} {o : Option (Nat → Prop)} {b off : Nat} : ∀ {l : Exs} {k : Nat}, ExsIn w p o l b off k → ∀ i (h : i < l.toL.length), ExpR w p o l.toL[i] b (off + (k + i) * 7)
 | .nil, k, _, i, h => by simp [Exs.toL] at h
 | .cons h kids rest, k, x, i, hi => by
  obtain ⟨x1, x2, x3⟩ := x.cons
  cases i with
  | zero => exact ⟨x1, x2⟩
  | succ i =>
   have := ExsIn_at x3 i (by simpa [Exs.toL] using hi)
   rw [show k + 1 + i = k + (i + 1) by omega] at this
   exact this
theorem ExsIn_of {w : World} {p : Bool} {o : Option (Nat → Prop)} {b off : Nat} : ∀ {l : Exs} {k : Nat}, (∀ i (h : i < l.toL.length), ExpR w p o l.toL[i] b (off + (k + i) * 7)) → ExsIn w p o l b off k
 | .nil, k, _ => trivial
 | .cons h kids rest, k, x => by
  have x0 := x 0 (by simp [Exs.toL])
  obtain ⟨v, x1, x2⟩ := x0.kids
  refine ExsIn.mk x0.head x1 x2 (ExsIn_of fun i hi => ?_)
  have := x (i + 1) (by simpa [Exs.toL] using hi)
  rw [show k + (i + 1) = k + 1 + i by omega] at this
  exact this
theorem SlE_iff {w : World} {p : Bool} {o : Option (Nat → Prop)} {l : Exs} {v : Value} : SlE w p o l v ↔ SlR w o 134 7 (ExpR w p o) l.toL v := by
 constructor
 ·rintro ⟨ka, kb, koff, kcap, rfl, y2, y3⟩
  refine ⟨ka, kb, koff, kcap, by rw [Exs.toL_len], by rw [Exs.toL_len]; exact y2, fun i hi => ?_⟩
  have := ExsIn_at y3 i hi
  rwa [Nat.zero_add] at this
 ·rintro ⟨ka, kb, koff, kcap, rfl, y2, y3⟩
  rw [Exs.toL_len] at y2 ⊢
  exact ⟨ka, kb, koff, kcap, rfl, y2, ExsIn_of fun i hi => by rw [Nat.zero_add]; exact y3 i hi⟩
abbrev SB := SH × Exs × Sts × Sts
def Sts.toL : Sts → List SB
 | .nil => []
 | .cons h x b e r => (h, x, b, e) :: r.toL
theorem Sts.toL_len : ∀ l : Sts, l.toL.length = l.len
 | .nil => rfl
 | .cons h x b e r => by simp [Sts.toL, Sts.len, Sts.toL_len r]
theorem Sts.toL_sz : ∀ (l : Sts) (a : SB), a ∈ l.toL → a.2.1.sz + a.2.2.1.sz + a.2.2.2.sz < l.sz
 | .nil, _, h => by cases h
 | .cons h x b e r, a, hm => by
  rcases List.mem_cons.1 hm with rfl | h'
  ·simp only [Sts.sz]; omega
  ·have := Sts.toL_sz r a h'; simp only [Sts.sz]; omega
structure StmR (w : World) (p : Bool) (o : Option (Nat → Prop)) (a : SB) (b q : Nat) : Prop where
 head : HeadS w p a.1 b q
 exprs : ∃ v, w.cell? ⟨b, q + 5, none⟩ = some v ∧ SlE w p o a.2.1 v
 body : ∃ v, w.cell? ⟨b, q + 6, none⟩ = some v ∧ SlS w p o a.2.2.1 v
 els : ∃ v, w.cell? ⟨b, q + 7, none⟩ = some v ∧ SlS w p o a.2.2.2 v
theorem StsIn_at {w : World} {p : Bool} {o : Option (Nat → Prop)} {b off : Nat} : ∀ {l : Sts} {k : Nat}, StsIn w p o l b off k → ∀ i (h : i < l.toL.length), StmR w p o l.toL[i] b (off + (k + i) * 8)
 | .nil, k, _, i, h => by simp [Sts.toL] at h
 | .cons h ex body els rest, k, x, i, hi => by
  obtain ⟨x1, x2, x3, x4, x5⟩ := x.cons
  cases i with
  | zero => exact ⟨x1, x2, x3, x4⟩
  | succ i =>
   have := StsIn_at x5 i (by simpa [Sts.toL] using hi)
   rw [show k + 1 + i = k + (i + 1) by omega] at this
   exact this
theorem StsIn_of {w : World} {p : Bool} {o : Option (Nat → Prop)} {b off : Nat} : ∀ {l : Sts} {k : Nat}, (∀ i (h : i < l.toL.length), StmR w p o l.toL[i] b (off + (k + i) * 8)) → StsIn w p o l b off k
 | .nil, k, _ => trivial
 | .cons h ex body els rest, k, x => by
  have x0 := x 0 (by simp [Sts.toL])
  obtain ⟨v, x1, x2⟩ := x0.exprs
  obtain ⟨vb, x3, x4⟩ := x0.body
  obtain ⟨ve, x5, x6⟩ := x0.els
  refine StsIn.mk x0.head x1 x2 x3 x4 x5 x6 (StsIn_of fun i hi => ?_)
  have := x (i + 1) (by simpa [Sts.toL] using hi)
  rw [show k + (i + 1) = k + 1 + i by omega] at this
  exact this
theorem SlS_iff {w : World} {p : Bool} {o : Option (Nat → Prop)} {l : Sts} {v : Value} : SlS w p o l v ↔ SlR w o 109 8 (StmR w p o) l.toL v := by
 constructor
 ·rintro ⟨ka, kb, koff, kcap, rfl, y2, y3⟩
  refine ⟨ka, kb, koff, kcap, by rw [Sts.toL_len], by rw [Sts.toL_len]; exact y2, fun i hi => ?_⟩
  have := StsIn_at y3 i hi
  rwa [Nat.zero_add] at this
 ·rintro ⟨ka, kb, koff, kcap, rfl, y2, y3⟩
  rw [Sts.toL_len] at y2 ⊢
  exact ⟨ka, kb, koff, kcap, rfl, y2, StsIn_of fun i hi => by rw [Nat.zero_add]; exact y3 i hi⟩
/-! ### a list of records that is being built -/
def Bld {α : Type} (w : World) (B : Nat) (e : TypeId) (n : Nat) (R : α → List Value → Prop) (l : List α) (v : Value) : Prop :=
 ∃ cs : List (List Value), cs.length = l.length ∧ (∀ i (h : i < l.length) (h' : i < cs.length), cs[i].length = n ∧ R l[i] cs[i]) ∧ w.ownsRow B e n v l.length cs.flatten
theorem flatten_len {n : Nat} : ∀ {cs : List (List Value)}, (∀ i (h : i < cs.length), cs[i].length = n) → cs.flatten.length = cs.length * n
 | [], _ => by simp
 | c :: cs, h => by
  have h0 := h 0 (by simp)
  have := flatten_len (cs := cs) (fun i hi => h (i + 1) (by simpa using hi))
  simp only [List.getElem_cons_zero] at h0
  simp only [List.flatten_cons, List.length_append, List.length_cons, this, h0, Nat.add_mul]
  omega
theorem flatten_at {n : Nat} : ∀ {cs : List (List Value)}, (∀ i (h : i < cs.length), cs[i].length = n) → ∀ i (h : i < cs.length) j, j < n → cs.flatten[i * n + j]? = cs[i][j]?
 | [], _, i, h, _, _ => by simp at h
 | c :: cs, h, i, hi, j, hj => by
  have h0 := h 0 (by simp)
  simp only [List.getElem_cons_zero] at h0
  cases i with
  | zero => simp only [List.flatten_cons, List.getElem_cons_zero]; rw [List.getElem?_append_left (by omega)]; simp
  | succ i =>
   have := flatten_at (cs := cs) (fun i hi => h (i + 1) (by simpa using hi)) i (by simpa using hi) j hj
   simp only [List.flatten_cons, List.getElem_cons_succ]
   rw [List.getElem?_append_right (by rw [h0, Nat.add_mul]; omega), h0, show (i + 1) * n + j - n = i * n + j by rw [Nat.add_mul]; omega]
   exact this
theorem Bld.nil {α : Type} (w : World) (B : Nat) (e : TypeId) (n : Nat) (R : α → List Value → Prop) : Bld w B e n R [] (.slice none 0 0) := ⟨[], rfl, fun i h => by simp at h, World.ownsRow_nil w B e n⟩
theorem Bld.push {α : Type} {w' : World} {B : Nat} {e : TypeId} {n : Nat} {R R' : α → List Value → Prop} {l : List α} {v' : Value} {cs : List (List Value)} {c : List Value} {a : α} (h1 : cs.length = l.length) (h2 : ∀ i (h : i < l.length) (h' : i < cs.length), cs[i].length = n ∧ R l[i] cs[i])
  (hA : w'.ownsRow B e n v' (l.length + 1) (cs.flatten ++ c)) (hc : c.length = n) (hR : ∀ a c, R a c → R' a c) (ha : R' a c) : Bld w' B e n R' (l ++ [a]) v' := by
 refine ⟨cs ++ [c], by simp [h1], fun i h h' => ?_, by simpa using hA⟩
 by_cases hi : i < l.length
 ·rw [List.getElem_append_left hi, List.getElem_append_left (by omega)]
  exact ⟨(h2 i hi (by omega)).1, hR _ _ (h2 i hi (by omega)).2⟩
 ·have : i = l.length := by simp at h; omega
  subst this
  rw [List.getElem_append_right (by omega), List.getElem_append_right (by omega)]
  simp only [h1, Nat.sub_self, List.getElem_cons_zero]
  exact ⟨hc, ha⟩
theorem Bld.on {α : Type} {w w' : World} {B : Nat} {e : TypeId} {n : Nat} {R R' : α → List Value → Prop} {l : List α} {v : Value} (h : Bld w B e n R l v) {row : Option Nat} (hg : w.grownBy w' row) (hne : v.ownBlock = none ∨ v.ownBlock ≠ row) (hR : ∀ a c, R a c → R' a c) : Bld w' B e n R' l v := by
 obtain ⟨cs, h1, h2, h3⟩ := h
 exact ⟨cs, h1, fun i h h' => ⟨(h2 i h h').1, hR _ _ (h2 i h h').2⟩, h3.kept hg hne⟩
theorem Bld.alloc {α : Type} {w : World} {B : Nat} {e : TypeId} {n : Nat} {R : α → List Value → Prop} {l : List α} {v : Value} (h : Bld w B e n R l v) (o : Obj) : Bld (w.alloc o) B e n R l v :=
 h.on (World.grownBy_alloc w o none) (by cases v.ownBlock <;> simp) (fun _ _ h => h)
theorem Bld.lt {α : Type} {w : World} {B : Nat} {e : TypeId} {n : Nat} {R : α → List Value → Prop} {l : List α} {v : Value} (h : Bld w B e n R l v) : ∀ k, v.ownBlock = some k → B ≤ k ∧ k < w.heap.size := by
 obtain ⟨cs, h1, h2, h3⟩ := h
 exact h3.lt
theorem Bld.done {α : Type} {w : World} {B : Nat} {e : TypeId} {n : Nat} {R : α → List Value → Prop} {Rel : α → Nat → Nat → Prop} {l : List α} {g m cap : Nat} {cs : List (List Value)} {mark : List Value} {Z : Nat → Prop} (h1 : cs.length = l.length) (h2 : ∀ i (h : i < l.length) (h' : i < cs.length), cs[i].length = n ∧ R l[i] cs[i])
  (h3 : w.ownsRow B e n (.slice (some ⟨g, 0, none⟩) m cap) m (cs.flatten ++ mark)) (hm : l.length < m) (hn : 0 < n) (hmk : mark[0]? = some (markV e)) (hZ : Z g) (hR : ∀ a c q, R a c → (∀ j, j < n → w.cell? ⟨g, q + j, none⟩ = c[j]?) → Rel a g q) : SlR w (some Z) e n Rel l (.slice (some ⟨g, 0, none⟩) l.length cap) := by
 refine ⟨some ⟨g, 0, none⟩, g, 0, cap, rfl, .inr ⟨rfl, fun Y hY => ?_⟩, fun i hi => ?_⟩
 ·cases hY
  have hfl : cs.flatten.length = l.length * n := by rw [flatten_len (fun i h => (h2 i (by omega) h).1), h1]
  have hlm : l.length * n < m * n := Nat.mul_lt_mul_of_pos_right hm hn
  have hcell : w.cell? ⟨g, l.length * n, none⟩ = some (markV e) := by
   rw [h3.cellAt _ hlm, List.getElem?_append_right (by omega), hfl, Nat.sub_self]
   exact hmk
  rcases h3.2 with ⟨h, _⟩ | ⟨g', cap', cur, hv, hb, hg, hcap, _⟩
  ·cases h
  ·cases hv
   exact ⟨hZ, rfl, ⟨cur, hg⟩, by omega, hcell⟩
 ·have hi' : i < cs.length := by omega
  have hl : ∀ i (h : i < cs.length), cs[i].length = n := fun i h => (h2 i (by omega) h).1
  refine hR _ _ _ (h2 i hi hi').2 (fun j hj => ?_)
  have hlt : i * n + j < cs.flatten.length := by
   rw [flatten_len hl]
   calc i * n + j < i * n + n := by omega
    _ = (i + 1) * n := by rw [Nat.add_mul]; omega
    _ ≤ cs.length * n := Nat.mul_le_mul_right _ (by omega)
  have hlt2 : i * n + j < m * n := by
   rw [flatten_len hl, h1] at hlt
   exact Nat.lt_of_lt_of_le hlt (Nat.mul_le_mul_right _ (Nat.le_of_lt hm))
  rw [Nat.zero_add, h3.cellAt (i * n + j) hlt2, List.getElem?_append_left hlt]
  exact flatten_at hl i hi' j hj
end
section
def ExpC (w : World) (Z : Nat → Prop) (a : EH × Exs) (c : List Value) : Prop :=
 ∃ v, c = [.int .i64 a.1.at_, .int .u8 a.1.kind, .int .u32 a.1.word, .int .u8 a.1.type, .string a.1.name, .string a.1.sign, v] ∧ SlE w true (some Z) a.2 v
def ZB (B N : Nat) (v : Value) : Nat → Prop := fun b => B ≤ b ∧ b < N ∧ some b ≠ v.ownBlock
theorem grown_weak {w w' : World} {row : Option Nat} (h : w.grownBy w' none) : w.grownBy w' row := ⟨h.os, h.tape, h.output, h.size, fun k hk _ => h.block k hk (by simp)⟩
structure StepOk (B : Nat) (wr w2 w3 : World) (x v' : Value) : Prop where
 grown : wr.grownBy w3 x.ownBlock
 grown2 : w2.grownBy w3 x.ownBlock
 oldz : ∀ b, ZB B wr.heap.size x b → ZB B w3.heap.size v' b
 new : ∀ b, (wr.heap.size ≤ b ∧ b < w2.heap.size) → some b ≠ x.ownBlock
 newz : ∀ b, (wr.heap.size ≤ b ∧ b < w2.heap.size) → ZB B w3.heap.size v' b
theorem mkStep {B base : Nat} {wr w2 w3 : World} {e : TypeId} {size n m : Nat} {x v' : Value} {xs news : List Value} (hg : wr.grownBy w2 none) (hA : Appended w2 w3 base e size x v' n m xs news) (hlt : ∀ k, x.ownBlock = some k → k < wr.heap.size) (hB : B ≤ wr.heap.size) : StepOk B wr w2 w3 x v' := by
 have h1 := hg.size
 have h2 := hA.grown.size
 have hne : ∀ b, b < w2.heap.size → some b ≠ x.ownBlock → some b ≠ v'.ownBlock := by
  intro b hb hx
  rcases hA.place with hp | ⟨g, hp, hg, _⟩
  ·rw [hp]; exact hx
  ·rw [hp]; intro h; cases h; omega
 have hnew : ∀ b, (wr.heap.size ≤ b ∧ b < w2.heap.size) → some b ≠ x.ownBlock := fun b hb h => by have := hlt b h.symm; omega
 refine ⟨grown_trans (grown_weak hg) hA.grown, hA.grown, fun b hb => ⟨hb.1, ?_, hne b ?_ hb.2.2⟩, hnew, fun b hb => ⟨?_, ?_, hne b hb.2 (hnew b hb)⟩⟩
 ·have := hb.2.1; omega
 ·have := hb.2.1; omega
 ·omega
 ·omega
theorem ExpC.step {B : Nat} {wr w2 w3 : World} {x v' : Value} (h : StepOk B wr w2 w3 x v') {a : EH × Exs} {c : List Value} (hc : ExpC wr (ZB B wr.heap.size x) a c) : ExpC w3 (ZB B w3.heap.size v') a c := by
 obtain ⟨v, hv, ht⟩ := hc
 exact ⟨v, hv, ht.move h.grown (fun b hb => hb.2.2) h.oldz⟩
theorem ExpR.of {w : World} {Z : Nat → Prop} {a : EH × Exs} {c : List Value} {g q : Nat} (h : ExpC w Z a c) (hc : ∀ j, j < 7 → w.cell? ⟨g, q + j, none⟩ = c[j]?) : ExpR w true (some Z) a g q := by
 obtain ⟨v, rfl, ht⟩ := h
 exact ⟨⟨⟨_, hc 0 (by omega), fun _ => rfl⟩, hc 1 (by omega), hc 2 (by omega), hc 3 (by omega), hc 4 (by omega), hc 5 (by omega)⟩, ⟨v, hc 6 (by omega), ht⟩⟩
theorem ExpC.weak {w : World} {Z Z' : Nat → Prop} {a : EH × Exs} {c : List Value} (h : ExpC w Z a c) (hz : ∀ b, Z b → Z' b) : ExpC w Z' a c := by
 obtain ⟨v, hv, ht⟩ := h
 exact ⟨v, hv, ht.move (grown_refl w none) (fun _ _ => by simp) hz⟩
theorem grown_put {w w' : World} {pb off : Nat} (h : w.grownBy w' (some pb)) (x : Value) : w.grownBy (w'.setCell ⟨pb, off, none⟩ x) (some pb) :=
 grown_trans h ⟨rfl, rfl, rfl, by simp [World.setCell], fun k _ hk => Below.heap_setCell _ _ _ _ (fun e => hk (by rw [e]))⟩
theorem grown_of_below {w w' : World} (h : Below w.heap.size w w') : w.grownBy w' none := ⟨h.os, h.tape, h.output, h.size, fun k hk _ => h.block k hk⟩
end
section
def Bx (w : World) (q : Nat) (cs : Array Value) (t : TypeId) : Prop := w.heap[q]? = some (.cells cs t (0, 0))
theorem Bx.cell {w : World} {q : Nat} {cs : Array Value} {t : TypeId} (h : Bx w q cs t) (i : Nat) : w.cell? ⟨q, i, none⟩ = cs[i]? := by
 unfold Bx at h
 simp [World.cell?, h]
theorem Bx.free {w : World} {q : Nat} {cs : Array Value} {t : TypeId} (h : Bx w q cs t) (i : Nat) : w.frozen? ⟨q, i, none⟩ = false := by
 unfold Bx at h
 simp [World.frozen?, h]
theorem Bx.lt {w : World} {q : Nat} {cs : Array Value} {t : TypeId} (h : Bx w q cs t) : q < w.heap.size := lt_of_block h
theorem Bx.new (w : World) (cs : Array Value) (t : TypeId) : Bx (w.alloc (.cells cs t)) w.heap.size cs t := heap_alloc_new w _
theorem Bx.on {w w' : World} {q : Nat} {cs : Array Value} {t : TypeId} (h : Bx w q cs t) {row : Option Nat} (hg : w.grownBy w' row) (hn : some q ≠ row) : Bx w' q cs t := (hg.block q h.lt hn).trans h
theorem Bx.set {w : World} {q : Nat} {cs : Array Value} {t : TypeId} (h : Bx w q cs t) (i : Nat) (v : Value) : Bx (w.setCell ⟨q, i, none⟩ v) q (cs.set! i v) t := by
 have hlt := h.lt
 have h' : w.heap[q] = .cells cs t (0, 0) := by have := h; unfold Bx at this; simpa [Array.getElem?_eq_getElem hlt] using this
 show (w.heap.modify q _)[q]? = _
 rw [Array.getElem?_eq_getElem (by simpa using hlt), Array.getElem_modify_self, h']
 rfl
def StmC (w : World) (Z : Nat → Prop) (a : SB) (c : List Value) : Prop :=
 ∃ v5 v6 v7, c = [.int .i64 a.1.at_, .int .u8 a.1.kind, .string a.1.name, .int .u8 a.1.type, .string a.1.sign, v5, v6, v7] ∧ SlE w true (some Z) a.2.1 v5 ∧ SlS w true (some Z) a.2.2.1 v6 ∧ SlS w true (some Z) a.2.2.2 v7
theorem StmC.step {B : Nat} {wr w2 w3 : World} {x v' : Value} (h : StepOk B wr w2 w3 x v') {a : SB} {c : List Value} (hc : StmC wr (ZB B wr.heap.size x) a c) : StmC w3 (ZB B w3.heap.size v') a c := by
 obtain ⟨v5, v6, v7, hv, h5, h6, h7⟩ := hc
 exact ⟨v5, v6, v7, hv, h5.move h.grown (fun b hb => hb.2.2) h.oldz, h6.move h.grown (fun b hb => hb.2.2) h.oldz, h7.move h.grown (fun b hb => hb.2.2) h.oldz⟩
theorem StmC.weak {w : World} {Z Z' : Nat → Prop} {a : SB} {c : List Value} (h : StmC w Z a c) (hz : ∀ b, Z b → Z' b) : StmC w Z' a c := by
 obtain ⟨v5, v6, v7, hv, h5, h6, h7⟩ := h
 exact ⟨v5, v6, v7, hv, h5.move (grown_refl w none) (fun _ _ => by simp) hz, h6.move (grown_refl w none) (fun _ _ => by simp) hz, h7.move (grown_refl w none) (fun _ _ => by simp) hz⟩
theorem StmR.of {w : World} {Z : Nat → Prop} {a : SB} {c : List Value} {g q : Nat} (h : StmC w Z a c) (hc : ∀ j, j < 8 → w.cell? ⟨g, q + j, none⟩ = c[j]?) : StmR w true (some Z) a g q := by
 obtain ⟨v5, v6, v7, rfl, h5, h6, h7⟩ := h
 exact ⟨⟨⟨_, hc 0 (by omega), fun _ => rfl⟩, hc 1 (by omega), hc 2 (by omega), hc 3 (by omega), hc 4 (by omega)⟩, ⟨v5, hc 5 (by omega), h5⟩, ⟨v6, hc 6 (by omega), h6⟩, ⟨v7, hc 7 (by omega), h7⟩⟩
abbrev SW (w : World) (a0 a1 : Int) (a2 : ByteArray) (a3 : Int) (a4 : ByteArray) (v5 v6 v7 : Value) : World := w.alloc (.cells #[.int .i64 a0, .int .u8 a1, .string a2, .int .u8 a3, .string a4, v5, v6, v7] 109)
end
section
open Go.Shelf
attribute [local go_sem] Oper.semAt_some
def Row5 (base n : Nat) (v : Value) (w : World) : Prop := ∃ xs, w.ownsRow base 5 1 v n xs
def App (base n : Nat) (v : Value) (w : World) (e : Ending) (w' : World) : Prop := ∃ v' m, e = .returned v' ∧ Row5 base m v' w' ∧ m ≤ n + 4 ∧ Below base w w' ∧ w.grownBy w' v.ownBlock
theorem app_of {base n m : Nat} {w w' : World} {v v' : Value} {xs news : List Value} (hA : Appended w w' base 5 1 v v' n m xs news) (h : w.ownsRow base 5 1 v n xs) (hB : base ≤ w.heap.size) (hm : m ≤ 4) : App base n v w (.returned v') w' :=
 ⟨v', n + m, rfl, ⟨_, hA.own⟩, by omega, (Below.refl base w).grown hA.grown hB (fun k hk => (h.lt k hk).1), hA.grown⟩
theorem append116 (base n : Nat) (v : Value) (r : Int) (w : World) (hv : Row5 base n v w) (hn : n ≤ 100000000) (hB : base ≤ w.heap.size) : Calls Tryz.prog 299 #[v, .int .i32 r] w (App base n v w) := by
 obtain ⟨xs, ho⟩ := hv
 have hO := hid ho
 have hlt : n ≤ 100000000 := hn
 clear ho hn
 go_enter Tryz.func299, Tryz.ntmps299
 go_wp2_with (first
  | (at_builtin; refine wpList_append_str rfl _ _ 295 rfl base 5 5 (.int .u8 0) 1 1 2 Tryz.underlying295 (by kernel_rfl) rfl (by decide) _ n _ [_, _] (0, 0) hO.out rfl (by simp [Value.oneCell']) (by unfold maxLen; omega) (by omega) hB rfl rfl ?_; intro v' w' hA; have hA' := hid hA; clear hA)
  | (at_builtin; refine wpList_append_str rfl _ _ 295 rfl base 5 5 (.int .u8 0) 1 1 3 Tryz.underlying295 (by kernel_rfl) rfl (by decide) _ n _ [_, _, _] (0, 0) hO.out rfl (by simp [Value.oneCell']) (by unfold maxLen; omega) (by omega) hB rfl rfl ?_; intro v' w' hA; have hA' := hid hA; clear hA)
  | (at_builtin; refine wpList_append_str rfl _ _ 295 rfl base 5 5 (.int .u8 0) 1 1 4 Tryz.underlying295 (by kernel_rfl) rfl (by decide) _ n _ [_, _, _, _] (0, 0) hO.out rfl (by simp [Value.oneCell']) (by unfold maxLen; omega) (by omega) hB rfl rfl ?_; intro v' w' hA; have hA' := hid hA; clear hA))
 all_goals
  go_ret
  exact app_of hA'.out hO.out hB (by omega)
theorem append109 (base n : Nat) (v : Value) (r : Int) (w : World) (hv : Row5 base n v w) (hn : n ≤ 100000000) (hB : base ≤ w.heap.size) : Calls Tryz.prog 279 #[v, .int .i32 r] w (App base n v w) := by
 have hcall := hid (append116 base n v r w hv hn hB)
 obtain ⟨xs, ho⟩ := hv
 have hO := hid ho
 have hlt : n ≤ 100000000 := hn
 clear ho hn
 go_enter Tryz.func279, Tryz.ntmps279
 go_wp2_with (at_builtin; refine wpList_append_str rfl _ _ 295 rfl base 5 5 (.int .u8 0) 1 1 1 Tryz.underlying295 (by kernel_rfl) rfl (by decide) _ n _ [_] (0, 0) hO.out rfl (by simp [Value.oneCell']) (by unfold maxLen; omega) (by omega) hB rfl rfl ?_; intro v' w' hA; have hA' := hid hA; clear hA)
 ·go_ret
  exact app_of hA'.out hO.out hB (by omega)
 ·refine hcall.out.mono ?_
  rintro e w2 ⟨v', m, rfl, h1, h2, h3⟩
  have H := hid (And.intro h1 (And.intro h2 h3))
  clear h1 h2 h3 hcall hO
  go_wp2_with fail
  go_ret
  exact ⟨_, _, rfl, H.out.1, H.out.2.1, H.out.2.2.1, H.out.2.2.2⟩
def Say (s : ByteArray) (w : World) (e : Ending) (w' : World) : Prop :=
 (∃ (c : Int) (b : Bool) (sz er : Int), e = .returned (.tuple #[.agg #[.int .i32 c, .bool b, .int .i64 sz], .int .i64 er]) ∧ (er = 0 → 1 ≤ sz ∧ sz ≤ 6)) ∧ Below w.heap.size w w'
structure Sy (w W : World) (c : Int) (b : Bool) (sz er : Int) : Prop where
 t : Bx W w.heap.size #[.int .i32 c, .bool b, .int .i64 sz] 337
 e : Bx W (w.heap.size + 1) #[.int .i64 er] 32
theorem Sy.cells {w W : World} {c : Int} {b : Bool} {sz er : Int} (h : Sy w W c b sz er) : (W.cell? ⟨w.heap.size, 0, none⟩ = some (.int .i32 c) ∧ W.cell? ⟨w.heap.size, 1, none⟩ = some (.bool b) ∧ W.cell? ⟨w.heap.size, 2, none⟩ = some (.int .i64 sz)) ∧ W.cell? ⟨w.heap.size + 1, 0, none⟩ = some (.int .i64 er) ∧ (∀ i, W.frozen? ⟨w.heap.size, i, none⟩ = false) ∧ W.frozen? ⟨w.heap.size + 1, 0, none⟩ = false :=
 ⟨⟨h.t.cell 0, h.t.cell 1, h.t.cell 2⟩, h.e.cell 0, h.t.free, h.e.free 0⟩
theorem Sy.on {w W W' : World} {c : Int} {b : Bool} {sz er : Int} (h : Sy w W c b sz er) {row : Option Nat} (hg : W.grownBy W' row) (h1 : some w.heap.size ≠ row) (h2 : some (w.heap.size + 1) ≠ row) : Sy w W' c b sz er := ⟨h.t.on hg h1, h.e.on hg h2⟩
theorem Sy.start (w : World) (er : Int := 0) : Sy w ((w.alloc (.cells #[.int .i32 0, .bool false, .int .i64 0] 337)).alloc (.cells #[.int .i64 er] 32)) 0 false 0 er where
 t := (Bx.new w _ _).on (World.grownBy_alloc _ _ none) (by simp)
 e := by have := Bx.new (w.alloc (.cells #[.int .i32 0, .bool false, .int .i64 0] 337)) #[.int .i64 er] 32; simpa using this
theorem Sy.put {w W : World} {c : Int} {b : Bool} {sz er : Int} (h : Sy w W c b sz er) (c' : Int) (b' : Bool) (sz' er' : Int) : Sy w ((((W.setCell ⟨w.heap.size, 0, none⟩ (.int .i32 c')).setCell ⟨w.heap.size, 1, none⟩ (.bool b')).setCell ⟨w.heap.size, 2, none⟩ (.int .i64 sz')).setCell ⟨w.heap.size + 1, 0, none⟩ (.int .i64 er')) c' b' sz' er' where
 t := (((h.t.set 0 _).set 1 _).set 2 _).on (grown_put (grown_refl _ (some (w.heap.size + 1))) _) (by simp)
 e := (h.e.on (row := some w.heap.size) (grown_put (grown_put (grown_put (grown_refl _ _) _) _) _) (by simp)).set 0 _
theorem Sy.below {w W : World} (h : Below w.heap.size w W) (x0 x1 x2 x3 : Value) : Below w.heap.size w ((((W.setCell ⟨w.heap.size, 0, none⟩ x0).setCell ⟨w.heap.size, 1, none⟩ x1).setCell ⟨w.heap.size, 2, none⟩ x2).setCell ⟨w.heap.size + 1, 0, none⟩ x3) := (((h.setCell (by simp) _).setCell (by simp) _).setCell (by simp) _).setCell (by simp) _
theorem Sy.res {tmps : Array Value} {w W : World} {c : Int} {b : Bool} {sz er : Int} (h : Sy w W c b sz er) (h4 : tmps.getD 4 undef = .pointer (some ⟨w.heap.size, 0, none⟩)) (h5 : tmps.getD 5 undef = .pointer (some ⟨w.heap.size + 1, 0, none⟩)) :
  (results Tryz.f278 tmps).run Tryz.prog W = .ok (.tuple #[.agg #[.int .i32 c, .bool b, .int .i64 sz], .int .i64 er]) W := by
 obtain ⟨⟨p0, p1, p2⟩, p3, _, _⟩ := h.cells
 have h4' : tmps[4]?.getD undef = .pointer (some ⟨w.heap.size, 0, none⟩) := by simpa using h4
 have h5' : tmps[5]?.getD undef = .pointer (some ⟨w.heap.size + 1, 0, none⟩) := by simpa using h5
 simp [results, Tryz.results278, go_sem, h4', h5', p0, p1, p2, p3]
theorem Sy.own {β : Type} {w : World} {c : β → Int} {b : β → Bool} {sz er : β → Int} : Own (fun s W => Sy w W (c s) (b s) (sz s) (er s)) := fun s X Y row hs hg hr => hs.on hg
 (fun e => by obtain ⟨o, ho, hc⟩ := hr _ e.symm; rw [show X.heap[w.heap.size]? = _ from hs.t] at ho; cases ho; cases hc)
 (fun e => by obtain ⟨o, ho, hc⟩ := hr _ e.symm; rw [show X.heap[w.heap.size + 1]? = _ from hs.e] at ho; cases ho; cases hc)
theorem decode_valid (s : ByteArray) (i : Nat) : (Utf8.decode s i).1 ≤ 1114111 ∧ ¬ (55296 ≤ (Utf8.decode s i).1 ∧ (Utf8.decode s i).1 ≤ 57343) := by
 have hb : ∀ k, (s.get! (i + k)).toNat < 256 := fun k => (s.get! (i + k)).toNat_lt
 have h0 := hb 0; have h1 := hb 1; have h2 := hb 2; have h3 := hb 3
 simp only [Utf8.decode]
 repeat' split
 all_goals simp_all [Utf8.runeError, Utf8.valid]
 all_goals omega
theorem cutsN_code (s : ByteArray) : ∀ n i (x : Nat × Int), x ∈ cutsN s n i → ∃ j, x.2 = codeAt s j
 | 0, _, _, h => by cases h
 | n + 1, i, x, h => by
  simp only [cutsN] at h
  split at h
  ·rcases List.mem_cons.1 h with rfl | h'
   ·exact ⟨i, rfl⟩
   ·exact cutsN_code s n _ x h'
  ·cases h
theorem cuts_len (s : ByteArray) (x : Nat × Int) (h : x ∈ cuts s) (h0 : 0 ≤ x.2) : 1 ≤ runeLen x.2 ∧ runeLen x.2 ≤ 6 := by
 obtain ⟨j, hj⟩ := cutsN_code s _ _ x h
 have hv := decode_valid s j
 rw [hj] at h0 ⊢
 unfold codeAt at h0 ⊢
 split at h0
 ·omega
 ·rename_i hn
  rw [if_neg hn]
  unfold runeLen
  repeat' split
  all_goals omega
theorem ko4 (w : World) (a : Addr) (x : Value) (b : Addr) (y : Value) (c : Addr) (z : Value) (d : Addr) (t : Value) : KeepsOthers w ((((w.setCell a x).setCell b y).setCell c z).setCell d t) := (((KeepsOthers.setCell _ _ _).trans (KeepsOthers.setCell _ _ _)).trans (KeepsOthers.setCell _ _ _)).trans (KeepsOthers.setCell _ _ _)
theorem say108 (s : ByteArray) (p : Nat) (w : World) (hs : s.size ≤ 1048576) (hp : p < s.size) : Calls Tryz.prog 278 #[.string s, .int .i64 p] w (Say s w) := by
 refine (callsIn_wide (n := 5)).1 ?_
 refine callsIn_of_wp_marks Tryz.func278 rfl trivial ?_ rfl
 simp only [Tryz.ntmps278, List.size_toArray, List.length_cons, List.length_nil, Nat.reduceAdd, Nat.reduceSub, Array.replicate_succ, Array.replicate_zero, List.push_toArray, List.append_toArray, List.nil_append, List.cons_append]
 have hS0 := hid (Sy.start w)
 have hB0 := hid (below2 w (.cells #[.int .i32 0, .bool false, .int .i64 0] 337) (.cells #[.int .i64 0] 32))
 by_cases h92 : (s[p]'hp).toNat = 92
 ·have hq : (((s[p]'hp).toNat : Int) == 92) = true := by simp; omega
  gi_wp2
  refine ⟨trivial, ?_⟩
  refine (callsIn_wide.2 (escape114 (s.extract p s.size) _ (by simp; omega))).mono ?_
  rintro e w1 ⟨⟨c, b, sz, ok, rfl, hok⟩, hb⟩
  have hS1 := hid (hS0.out.on (grown_of_below hb) (by simp) (by simp))
  have hB1 := hid (hB0.out.trans (hb.mono hB0.out.size))
  obtain ⟨⟨p0, p1, p2⟩, p3, p4, p5⟩ := hS1.out.cells
  have hl1 := hS1.out.t.lt
  have hl2 := hS1.out.e.lt
  have hok' := hid hok
  clear hb hok
  cases ok
  ·gi_wp2
   exact ⟨_, ((hS1.out.put 0 false 0 12).on (World.grownBy_alloc _ _ none) (by simp) (by simp)).res rfl rfl, ⟨_, _, _, _, rfl, fun h => by cases h⟩, (Sy.below hB1.out _ _ _ _).alloc (by simp; omega) _⟩
  ·gi_wp2
   exact ⟨_, ((hS1.out.put c b sz 0).on (World.grownBy_alloc _ _ none) (by simp) (by simp)).res rfl rfl, ⟨_, _, _, _, rfl, fun _ => by have := hok'.out trivial; omega⟩, (Sy.below hB1.out _ _ _ _).alloc (by simp; omega) _⟩
 ·have hq : (((s[p]'hp).toNat : Int) == 92) = false := by simp; omega
  obtain ⟨W0, hW0⟩ : ∃ W0, W0 = ((w.alloc (.cells #[.int .i32 0, .bool false, .int .i64 0] 337)).alloc (.cells #[.int .i64 0] 32)).alloc (.cells #[.string (s.extract p s.size)] 9) := ⟨_, rfl⟩
  have hS1 : Hid (Sy w W0 0 false 0 0) := hid (by rw [hW0]; exact hS0.out.on (World.grownBy_alloc _ _ none) (by simp) (by simp))
  have hB1 : Hid (Below w.heap.size w W0) := hid (by rw [hW0]; exact hB0.out.alloc (by simp; omega) _)
  have hsz : W0.heap.size = w.heap.size + 3 := by rw [hW0]; simp
  have b7 : Boxed W0 (w.heap.size + 1 + 1) 9 (.string (s.extract p s.size)) := by
   rw [hW0]; have := Boxed.new ((w.alloc (.cells #[.int .i32 0, .bool false, .int .i64 0] 337)).alloc (.cells #[.int .i64 0] 32)) 9 (.string (s.extract p s.size)); simpa using this
  gi_wp2
  ·exact ⟨_, (Sy.start w 10).res rfl rfl, ⟨_, _, _, _, rfl, fun h => by cases h⟩, below2 _ _ _⟩
  rotate_left
  ·exact ⟨_, (Sy.start w 10).res rfl rfl, ⟨_, _, _, _, rfl, fun h => by cases h⟩, below2 _ _ _⟩
  refine ⟨trivial, ?_⟩
  refine (callsIn_wide.2 (cutting74 _ _)).mono ?_
  rintro e w1 ⟨rfl, rfl⟩
  gi_wp2
  rw [← hW0]
  refine wpIn_rangeFunc_ownF (w0 := W0) rfl (by omega) (gf := 253) (lb := #[.pointer (some ⟨w.heap.size + 1 + 1, 0, none⟩)]) rfl trivial (enters_of Tryz.func253 (by kernel_rfl) rfl)
   (cut_stops 4 (by omega) (w.heap.size + 1 + 1) W0.heap.size (s.extract p s.size) (by simp; omega) W0 (by omega) (Nat.le_refl _) b7.cell) Kc.t (Kc.b (Nat.le_refl _)) (Below.refl _ _) (fun _ => rfl)
   (fun pre W => Below W0.heap.size W0 W)
   (fun c pre W => (∃ (q : List (Nat × Int) × (Nat × Int) × Int × Bool × Int × Int), (c = .ret ∧ pre = q.1 ++ [q.2.1] ∧ (q.2.2.2.2.2 = 0 → 0 ≤ q.2.1.2 ∧ q.2.2.2.2.1 = runeLen q.2.1.2)) ∧ Sy w W q.2.2.1 q.2.2.2.1 q.2.2.2.2.1 q.2.2.2.2.2) ∧ Below w.heap.size w W)
   (ownFrom_below (Nat.le_refl _) (Nat.le_refl _))
   (fun c => OwnFrom.and (Own.from (fun s' A B row hs hg hr => by obtain ⟨q, h1, h2⟩ := hs; exact ⟨q, h1, Sy.own (c := fun _ : Unit => q.2.2.1) (b := fun _ => q.2.2.2.1) (sz := fun _ => q.2.2.2.2.1) (er := fun _ => q.2.2.2.2.2) () A B row h2 hg hr⟩) _) (ownFrom_below (Nat.le_refl _) (by first | omega | (rw [← hW0]; omega) | (simp; omega))))
   (Below.refl _ _)
   (fun x => { tmps := #[.string s, .int .i64 p, undef, undef, .pointer (some ⟨w.heap.size, 0, none⟩), .pointer (some ⟨w.heap.size + 1, 0, none⟩), undef, undef, undef, .int .i32 x.2, .string s, .int .i64 p, .int .u8 ((s[p]'hp).toNat : Int), .bool false, undef, undef, undef, undef, undef, undef, undef, undef, undef, undef, undef, .string s, .int .i64 p, .int .u8 ((s[p]'hp).toNat : Int), .bool (decide (((s[p]'hp).toNat : Int) < 32)), .bool (decide (((s[p]'hp).toNat : Int) < 32)), .string s, .int .i64 p, .int .u8 ((s[p]'hp).toNat : Int), .bool false, .bool (decide (((s[p]'hp).toNat : Int) < 32)), undef, .string s, .int .i64 p, .string (s.extract p s.size), .func (.func 253) #[] #[.pointer (some ⟨w.heap.size + 1 + 1, 0, none⟩)], .int .i64 x.1, .int .i32 x.2, undef, undef, undef, undef, undef, undef, undef, undef], defers := [] }) ?assign ?body ?done ?stop
  case assign =>
   intro l x W K hK
   gi_wp2
   exact hK
  case body =>
   rintro l pre x W hB _
   have hS2 := hS1.out.on (grown_of_below hB) (by simp) (by simp)
   obtain ⟨⟨p0, p1, p2⟩, p3, p4, p5⟩ := hS2.cells
   have hS2' := hid hS2
   clear hS2
   have hcall := runelen115 x.2 W
   have hBB := hid (hB1.out.trans (hB.mono (by omega)))
   gi_wp2_with (refine ⟨trivial, ?_⟩; gi_at_call 298; refine (CallsIn.inRound l (callsIn_wide.2 hcall)).mono ?_; rintro e w' ⟨rfl, rfl⟩)
   ·exact ⟨ko4 _ _ _ _ _ _ _ _ _, ⟨(pre, x, 0, false, 0, 13), ⟨rfl, rfl, fun h => by simp at h⟩, hS2'.out.put 0 false 0 13⟩, Sy.below hBB.out _ _ _ _⟩
   ·exact ⟨ko4 _ _ _ _ _ _ _ _ _, ⟨(pre, x, x.2, false, runeLen x.2, 0), ⟨rfl, rfl, fun h => ⟨by omega, rfl⟩⟩, hS2'.out.put x.2 false (runeLen x.2) 0⟩, Sy.below hBB.out _ _ _ _⟩
  case done =>
   rintro D ys W hD rfl hB hK
   have hS2 := hS1.out.on (grown_of_below hB) (by simp) (by simp)
   obtain ⟨⟨p0, p1, p2⟩, p3, p4, p5⟩ := hS2.cells
   have hS2' := hid hS2
   clear hS2
   have hBB := hid (hB1.out.trans (hB.mono (by omega)))
   gi_wp2
   have hK2 := (ko4 W ⟨w.heap.size, 0, none⟩ (.int .i32 0) ⟨w.heap.size, 1, none⟩ (.bool false) ⟨w.heap.size, 2, none⟩ (.int .i64 0) ⟨w.heap.size + 1, 0, none⟩ (.int .i64 13)).same D _ hK rfl
   refine ⟨by simp, .inl ⟨_, _, rfl, run_takeDeferred hK2, ?_⟩⟩
   exact ⟨_, ((hS2'.out.put 0 false 0 13).on (grownBy_putObj' _ D (.deferred none)) (by simp; omega) (by simp; omega)).res rfl rfl, ⟨_, _, _, _, rfl, fun h => by simp at h⟩, (Sy.below hBB.out _ _ _ _).trans (belowK_b (w := W0) (by omega) _ D _ _ hD hK2 rfl rfl)⟩
  case stop =>
   rintro D c pre W hD hpre ⟨⟨⟨q1, q2, c, b, sz, er⟩, ⟨rfl, rfl, hq0⟩, hSq⟩, hB⟩ hK
   have hSq' := hid hSq
   have hx : q2 ∈ cuts (s.extract p s.size) := by obtain ⟨rest, hr⟩ := hpre; rw [← hr]; simp
   have hq' := hid hq0
   clear hSq hq0
   gi_wp2
   refine ⟨by simp, .inl ⟨_, _, rfl, run_takeDeferred hK, ?_⟩⟩
   exact ⟨_, (hSq'.out.on (grownBy_putObj' _ D (.deferred none)) (by simp; omega) (by simp; omega)).res rfl rfl, ⟨_, _, _, _, rfl, fun h => by obtain ⟨h1, h2⟩ := hq'.out h; rw [h2]; exact cuts_len _ _ hx h1⟩, hB.trans (belowK_b (w := W0) (by omega) _ D _ _ hD hK rfl rfl)⟩
end
section
open Go.Shelf
attribute [local go_sem] Oper.semAt_some
theorem quoted98 (s : ByteArray) (p : Nat) (w : World) (hs : s.size ≤ 1048576) (hp : p < s.size) :
  Calls Tryz.prog 255 #[.string s, .int .i64 p] w fun e w' => (∃ (k : Nat) (b : Bool), e = .returned (.tuple #[.int .i64 k, .bool b]) ∧ (b = true → p < k ∧ k ≤ s.size)) ∧ w' = w := by
 go_enter Tryz.func255, Tryz.ntmps255
 go_wp2_with fail
 go_loopw [6] (fun x wr => ∃ k : Nat, x = .int .i64 k ∧ p < k ∧ k ≤ s.size + 1 ∧ wr = w) (fun x _ => s.size + 2 - (intOf x).toNat)
 case atStart => exact ⟨p + 1, by go_num, by omega, by omega, rfl⟩
 case round =>
  obtain ⟨k, rfl, hk, hk2, rfl⟩ := hrel
  by_cases hlt : k < s.size
  ·go_wp2_with fail
   ·go_ret2
    exact ⟨⟨k + 1, true, by go_num, fun _ => by omega⟩, rfl⟩
   ·go_roundw
    case rel => exact ⟨k + 2, by go_num, by omega, by omega, trivial⟩
    case measure => simp [intOf]; omega
   ·go_ret2
    exact ⟨⟨0, false, rfl, fun h => by cases h⟩, rfl⟩
   ·go_roundw
    case rel => exact ⟨k + 1, by go_num, by omega, by omega, trivial⟩
    case measure => simp [intOf]; omega
  ·go_wp2_with fail
   go_ret2
   exact ⟨⟨0, false, rfl, fun h => by cases h⟩, rfl⟩
def Lit (w : World) (e : Ending) (w' : World) : Prop := (∃ (v : Value) (p er : Int), e = .returned (.tuple #[v, .int .i64 p, .int .i64 er])) ∧ Below w.heap.size w w'
theorem Row5.nil (B : Nat) (w : World) : Row5 B 0 (.slice none 0 0) w := ⟨[], World.ownsRow_nil _ _ _ _⟩
theorem Row5.on {B m : Nat} {v : Value} {w w' : World} (h : Row5 B m v w) (hb : Below w.heap.size w w') : Row5 B m v w' := by
 obtain ⟨xs, ho⟩ := h
 refine ⟨xs, ho.kept (grown_of_below hb) ?_⟩
 cases h : v.ownBlock
 ·exact .inl rfl
 ·exact .inr (by simp)
theorem bytes99 (s : ByteArray) (w : World) (hs : s.size ≤ 1048576) : Calls Tryz.prog 256 #[.string s] w (Lit w) := by
  go_enter Tryz.func256, Tryz.ntmps256
  by_cases h0 : s.size = 0
  · have : s = ByteArray.empty := by simpa using h0
    subst this
    go_wp2_with fail
    go_ret3
    exact ⟨⟨_, _, _, rfl⟩, Below.refl _ _⟩
  · cases hE : s.toList.isEmpty
    rotate_left
    · go_wp2_with fail
      go_ret3
      exact ⟨⟨_, _, _, rfl⟩, Below.refl _ _⟩
    have h9 : 0 < s.size := by omega
    by_cases h34 : (s[0]'h9).toNat = 34
    rotate_left
    · have hq : (((s[0]'h9).toNat : Int) != 34) = true := by simp; omega
      go_wp2_with fail
      go_ret3
      exact ⟨⟨_, _, _, rfl⟩, Below.refl _ _⟩
    have hq : (((s[0]'h9).toNat : Int) != 34) = false := by simp; omega
    go_wp2_with fail
    go_loopw [5, 6] (fun x i wr => ∃ (k m : Nat), i = .int .i64 k ∧ 1 ≤ k ∧ k ≤ s.size + 6 ∧ m ≤ 4 * k ∧ Row5 w.heap.size m x wr ∧ Below w.heap.size w wr) (fun _ i _ => s.size + 6 - (intOf i).toNat)
    case atStart => exact ⟨1, 0, rfl, by omega, by omega, by omega, Row5.nil _ _, Below.refl _ _⟩
    case round =>
      obtain ⟨k, m, rfl, hk, hk2, hm, hrow, hb⟩ := hrel
      by_cases hlt : k < s.size
      · have hcall := hid (say108 s k wr hs hlt)
        have hR := hid hrow
        have hB := hid hb
        clear hrow hb
        go_wp2_with fail
        · go_ret3
          exact ⟨⟨_, _, _, rfl⟩, hB.out⟩
        · go_ret3
          exact ⟨⟨_, _, _, rfl⟩, hB.out⟩
        refine hcall.out.mono ?_
        rintro e w1 ⟨⟨c, b, sz, er, rfl, hsz⟩, hb1⟩
        have hB1 := hid ((hB.out.trans (hb1.mono hB.out.size)).alloc (by have := hB.out.size; have := hb1.size; omega) (.cells #[.int .i32 c, .bool b, .int .i64 sz] 337))
        have hR2 := hid (And.intro hb1.size (fun k hk => by obtain ⟨xs, ho⟩ := hR.out; exact ho.lt k hk : ∀ k, u5.ownBlock = some k → w.heap.size ≤ k ∧ k < wr.heap.size))
        have hR1 := hid ((hR.out.on hb1).on ((Below.refl _ _).alloc (Nat.le_refl _) (.cells #[.int .i32 c, .bool b, .int .i64 sz] 337)))
        clear hb1
        by_cases her : er = 0
        · subst her
          obtain ⟨sn, rfl⟩ : ∃ n : Nat, sz = n := ⟨sz.toNat, by have := hsz rfl; omega⟩
          have hZ : 1 ≤ sn ∧ sn ≤ 6 := by have := hsz rfl; omega
          clear hsz
          obtain ⟨xs, hO0⟩ := hR1.out
          have hO := hid hO0
          have hne : some w1.heap.size ≠ u5.ownBlock := fun e => by
            have := (hR2.out.2 _ e.symm).2
            have := hR2.out.1
            omega
          have hsz9 : w.heap.size ≤ (w1.alloc (.cells #[.int .i32 c, .bool b, .int .i64 sn] 337)).heap.size := hB1.out.size
          clear hO0
          have hcall2 := fun r => hid (append109 w.heap.size m _ r _ hR1.out (by omega) hsz9)
          cases b
          all_goals go_wp2_with (first
            | (go_loud (at_builtin; refine wpList_append_str rfl _ _ 295 rfl w.heap.size 5 5 (.int .u8 0) 1 1 1 Tryz.underlying295 (by kernel_rfl) rfl (by decide) _ m _ [_] (0, 0) hO.out rfl (by simp [Value.oneCell']) (by unfold maxLen; omega) (by omega) hsz9 rfl (by first | rfl | exact congrArg (fun n => Value.slice (some ⟨n, 0, none⟩) 1 1) (by simp) | (simp [go_sem]; done)) ?_; intro v' w' hA; have hA' := hid (app_of hA hO.out hsz9 (by omega)); have hX := (Bx.new w1 #[.int .i32 c, .bool true, .int .i64 sn] 337).on hA.grown hne; have p0 := hX.cell 0; have p1 := hX.cell 1; have p2 := hX.cell 2; have hlt9 := hX.lt; clear hX; clear hA))
            | (go_at_call 279; refine (hcall2 _).out.mono ?_; intro e2 w2 hA; have hA' := hid hA; clear hA; obtain ⟨v3, m3, rfl, _, _, _, hG⟩ := hA'.out; have hX := (Bx.new w1 #[.int .i32 c, .bool false, .int .i64 sn] 337).on hG hne; have p0 := hX.cell 0; have p1 := hX.cell 1; have p2 := hX.cell 2; have hlt9 := hX.lt; clear hX hG))
          all_goals
            obtain ⟨v2, m2, hv2, h2, h3, h4, h5⟩ := hA'.out
            cases hv2
            go_roundw
            case rel => exact ⟨k + sn, m2, by go_num, by omega, by omega, by omega, h2, hB1.out.trans h4⟩
            case measure => simp [intOf]; omega
        · go_wp2_with fail
          all_goals
            first
              | (go_ret3
                 exact ⟨⟨_, _, _, rfl⟩, hB1.out⟩)
              | (exfalso; simp_all; done)
      · go_wp2_with fail
        go_ret3
        exact ⟨⟨_, _, _, rfl⟩, hb⟩
end
section
open Go.Shelf
attribute [local go_sem] Oper.semAt_some
theorem rune100 (s : ByteArray) (w : World) (hs : s.size ≤ 1048576) : Calls Tryz.prog 257 #[.string s] w (Lit w) := by
  go_enter Tryz.func257, Tryz.ntmps257
  by_cases h0 : s.size = 0
  · have : s = ByteArray.empty := by simpa using h0
    subst this
    go_wp2_with fail
    go_ret3
    exact ⟨⟨_, _, _, rfl⟩, Below.refl _ _⟩
  · cases hE : s.toList.isEmpty
    rotate_left
    · go_wp2_with fail
      go_ret3
      exact ⟨⟨_, _, _, rfl⟩, Below.refl _ _⟩
    have h9 : 0 < s.size := by omega
    by_cases h34 : (s[0]'h9).toNat = 39
    rotate_left
    · have hq : (((s[0]'h9).toNat : Int) != 39) = true := by simp; omega
      go_wp2_with fail
      go_ret3
      exact ⟨⟨_, _, _, rfl⟩, Below.refl _ _⟩
    have hq : (((s[0]'h9).toNat : Int) != 39) = false := by simp; omega
    by_cases h1 : s.size = 1
    · have hq1 : ((s.size : Int) == 1) = true := by simp; omega
      go_wp2_with fail
      go_ret3
      exact ⟨⟨_, _, _, rfl⟩, Below.refl _ _⟩
    have hq1 : ((s.size : Int) == 1) = false := by simp; omega
    have h2 : 1 < s.size := by omega
    by_cases h35 : (s[1]'h2).toNat = 39
    · have hq2 : (((s[1]'h2).toNat : Int) == 39) = true := by simp; omega
      go_wp2_with fail
      go_ret3
      exact ⟨⟨_, _, _, rfl⟩, Below.refl _ _⟩
    have hq2 : (((s[1]'h2).toNat : Int) == 39) = false := by simp; omega
    have hcall := hid (say108 s 1 w hs h2)
    go_wp2_with fail
    refine hcall.out.mono ?_
    rintro e w1 ⟨⟨c, b, sz, er, rfl, hsz⟩, hb1⟩
    have hB1 := hid (hb1.alloc (by have := hb1.size; omega) (.cells #[.int .i32 c, .bool b, .int .i64 sz] 337))
    clear hb1
    by_cases her : er = 0
    · subst her
      obtain ⟨sn, rfl⟩ : ∃ n : Nat, sz = n := ⟨sz.toNat, by have := hsz rfl; omega⟩
      have hZ : 1 ≤ sn ∧ sn ≤ 6 := by have := hsz rfl; omega
      clear hsz
      by_cases hge : s.size ≤ 1 + sn
      · go_wp2_with fail
        all_goals
          go_ret3
          exact ⟨⟨_, _, _, rfl⟩, hB1.out⟩
      · go_wp2_with fail
        all_goals
          go_ret3
          exact ⟨⟨_, _, _, rfl⟩, hB1.out⟩
    · go_wp2_with fail
      all_goals
        first
          | (go_ret3
             exact ⟨⟨_, _, _, rfl⟩, hB1.out⟩)
          | (exfalso; simp_all; done)
theorem literal80 (s : ByteArray) (p : Nat) (w : World) (hs : s.size ≤ 1048576) (hp : p < s.size) : Calls Tryz.prog 234 #[.string s, .int .i64 p] w
    fun e w' => (∃ k er : Int, e = .returned (.tuple #[.int .i64 k, .int .i64 er]) ∧ (er = 0 → ∃ n : Nat, k = n ∧ p < n ∧ n ≤ s.size)) ∧ Below w.heap.size w w' := by
  have hc98 := hid (quoted98 s p w hs hp)
  go_enter Tryz.func234, Tryz.ntmps234
  go_wp2_with fail
  refine hc98.out.mono ?_
  rintro e w1 ⟨⟨k, b, rfl, hb⟩, rfl⟩
  have hb' := hid hb
  clear hb
  cases b
  · go_wp2_with fail
    go_ret2
    exact ⟨⟨_, _, rfl, fun h => by simp at h⟩, Below.refl _ _⟩
  have hk := hb'.out rfl
  have hex : (s.extract p k).size ≤ 1048576 := by simp; omega
  have hc99 := hid (bytes99 (s.extract p k) w1 hex)
  have hc100 := hid (rune100 (s.extract p k) w1 hex)
  by_cases hq : (s[p]'hp).toNat = 34
  · have hq2 : (((s[p]'hp).toNat : Int) == 34) = true := by simp; omega
    go_wp2_with fail
    refine hc99.out.mono ?_
    rintro e w2 ⟨⟨v, p2, er, rfl⟩, hB⟩
    have hB' := hid hB
    clear hB
    by_cases her : er = 0
    · subst her
      go_wp2_with fail
      go_ret2
      exact ⟨⟨_, _, rfl, fun h => ⟨k, rfl, hk.1, hk.2⟩⟩, hB'.out⟩
    · go_wp2_with fail
      first
        | (go_ret2
           exact ⟨⟨_, _, rfl, fun h => absurd h her⟩, hB'.out⟩)
  · have hq2 : (((s[p]'hp).toNat : Int) == 34) = false := by simp; omega
    go_wp2_with fail
    refine hc100.out.mono ?_
    rintro e w2 ⟨⟨v, p2, er, rfl⟩, hB⟩
    have hB' := hid hB
    clear hB
    by_cases her : er = 0
    · subst her
      go_wp2_with fail
      go_ret2
      exact ⟨⟨_, _, rfl, fun h => ⟨k, rfl, hk.1, hk.2⟩⟩, hB'.out⟩
    · go_wp2_with fail
      first
        | (go_ret2
           exact ⟨⟨_, _, rfl, fun h => absurd h her⟩, hB'.out⟩)
end
section
open Go.Shelf
attribute [local go_sem] Oper.semAt_some
theorem merge8 {P : Program} {ops} {b : Bool} {y : Code} {Q : Exit → Act → World → Prop} {a : Act} {w : World} (R : Act → World → Prop)
  (h1 : ∀ K : Act → World → Prop, (∀ a w, R a w → K a w) → (Code.region 8 ops b).wp P (Exit.then K Q) a w) (h2 : ∀ a w, R a w → y.wp P Q a w) : (Code.seq (Code.region 8 ops b) y).wp P Q a w :=
 wp_seq_k fun K hK => h1 K (fun a w h => hK a w (h2 a w h))
theorem figured79 (s : ByteArray) (p : Nat) (w : World) (hs : s.size ≤ 1048576) (hp : p < s.size) (hd : digitB ((s[p]'hp).toNat : Int) = true) : Calls Tryz.prog 233 #[.string s, .int .i64 p] w
    fun e w' => (∃ k : Nat, e = .returned (.int .i64 k) ∧ p < k ∧ k ≤ s.size) ∧ w' = w := by
  have hcall := fun t (ht : t.size = 2) => prefix97 (s.extract p s.size) t w (by simp; omega) (by omega)
  have hdig := fun r => digit77 r w
  go_enter Tryz.func233, Tryz.ntmps233
  go_wp2_with (go_at_call 254; refine (hcall _ rfl).mono ?_; rintro e w' ⟨rfl, hw⟩; subst w')
  rotate_left
  cases hP : prefixed (s.extract p s.size) ⟨#[48, 88]⟩
  all_goals
    go_loopw [6] (fun x wr => ∃ k : Nat, x = .int .i64 k ∧ p ≤ k ∧ k ≤ s.size ∧ wr = w) (fun x _ => s.size - (intOf x).toNat)
    case atStart => exact ⟨p, rfl, Nat.le_refl _, by omega, rfl⟩
    case round =>
      obtain ⟨k, rfl, hk, hk2, hw⟩ := hrel; subst wr
      by_cases hlt : k < s.size
      · have hwr : wrap32 ((s[k]'hlt).toNat : Int) = ((s[k]'hlt).toNat : Int) := by have := (s[k]'hlt).toNat_lt; unfold wrap32; omega
        by_cases hkp : k = p
        · subst hkp
          have hc77 := hdig ((s[k]'hlt).toNat : Int)
          rw [hd] at hc77
          go_wp2_with fail
          refine hc77.mono ?_
          rintro e w' ⟨rfl, hw⟩
          subst w'
          go_wp2_with fail
          all_goals
            go_roundw
            case rel => exact ⟨k + 1, by go_num, by omega, by omega, trivial⟩
            case measure => simp [intOf]; omega
        · have hgt : p < k := by omega
          have hc77 := hdig ((s[k]'hlt).toNat : Int)
          clear hdig hcall
          refine wp_seq_k fun K1 h1 => ?_
          have h1' := hid h1
          clear h1
          go_wp2_with fail
          refine h1'.out _ _ (wp_block ?_)
          clear h1' K1
          iterate 3
            refine wp_seq_k fun K1 h1 => ?_
            have h1' := hid h1
            clear h1
            go_wp2_with fail
            refine h1'.out _ _ ?_
            clear h1' K1
          apply merge8 (fun a' w' => w' = w ∧ ∃ (b9 : Bool) (x8 x31 x32 x33 x34 x35 x36 x37 x38 x39 x40 x41 x42 x43 x44 x45 x46 x47 x48 : Value), a' = ⟨#[_, _, _, _, _, _, _, _, x8, .bool b9, _, _, _, _, _, _, _, _, _, _, _, _, _, _, _, _, _, _, _, _, _, x31, x32, x33, x34, x35, x36, x37, x38, x39, x40, x41, x42, x43, x44, x45, x46, x47, x48, _, _, _, _, _, _, _, _, _, _, _, _, _, _, _, _, _, _, _, _, _, _, _, _, _, _, _, _, _, _, _, _, _, _], []⟩)
          case h1 =>
            intro K hK
            have hK' := hid hK
            clear hK
            go_wp2_with fail
            all_goals
              have hK := hK'.out
              exact hK _ _ ⟨rfl, _, _, _, _, _, _, _, _, _, _, _, _, _, _, _, _, _, _, _, _, rfl⟩
          case h2 =>
            rintro _ _ ⟨rfl, b9, x8, x31, x32, x33, x34, x35, x36, x37, x38, x39, x40, x41, x42, x43, x44, x45, x46, x47, x48, rfl⟩
            go_wp2_with (go_at_call 231; refine hc77.mono ?_; rintro e w' ⟨rfl, hw⟩; subst w')
            all_goals first
              | (go_roundw
                 case rel => exact ⟨k + 1, by go_num, by omega, by omega, trivial⟩
                 case measure => simp [intOf]; omega)
              | (go_ret
                 exact ⟨⟨k, rfl, by omega, hk2⟩, rfl⟩)
      · go_wp2_with fail
        go_ret
        exact ⟨⟨k, rfl, by omega, hk2⟩, rfl⟩
end
section
open Go.Shelf
attribute [local go_sem] Oper.semAt_some
theorem signed81 (s : ByteArray) (p : Nat) (w : World) : Calls Tryz.prog 235 #[.string s, .int .i64 p, .slice none 0 0] w fun e w' => e = .returned (.string ⟨#[]⟩) ∧ w' = w := by
 go_enter Tryz.func235, Tryz.ntmps235
 go_wp2_with fail
 go_loopw [7, 12] (fun y x wr => y = .string ⟨#[]⟩ ∧ x = .int .i64 0 ∧ wr = w) (fun _ _ _ => 0)
 case atStart => exact ⟨rfl, rfl, rfl⟩
 case round =>
  obtain ⟨rfl, rfl, rfl⟩ := hrel
  go_wp2_with fail
  go_ret
  exact ⟨rfl, rfl⟩
theorem fit54 (w : World) : Calls Tryz.prog 202 #[.slice none 0 0] w fun e w' => e = .returned (.bool true) ∧ w' = w := by
 go_enter Tryz.func202, Tryz.ntmps202
 go_wp2_with fail
 go_loopw [10] (fun x wr => x = .int .i64 0 ∧ wr = w) (fun _ _ => 0)
 case atStart => exact ⟨rfl, rfl⟩
 case round =>
  obtain ⟨rfl, rfl⟩ := hrel
  go_wp2_with fail
  go_ret
  exact ⟨rfl, rfl⟩
theorem index73 (s : ByteArray) (c : Int) (w : World) : Calls Tryz.prog 227 #[.string s, .int .u8 c] w fun e w' => e = .returned (.int .i64 (Lib.indexByte s.data.toList c.toNat.toUInt8)) ∧ w' = w := by
 go_enter Tryz.func227, Tryz.ntmps227
 go_wp2
 rw [run_callFunc_extern Tryz.func252 (by kernel_rfl) (by kernel_rfl) (by kernel_rfl) (e := Extern.BytealgIndexByte.indexByte) (by kernel_rfl), Lib.run_indexByteString]
 simp only [Result.andThen]
 rw [Oper.upon_value]
 go_wp2
 go_ret
 exact ⟨rfl, rfl⟩
theorem index55 (s : ByteArray) (c : Int) (w : World) : Calls Tryz.prog 203 #[.string s, .int .u8 c] w fun e w' => e = .returned (.int .i64 (Lib.indexByte s.data.toList c.toNat.toUInt8)) ∧ w' = w := by
 have h := index73 s c w
 go_enter Tryz.func203, Tryz.ntmps203
 go_wp2_with fail
 refine h.mono ?_
 rintro e w2 ⟨rfl, rfl⟩
 go_wp2_with fail
 go_ret
 exact ⟨rfl, rfl⟩
theorem indexByte_lt : ∀ (l : List UInt8) (c : UInt8), l ≠ [] → Lib.indexByte l c < l.length
 | [], _, h => absurd rfl h
 | b :: l, c, _ => by
  simp only [Lib.indexByte]
  repeat' split
  ·simp <;> omega
  ·simp <;> omega
  ·rename_i h1 h2
   have : l ≠ [] := fun e => by subst e; simp [Lib.indexByte] at h2
   have := indexByte_lt l c this
   simp
   omega
end
section
open Go.Shelf
attribute [local go_sem] Oper.semAt_some
def inList (L : List ByteArray) (x : ByteArray) : Bool := L.any fun y => x.toList == y.toList
theorem index82 (L : List ByteArray) (B : Nat) (x : ByteArray) (w : World) (hn : L.length ≤ 1000) (h : ∀ i (hi : i < L.length), w.cell? ⟨B, i, none⟩ = some (.string L[i])) :
  Calls Tryz.prog 236 #[.slice (some ⟨B, 0, none⟩) L.length L.length, .string x] w fun e w' => (∃ r : Int, e = .returned (.int .i64 r) ∧ decide (0 ≤ r) = inList L x) ∧ w' = w := by
 go_enter Tryz.func236, Tryz.ntmps236
 go_wp2_with fail
 go_loopw [8] (fun y wr => ∃ k : Nat, y = .int .i64 k ∧ k ≤ L.length ∧ (∀ j (hj : j < L.length), j < k → (x.toList == L[j].toList) = false) ∧ wr = w) (fun y _ => L.length - (intOf y).toNat)
 case atStart => exact ⟨0, rfl, Nat.zero_le _, fun j _ hj => by omega, rfl⟩
 case round =>
  obtain ⟨k, rfl, hk, hno, hw⟩ := hrel
  subst wr
  have hno' := hid hno
  clear hno
  by_cases hlt : k < L.length
  ·have hc := h k hlt
   cases hq : x.toList == L[k].toList
   ·have key : Hid (∀ j (hj : j < L.length), j < k + 1 → (x.toList == L[j].toList) = false) := hid (fun j hj hjk => by
     rcases Nat.lt_or_ge j k with h1 | h1
     ·exact hno'.out j hj h1
     ·have e : j = k := by omega
      subst e
      exact hq)
    go_wp2_with fail
    go_roundw
    case rel => exact ⟨k + 1, by go_num, by omega, key.out, trivial⟩
    case measure => simp [intOf]; omega
   ·go_wp2_with fail
    go_ret
    refine ⟨⟨k, rfl, ?_⟩, rfl⟩
    have : inList L x = true := List.any_eq_true.2 ⟨L[k], List.getElem_mem _, hq⟩
    rw [this]
    simp
  ·go_wp2_with fail
   go_ret
   refine ⟨⟨-1, rfl, ?_⟩, rfl⟩
   have : inList L x = false := List.any_eq_false.2 (fun y hy => by
    obtain ⟨j, hj, rfl⟩ := List.getElem_of_mem hy
    rw [hno'.out j hj (by omega)]
    simp)
   rw [this]
   rfl
theorem contains59 (L : List ByteArray) (B : Nat) (x : ByteArray) (w : World) (hn : L.length ≤ 1000) (h : ∀ i (hi : i < L.length), w.cell? ⟨B, i, none⟩ = some (.string L[i])) :
  Calls Tryz.prog 207 #[.slice (some ⟨B, 0, none⟩) L.length L.length, .string x] w fun e w' => e = .returned (.bool (inList L x)) ∧ w' = w := by
 have hcall := index82 L B x w hn h
 go_enter Tryz.func207, Tryz.ntmps207
 go_wp2_with fail
 refine hcall.mono ?_
 rintro e w2 ⟨⟨r, rfl, hr⟩, hw⟩
 subst w2
 go_wp2_with fail
 go_ret
 exact ⟨ret_bool (by rw [← hr]), rfl⟩
def resL : List ByteArray := [⟨#[118, 97, 114]⟩, ⟨#[105, 110, 116]⟩, ⟨#[102, 108, 111, 97, 116]⟩, ⟨#[104, 111, 115, 116]⟩, ⟨#[102, 117, 110, 99]⟩, ⟨#[111, 112, 101, 110]⟩, ⟨#[105, 102]⟩, ⟨#[101, 108, 115, 101]⟩, ⟨#[119, 104, 105, 108, 101]⟩, ⟨#[98, 114, 101, 97, 107]⟩, ⟨#[99, 111, 110, 116, 105, 110, 117, 101]⟩, ⟨#[114, 101, 116, 117, 114, 110]⟩]
theorem reserved57 (s : ByteArray) (w : World) : Calls Tryz.prog 205 #[.string s] w fun e w' => e = .returned (.bool (inList resL s)) ∧ Below w.heap.size w w' := by
 have hcall := contains59 resL w.heap.size s (w.alloc (.cells (resL.map Value.string).toArray 9 (0, 0))) (by decide) (fun i hi => by
  rw [World.cell?_alloc_mark]
  simp [hi])
 go_enter Tryz.func205, Tryz.ntmps205
 go_wp2_with fail
 refine hcall.mono ?_
 rintro e w2 ⟨rfl, hw⟩
 subst w2
 go_wp2_with fail
 go_ret
 exact ⟨rfl, (Below.refl _ _).alloc (Nat.le_refl _) _⟩
end
section
open Go.Shelf
attribute [local go_sem] Oper.semAt_some
end
section
open Go.Shelf
attribute [local go_sem] Oper.semAt_some
def by' (s : ByteArray) (k i : Nat) : Nat := (s.get! (k + i)).toNat
def val (s : ByteArray) (k : Nat) (base : Int) : Nat → Int
 | 0 => base
 | j + 1 => val s k base j * 64 + by' s k (j + 1) - 128
end
section
open Go.Shelf
attribute [local go_sem] Oper.semAt_some
end
end Go.Proofs.YtlabadkfkbenoaaGreatDoor
