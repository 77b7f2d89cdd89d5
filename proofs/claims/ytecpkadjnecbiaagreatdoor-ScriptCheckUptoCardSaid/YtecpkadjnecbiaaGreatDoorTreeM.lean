/- ScriptSame: trees that a call builds. No condition. -/
import Derived.Test.YtecpkadjnecbiaaGreatDoorTreeL
namespace Go.Proofs.YtecpkadjnecbiaaGreatDoor
open Go.RowKit
set_option linter.unusedVariables false
set_option linter.unusedSimpArgs false

section
variable {w w' : World} {row : Option Nat} {Z Z' : Nat → Prop} {p : Bool}

theorem Zone.move {t : TypeId} {b off n len cap : Nat} (h : Zone w (some Z) t b off n len cap) (hg : w.grownBy w' row) (hr : ∀ b, Z b → some b ≠ row) (hz : ∀ b, Z b → Z' b) : Zone w' (some Z') t b off n len cap := fun Y hY => by
  cases hY
  obtain ⟨h1, h2, ⟨cs, h3⟩, h4, h5⟩ := h Z rfl
  exact ⟨hz _ h1, h2, ⟨cs, (hg.block b (lt_of_block h3) (hr _ h1)).trans h3⟩, h4, hg.cell h5 (hr _ h1)⟩
theorem HeadE.move {h : EH} {b q : Nat} (x : HeadE w p h b q) (hg : w.grownBy w' row) (hb : some b ≠ row) : HeadE w' p h b q := by
  obtain ⟨⟨t, y0, y0'⟩, y1, y2, y3, y4, y5⟩ := x
  exact ⟨⟨t, hg.cell y0 hb, y0'⟩, hg.cell y1 hb, hg.cell y2 hb, hg.cell y3 hb, hg.cell y4 hb, hg.cell y5 hb⟩
theorem HeadS.move {h : SH} {b q : Nat} (x : HeadS w p h b q) (hg : w.grownBy w' row) (hb : some b ≠ row) : HeadS w' p h b q := by
  obtain ⟨⟨t, y0, y0'⟩, y1, y2, y3, y4⟩ := x
  exact ⟨⟨t, hg.cell y0 hb, y0'⟩, hg.cell y1 hb, hg.cell y2 hb, hg.cell y3 hb, hg.cell y4 hb⟩
theorem ExsIn.move (hg : w.grownBy w' row) (hr : ∀ b, Z b → some b ≠ row) (hz : ∀ b, Z b → Z' b) : ∀ {l : Exs} {b off k : Nat}, ExsIn w p (some Z) l b off k → (l.len = 0 ∨ some b ≠ row) → ExsIn w' p (some Z') l b off k
  | .nil, _, _, _, _, _ => trivial
  | .cons h kids rest, b, off, k, ⟨x1, ⟨ka, kb, koff, kcap, y1, y2, y3⟩, x3⟩, hb =>
    have hb' : some b ≠ row := hb.resolve_left (by simp [Exs.len])
    ⟨x1.move hg hb', ⟨ka, kb, koff, kcap, hg.cell y1 hb', y2.imp (fun z => nomatch z.2) (fun z => ⟨z.1, z.2.move hg hr hz⟩), ExsIn.move hg hr hz y3 (y2.imp And.left (fun z => hr _ (z.2 Z rfl).1))⟩, ExsIn.move hg hr hz x3 (.inr hb')⟩
theorem SlE.move {l : Exs} {v : Value} (h : SlE w p (some Z) l v) (hg : w.grownBy w' row) (hr : ∀ b, Z b → some b ≠ row) (hz : ∀ b, Z b → Z' b) : SlE w' p (some Z') l v := by
  obtain ⟨ka, kb, koff, kcap, rfl, y2, y3⟩ := h
  exact ⟨ka, kb, koff, kcap, rfl, y2.imp (fun z => nomatch z.2) (fun z => ⟨z.1, z.2.move hg hr hz⟩), y3.move hg hr hz (y2.imp And.left (fun z => hr _ (z.2 Z rfl).1))⟩
theorem StsIn.move (hg : w.grownBy w' row) (hr : ∀ b, Z b → some b ≠ row) (hz : ∀ b, Z b → Z' b) : ∀ {l : Sts} {b off k : Nat}, StsIn w p (some Z) l b off k → (l.len = 0 ∨ some b ≠ row) → StsIn w' p (some Z') l b off k
  | .nil, _, _, _, _, _ => trivial
  | .cons h x body els rest, b, off, k, ⟨x1, ⟨v, x2, x3⟩, ⟨ka, kb, koff, kcap, y1, y2, y3⟩, ⟨ja, jb, joff, jcap, z1, z2, z3⟩, x4⟩, hb =>
    have hb' : some b ≠ row := hb.resolve_left (by simp [Sts.len])
    ⟨x1.move hg hb', ⟨v, hg.cell x2 hb', x3.move hg hr hz⟩, ⟨ka, kb, koff, kcap, hg.cell y1 hb', y2.imp (fun z => nomatch z.2) (fun z => ⟨z.1, z.2.move hg hr hz⟩), StsIn.move hg hr hz y3 (y2.imp And.left (fun z => hr _ (z.2 Z rfl).1))⟩, ⟨ja, jb, joff, jcap, hg.cell z1 hb', z2.imp (fun z => nomatch z.2) (fun z => ⟨z.1, z.2.move hg hr hz⟩), StsIn.move hg hr hz z3 (z2.imp And.left (fun z => hr _ (z.2 Z rfl).1))⟩, StsIn.move hg hr hz x4 (.inr hb')⟩
theorem SlS.move {l : Sts} {v : Value} (h : SlS w p (some Z) l v) (hg : w.grownBy w' row) (hr : ∀ b, Z b → some b ≠ row) (hz : ∀ b, Z b → Z' b) : SlS w' p (some Z') l v := by
  obtain ⟨ka, kb, koff, kcap, rfl, y2, y3⟩ := h
  exact ⟨ka, kb, koff, kcap, rfl, y2.imp (fun z => nomatch z.2) (fun z => ⟨z.1, z.2.move hg hr hz⟩), y3.move hg hr hz (y2.imp And.left (fun z => hr _ (z.2 Z rfl).1))⟩
theorem SlR.move {α : Type} {t : TypeId} {n : Nat} {R R' : α → Nat → Nat → Prop} {l : List α} {v : Value} (h : SlR w (some Z) t n R l v) (hg : w.grownBy w' row) (hr : ∀ b, Z b → some b ≠ row) (hz : ∀ b, Z b → Z' b) (hR : ∀ a b q, some b ≠ row → R a b q → R' a b q) : SlR w' (some Z') t n R' l v := by
  obtain ⟨ka, kb, koff, kcap, rfl, y2, y3⟩ := h
  refine ⟨ka, kb, koff, kcap, rfl, y2.imp (fun z => nomatch z.2) (fun z => ⟨z.1, z.2.move hg hr hz⟩), fun i hi => ?_⟩
  rcases y2 with h0 | ⟨_, hZ⟩
  · exact nomatch h0.2
  · exact hR _ _ _ (hr _ (hZ Z rfl).1) (y3 i hi)
theorem ParR.move {a : PW} {b q : Nat} (h : ParR w a b q) (hg : w.grownBy w' row) (hb : some b ≠ row) : ParR w' a b q := ⟨hg.cell h.c0 hb, hg.cell h.c1 hb⟩
theorem SlPz.move {l : List PW} {v : Value} (h : SlPz w (some Z) l v) (hg : w.grownBy w' row) (hr : ∀ b, Z b → some b ≠ row) (hz : ∀ b, Z b → Z' b) : SlPz w' (some Z') l v := SlR.move h hg hr hz (fun _ _ _ hb h => h.move hg hb)
end

/-! ### lists of a tree -/
def Exs.toL : Exs → List (EH × Exs)
  | .nil => []
  | .cons h k r => (h, k) :: r.toL
theorem Exs.toL_len : ∀ l : Exs, l.toL.length = l.len
  | .nil => rfl
  | .cons h k r => by simp [Exs.toL, Exs.len, Exs.toL_len r]
theorem Exs.toL_sz : ∀ (l : Exs) (a : EH × Exs), a ∈ l.toL → a.2.sz < l.sz
  | .nil, _, h => by cases h
  | .cons h k r, a, hm => by
    rcases List.mem_cons.1 hm with rfl | h'
    · simp only [Exs.sz]; omega
    · have := Exs.toL_sz r a h'; simp only [Exs.sz]; omega
structure ExpR (w : World) (p : Bool) (o : Option (Nat → Prop)) (a : EH × Exs) (b q : Nat) : Prop where
  head : HeadE w p a.1 b q
  kids : ∃ v, w.cell? ⟨b, q + 6, none⟩ = some v ∧ SlE w p o a.2 v
theorem ExsIn_at {w : World} {p : Bool} {o : Option (Nat → Prop)} {b off : Nat} : ∀ {l : Exs} {k : Nat}, ExsIn w p o l b off k → ∀ i (h : i < l.toL.length), ExpR w p o l.toL[i] b (off + (k + i) * 7)
  | .nil, k, _, i, h => by simp [Exs.toL] at h
  | .cons h kids rest, k, x, i, hi => by
    obtain ⟨x1, x2, x3⟩ := x.cons
    cases i with
    | zero => exact ⟨x1, x2⟩
    | succ i =>
      have := ExsIn_at x3 i (by simpa [Exs.toL] using hi)
      rw [show k + 1 + i = k + (i + 1) by omega] at this
      exact this
theorem ExsIn_of {w : World} {p : Bool} {o : Option (Nat → Prop)} {b off : Nat} : ∀ {l : Exs} {k : Nat}, (∀ i (h : i < l.toL.length), ExpR w p o l.toL[i] b (off + (k + i) * 7)) → ExsIn w p o l b off k
  | .nil, k, _ => trivial
  | .cons h kids rest, k, x => by
    have x0 := x 0 (by simp [Exs.toL])
    obtain ⟨v, x1, x2⟩ := x0.kids
    refine ExsIn.mk x0.head x1 x2 (ExsIn_of fun i hi => ?_)
    have := x (i + 1) (by simpa [Exs.toL] using hi)
    rw [show k + (i + 1) = k + 1 + i by omega] at this
    exact this
theorem SlE_iff {w : World} {p : Bool} {o : Option (Nat → Prop)} {l : Exs} {v : Value} : SlE w p o l v ↔ SlR w o 64 7 (ExpR w p o) l.toL v := by
  constructor
  · rintro ⟨ka, kb, koff, kcap, rfl, y2, y3⟩
    refine ⟨ka, kb, koff, kcap, by rw [Exs.toL_len], by rw [Exs.toL_len]; exact y2, fun i hi => ?_⟩
    have := ExsIn_at y3 i hi
    rwa [Nat.zero_add] at this
  · rintro ⟨ka, kb, koff, kcap, rfl, y2, y3⟩
    rw [Exs.toL_len] at y2 ⊢
    exact ⟨ka, kb, koff, kcap, rfl, y2, ExsIn_of fun i hi => by rw [Nat.zero_add]; exact y3 i hi⟩
/-- a statement with its lists -/
abbrev SB := SH × Exs × Sts × Sts
def Sts.toL : Sts → List SB
  | .nil => []
  | .cons h x b e r => (h, x, b, e) :: r.toL
theorem Sts.toL_len : ∀ l : Sts, l.toL.length = l.len
  | .nil => rfl
  | .cons h x b e r => by simp [Sts.toL, Sts.len, Sts.toL_len r]
theorem Sts.toL_sz : ∀ (l : Sts) (a : SB), a ∈ l.toL → a.2.1.sz + a.2.2.1.sz + a.2.2.2.sz < l.sz
  | .nil, _, h => by cases h
  | .cons h x b e r, a, hm => by
    rcases List.mem_cons.1 hm with rfl | h'
    · simp only [Sts.sz]; omega
    · have := Sts.toL_sz r a h'; simp only [Sts.sz]; omega
structure StmR (w : World) (p : Bool) (o : Option (Nat → Prop)) (a : SB) (b q : Nat) : Prop where
  head : HeadS w p a.1 b q
  exprs : ∃ v, w.cell? ⟨b, q + 5, none⟩ = some v ∧ SlE w p o a.2.1 v
  body : ∃ v, w.cell? ⟨b, q + 6, none⟩ = some v ∧ SlS w p o a.2.2.1 v
  els : ∃ v, w.cell? ⟨b, q + 7, none⟩ = some v ∧ SlS w p o a.2.2.2 v
theorem StsIn_at {w : World} {p : Bool} {o : Option (Nat → Prop)} {b off : Nat} : ∀ {l : Sts} {k : Nat}, StsIn w p o l b off k → ∀ i (h : i < l.toL.length), StmR w p o l.toL[i] b (off + (k + i) * 8)
  | .nil, k, _, i, h => by simp [Sts.toL] at h
  | .cons h ex body els rest, k, x, i, hi => by
    obtain ⟨x1, x2, x3, x4, x5⟩ := x.cons
    cases i with
    | zero => exact ⟨x1, x2, x3, x4⟩
    | succ i =>
      have := StsIn_at x5 i (by simpa [Sts.toL] using hi)
      rw [show k + 1 + i = k + (i + 1) by omega] at this
      exact this
theorem StsIn_of {w : World} {p : Bool} {o : Option (Nat → Prop)} {b off : Nat} : ∀ {l : Sts} {k : Nat}, (∀ i (h : i < l.toL.length), StmR w p o l.toL[i] b (off + (k + i) * 8)) → StsIn w p o l b off k
  | .nil, k, _ => trivial
  | .cons h ex body els rest, k, x => by
    have x0 := x 0 (by simp [Sts.toL])
    obtain ⟨v, x1, x2⟩ := x0.exprs
    obtain ⟨vb, x3, x4⟩ := x0.body
    obtain ⟨ve, x5, x6⟩ := x0.els
    refine StsIn.mk x0.head x1 x2 x3 x4 x5 x6 (StsIn_of fun i hi => ?_)
    have := x (i + 1) (by simpa [Sts.toL] using hi)
    rw [show k + (i + 1) = k + 1 + i by omega] at this
    exact this
theorem SlS_iff {w : World} {p : Bool} {o : Option (Nat → Prop)} {l : Sts} {v : Value} : SlS w p o l v ↔ SlR w o 60 8 (StmR w p o) l.toL v := by
  constructor
  · rintro ⟨ka, kb, koff, kcap, rfl, y2, y3⟩
    refine ⟨ka, kb, koff, kcap, by rw [Sts.toL_len], by rw [Sts.toL_len]; exact y2, fun i hi => ?_⟩
    have := StsIn_at y3 i hi
    rwa [Nat.zero_add] at this
  · rintro ⟨ka, kb, koff, kcap, rfl, y2, y3⟩
    rw [Sts.toL_len] at y2 ⊢
    exact ⟨ka, kb, koff, kcap, rfl, y2, StsIn_of fun i hi => by rw [Nat.zero_add]; exact y3 i hi⟩

/-! ### a list of records that is being built -/
def Bld {α : Type} (w : World) (B : Nat) (e : TypeId) (n : Nat) (R : α → List Value → Prop) (l : List α) (v : Value) : Prop :=
  ∃ cs : List (List Value), cs.length = l.length ∧ (∀ i (h : i < l.length) (h' : i < cs.length), cs[i].length = n ∧ R l[i] cs[i]) ∧ w.ownsRow B e n v l.length cs.flatten
theorem flatten_len {n : Nat} : ∀ {cs : List (List Value)}, (∀ i (h : i < cs.length), cs[i].length = n) → cs.flatten.length = cs.length * n
  | [], _ => by simp
  | c :: cs, h => by
    have h0 := h 0 (by simp)
    have := flatten_len (cs := cs) (fun i hi => h (i + 1) (by simpa using hi))
    simp only [List.getElem_cons_zero] at h0
    simp only [List.flatten_cons, List.length_append, List.length_cons, this, h0, Nat.add_mul]
    omega
theorem flatten_at {n : Nat} : ∀ {cs : List (List Value)}, (∀ i (h : i < cs.length), cs[i].length = n) → ∀ i (h : i < cs.length) j, j < n → cs.flatten[i * n + j]? = cs[i][j]?
  | [], _, i, h, _, _ => by simp at h
  | c :: cs, h, i, hi, j, hj => by
    have h0 := h 0 (by simp)
    simp only [List.getElem_cons_zero] at h0
    cases i with
    | zero => simp only [List.flatten_cons, List.getElem_cons_zero]; rw [List.getElem?_append_left (by omega)]; simp
    | succ i =>
      have := flatten_at (cs := cs) (fun i hi => h (i + 1) (by simpa using hi)) i (by simpa using hi) j hj
      simp only [List.flatten_cons, List.getElem_cons_succ]
      rw [List.getElem?_append_right (by rw [h0, Nat.add_mul]; omega), h0, show (i + 1) * n + j - n = i * n + j by rw [Nat.add_mul]; omega]
      exact this
theorem Bld.nil {α : Type} (w : World) (B : Nat) (e : TypeId) (n : Nat) (R : α → List Value → Prop) : Bld w B e n R [] (.slice none 0 0) := ⟨[], rfl, fun i h => by simp at h, World.ownsRow_nil w B e n⟩
theorem Bld.push {α : Type} {w' : World} {B : Nat} {e : TypeId} {n : Nat} {R R' : α → List Value → Prop} {l : List α} {v' : Value} {cs : List (List Value)} {c : List Value} {a : α} (h1 : cs.length = l.length) (h2 : ∀ i (h : i < l.length) (h' : i < cs.length), cs[i].length = n ∧ R l[i] cs[i])
    (hA : w'.ownsRow B e n v' (l.length + 1) (cs.flatten ++ c)) (hc : c.length = n) (hR : ∀ a c, R a c → R' a c) (ha : R' a c) : Bld w' B e n R' (l ++ [a]) v' := by
  refine ⟨cs ++ [c], by simp [h1], fun i h h' => ?_, by simpa using hA⟩
  by_cases hi : i < l.length
  · rw [List.getElem_append_left hi, List.getElem_append_left (by omega)]
    exact ⟨(h2 i hi (by omega)).1, hR _ _ (h2 i hi (by omega)).2⟩
  · have : i = l.length := by simp at h; omega
    subst this
    rw [List.getElem_append_right (by omega), List.getElem_append_right (by omega)]
    simp only [h1, Nat.sub_self, List.getElem_cons_zero]
    exact ⟨hc, ha⟩
theorem Bld.on {α : Type} {w w' : World} {B : Nat} {e : TypeId} {n : Nat} {R R' : α → List Value → Prop} {l : List α} {v : Value} (h : Bld w B e n R l v) {row : Option Nat} (hg : w.grownBy w' row) (hne : v.ownBlock = none ∨ v.ownBlock ≠ row) (hR : ∀ a c, R a c → R' a c) : Bld w' B e n R' l v := by
  obtain ⟨cs, h1, h2, h3⟩ := h
  exact ⟨cs, h1, fun i h h' => ⟨(h2 i h h').1, hR _ _ (h2 i h h').2⟩, h3.kept hg hne⟩
theorem Bld.alloc {α : Type} {w : World} {B : Nat} {e : TypeId} {n : Nat} {R : α → List Value → Prop} {l : List α} {v : Value} (h : Bld w B e n R l v) (o : Obj) : Bld (w.alloc o) B e n R l v :=
  h.on (World.grownBy_alloc w o none) (by cases v.ownBlock <;> simp) (fun _ _ h => h)
theorem Bld.lt {α : Type} {w : World} {B : Nat} {e : TypeId} {n : Nat} {R : α → List Value → Prop} {l : List α} {v : Value} (h : Bld w B e n R l v) : ∀ k, v.ownBlock = some k → B ≤ k ∧ k < w.heap.size := by
  obtain ⟨cs, h1, h2, h3⟩ := h
  exact h3.lt
theorem Bld.done {α : Type} {w : World} {B : Nat} {e : TypeId} {n : Nat} {R : α → List Value → Prop} {Rel : α → Nat → Nat → Prop} {l : List α} {g m cap : Nat} {cs : List (List Value)} {mark : List Value} {Z : Nat → Prop} (h1 : cs.length = l.length) (h2 : ∀ i (h : i < l.length) (h' : i < cs.length), cs[i].length = n ∧ R l[i] cs[i])
    (h3 : w.ownsRow B e n (.slice (some ⟨g, 0, none⟩) m cap) m (cs.flatten ++ mark)) (hm : l.length < m) (hn : 0 < n) (hmk : mark[0]? = some (markV e)) (hZ : Z g) (hR : ∀ a c q, R a c → (∀ j, j < n → w.cell? ⟨g, q + j, none⟩ = c[j]?) → Rel a g q) : SlR w (some Z) e n Rel l (.slice (some ⟨g, 0, none⟩) l.length cap) := by
  refine ⟨some ⟨g, 0, none⟩, g, 0, cap, rfl, .inr ⟨rfl, fun Y hY => ?_⟩, fun i hi => ?_⟩
  · cases hY
    have hfl : cs.flatten.length = l.length * n := by rw [flatten_len (fun i h => (h2 i (by omega) h).1), h1]
    have hlm : l.length * n < m * n := Nat.mul_lt_mul_of_pos_right hm hn
    have hcell : w.cell? ⟨g, l.length * n, none⟩ = some (markV e) := by
      rw [h3.cellAt _ hlm, List.getElem?_append_right (by omega), hfl, Nat.sub_self]
      exact hmk
    rcases h3.2 with ⟨h, _⟩ | ⟨g', cap', cur, hv, hb, hg, hcap, _⟩
    · cases h
    · cases hv
      exact ⟨hZ, rfl, ⟨cur, hg⟩, by omega, hcell⟩
  · have hi' : i < cs.length := by omega
    have hl : ∀ i (h : i < cs.length), cs[i].length = n := fun i h => (h2 i (by omega) h).1
    refine hR _ _ _ (h2 i hi hi').2 (fun j hj => ?_)
    have hlt : i * n + j < cs.flatten.length := by
      rw [flatten_len hl]
      calc i * n + j < i * n + n := by omega
        _ = (i + 1) * n := by rw [Nat.add_mul]; omega
        _ ≤ cs.length * n := Nat.mul_le_mul_right _ (by omega)
    have hlt2 : i * n + j < m * n := by
      rw [flatten_len hl, h1] at hlt
      exact Nat.lt_of_lt_of_le hlt (Nat.mul_le_mul_right _ (Nat.le_of_lt hm))
    rw [Nat.zero_add, h3.cellAt (i * n + j) hlt2, List.getElem?_append_left hlt]
    exact flatten_at hl i hi' j hj

end Go.Proofs.YtecpkadjnecbiaaGreatDoor
