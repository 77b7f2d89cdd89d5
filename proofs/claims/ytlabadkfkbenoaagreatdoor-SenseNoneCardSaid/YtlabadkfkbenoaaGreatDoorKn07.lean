/- Walks and plain laws, merged: TreeQ TreeR. No condition. -/
import Derived.Test.YtlabadkfkbenoaaGreatDoorKn04
namespace Go.Proofs.YtlabadkfkbenoaaGreatDoor
open Go.RowKit
set_option linter.unusedVariables false
set_option linter.unusedSimpArgs false
set_option maxRecDepth 100000
section
/-- the cells of a parameter -/
def ParC (a : PW) (c : List Value) : Prop := c = [.string a.1, .int .u8 a.2]
/-- a slice of records, as cells -/
theorem SlR.cells {α : Type} {w : World} {o : Option (Nat → Prop)} {t : TypeId} {n : Nat} {R : α → Nat → Nat → Prop} {l : List α} {ka : Option Addr} {m cap : Nat} (hn : 0 < n) (h : SlR w o t n R l (.slice ka m cap)) (Rc : α → List Value → Prop)
  (hR : ∀ a b q, R a b q → ∃ c : List Value, c.length = n ∧ Rc a c ∧ (∀ u ∈ c, u.oneCell' = true) ∧ ∀ j u, c[j]? = some u → w.cell? ⟨b, q + j, none⟩ = some u) :
  ∃ cs : List (List Value), cs.length = l.length ∧ (∀ i (h : i < l.length) (h' : i < cs.length), cs[i].length = n ∧ Rc l[i] cs[i]) ∧ (∀ u ∈ cs.flatten, u.oneCell' = true) ∧ m = l.length ∧ cs.flatten.length = m * n ∧
   (m = 0 ∨ ∃ a, ka = some a ∧ ∀ j u, cs.flatten[j]? = some u → w.cell? (a.add j) = some u) := by
 obtain ⟨ka', kb, koff, kcap, hv, y2, y3⟩ := h
 cases hv
 have ch : ∀ i : Fin l.length, ∃ c : List Value, c.length = n ∧ Rc l[i] c ∧ (∀ u ∈ c, u.oneCell' = true) ∧ ∀ j u, c[j]? = some u → w.cell? ⟨kb, koff + i * n + j, none⟩ = some u := fun i => hR _ _ _ (y3 i i.2)
 have hcs : (List.ofFn fun i => (ch i).choose).length = l.length := by simp
 have hat : ∀ i (h : i < l.length) (h' : i < (List.ofFn fun i => (ch i).choose).length), (List.ofFn fun i => (ch i).choose)[i] = (ch ⟨i, h⟩).choose := fun i h h' => by simp
 have hlen : ∀ i (h' : i < (List.ofFn fun i => (ch i).choose).length), (List.ofFn fun i => (ch i).choose)[i].length = n := fun i h' => by
  rw [hat i (by omega) h']
  exact (ch ⟨i, by omega⟩).choose_spec.1
 have hfl := flatten_len hlen
 refine ⟨List.ofFn fun i => (ch i).choose, hcs, fun i h h' => ⟨hlen i h', ?_⟩, ?_, rfl, by rw [hfl, hcs], ?_⟩
 ·rw [hat i h h']
  exact (ch ⟨i, h⟩).choose_spec.2.1
 ·intro u hu
  obtain ⟨c, hc, hu⟩ := List.mem_flatten.1 hu
  obtain ⟨i, hi, rfl⟩ := List.getElem_of_mem hc
  rw [hat i (by omega) hi] at hu
  exact (ch ⟨i, by omega⟩).choose_spec.2.2.1 u hu
 ·rcases y2 with h0 | ⟨rfl, -⟩
  ·exact .inl h0.1
  ·refine .inr ⟨_, rfl, fun j u hj => ?_⟩
   have hjl : j < (List.ofFn fun i => (ch i).choose).flatten.length := by
    rcases Nat.lt_or_ge j (List.ofFn fun i => (ch i).choose).flatten.length with h | h
    ·exact h
    ·rw [List.getElem?_eq_none h] at hj; cases hj
   rw [hfl, hcs] at hjl
   have hi : j / n < l.length := Nat.div_lt_of_lt_mul (by rw [Nat.mul_comm]; exact hjl)
   have hr : j % n < n := Nat.mod_lt _ hn
   have he : j / n * n + j % n = j := by rw [Nat.mul_comm]; exact Nat.div_add_mod j n
   have hf := flatten_at hlen (j / n) (by omega) (j % n) hr
   rw [he, hj, hat _ hi] at hf
   have := (ch ⟨j / n, hi⟩).choose_spec.2.2.2 (j % n) u hf.symm
   rw [Nat.add_assoc, he] at this
   rw [show (⟨kb, koff, none⟩ : Addr).add j = ⟨kb, koff + j, none⟩ by unfold Addr.add; split <;> simp_all]
   exact this
theorem ParR.of {w : World} {a : PW} {c : List Value} {g q : Nat} (h : ParC a c) (hc : ∀ j, j < 2 → w.cell? ⟨g, q + j, none⟩ = c[j]?) : ParR w a g q := by
 obtain rfl := h
 exact ⟨hc 0 (by omega), hc 1 (by omega)⟩
theorem ParR.cells {w : World} {a : PW} {b q : Nat} (h : ParR w a b q) : ∃ c : List Value, c.length = 2 ∧ ParC a c ∧ (∀ u ∈ c, u.oneCell' = true) ∧ ∀ j u, c[j]? = some u → w.cell? ⟨b, q + j, none⟩ = some u := by
 refine ⟨_, rfl, rfl, by simp [Value.oneCell'], fun j u hj => ?_⟩
 match j, hj with
 | 0, hj => simp at hj; subst hj; exact h.c0
 | 1, hj => simp at hj; subst hj; exact h.c1
 | j + 2, hj => simp at hj
theorem below_of_own {w w2 w3 : World} {e : TypeId} {n k m : Nat} {v v' : Value} {xs news : List Value} (hA : Appended w2 w3 w.heap.size e n v v' k m xs news) (h : w2.ownsRow w.heap.size e n v k xs) (hs : w.heap.size ≤ w2.heap.size) : Below w.heap.size w2 w3 :=
 (Below.refl w.heap.size w2).grown hA.grown hs (fun q hq => (h.lt q hq).1)
end
section
/-! ### a list of records, each with its own relation -/
def BldI {α : Type} (w : World) (B : Nat) (e : TypeId) (n : Nat) (R : Nat → α → List Value → Prop) (l : List α) (v : Value) : Prop :=
 ∃ cs : List (List Value), cs.length = l.length ∧ (∀ i (h : i < l.length) (h' : i < cs.length), cs[i].length = n ∧ R i l[i] cs[i]) ∧ w.ownsRow B e n v l.length cs.flatten
theorem BldI.on {α : Type} {w w' : World} {B : Nat} {e : TypeId} {n : Nat} {R R' : Nat → α → List Value → Prop} {l : List α} {v : Value} (h : BldI w B e n R l v) {row : Option Nat} (hg : w.grownBy w' row) (hne : v.ownBlock = none ∨ v.ownBlock ≠ row) (hR : ∀ i a c, R i a c → R' i a c) : BldI w' B e n R' l v := by
 obtain ⟨cs, h1, h2, h3⟩ := h
 exact ⟨cs, h1, fun i h h' => ⟨(h2 i h h').1, hR _ _ _ (h2 i h h').2⟩, h3.kept hg hne⟩
theorem BldI.lt {α : Type} {w : World} {B : Nat} {e : TypeId} {n : Nat} {R : Nat → α → List Value → Prop} {l : List α} {v : Value} (h : BldI w B e n R l v) : ∀ k, v.ownBlock = some k → B ≤ k ∧ k < w.heap.size := by
 obtain ⟨cs, h1, h2, h3⟩ := h
 exact h3.lt
theorem flatten_set {n : Nat} (u : Value) : ∀ {cs : List (List Value)}, (∀ i (h : i < cs.length), cs[i].length = n) → ∀ i (h : i < cs.length) j, j < n → (cs.set i (cs[i].set j u)).flatten = cs.flatten.set (i * n + j) u
 | [], _, i, h, _, _ => by simp at h
 | c :: cs, h, i, hi, j, hj => by
  have h0 := h 0 (by simp)
  simp only [List.getElem_cons_zero] at h0
  cases i with
  | zero =>
   simp only [List.set_cons_zero, List.getElem_cons_zero, List.flatten_cons, Nat.zero_mul, Nat.zero_add]
   rw [List.set_append_left _ _ (by omega)]
  | succ i =>
   have := flatten_set u (cs := cs) (fun i hi => h (i + 1) (by simpa using hi)) i (by simpa using hi) j hj
   simp only [List.set_cons_succ, List.getElem_cons_succ, List.flatten_cons]
   rw [this, List.set_append_right _ _ (by rw [h0, Nat.add_mul]; omega), h0, show (i + 1) * n + j - n = i * n + j by rw [Nat.add_mul]; omega]
theorem BldI.store {α : Type} {w : World} {B : Nat} {e : TypeId} {n : Nat} {R R' : Nat → α → List Value → Prop} {l : List α} {g cap m : Nat} (h : BldI w B e n R l (.slice (some ⟨g, 0, none⟩) m cap)) (hm : m = l.length) (k : Nat) (hk : k < l.length) (j : Nat) (hj : j < n) (u : Value)
  (hR : ∀ i a c, i ≠ k → R i a c → R' i a c) (hk' : ∀ c, R k l[k] c → R' k l[k] (c.set j u)) : BldI (w.setCell ⟨g, k * n + j, none⟩ u) B e n R' l (.slice (some ⟨g, 0, none⟩) m cap) := by
 subst hm
 obtain ⟨cs, h1, h2, h3⟩ := h
 have hkc : k < cs.length := by omega
 refine ⟨cs.set k (cs[k].set j u), by simp [h1], fun i hi hi' => ?_, ?_⟩
 ·by_cases e : i = k
  ·subst e
   rw [List.getElem_set_self]
   exact ⟨by simp [(h2 i hi hkc).1], hk' _ (h2 i hi hkc).2⟩
  ·rw [List.getElem_set_ne (fun q => e q.symm)]
   exact ⟨(h2 i hi (by omega)).1, hR _ _ _ e (h2 i hi (by omega)).2⟩
 ·rw [flatten_set u (fun i hi => (h2 i (by omega) hi).1) k hkc j hj]
  exact (h3.stored (k * n + j) u).1
theorem BldI.free {α : Type} {w : World} {B : Nat} {e : TypeId} {n : Nat} {R : Nat → α → List Value → Prop} {l : List α} {g cap m : Nat} (h : BldI w B e n R l (.slice (some ⟨g, 0, none⟩) m cap)) (hm : m = l.length) (j : Nat) : w.frozen? ⟨g, j, none⟩ = false := by
 subst hm
 obtain ⟨cs, h1, h2, h3⟩ := h
 exact h3.frozenAt j
theorem BldI.cell {α : Type} {w : World} {B : Nat} {e : TypeId} {n : Nat} {R : Nat → α → List Value → Prop} {l : List α} {g cap m : Nat} (h : BldI w B e n R l (.slice (some ⟨g, 0, none⟩) m cap)) (hm : m = l.length) (k : Nat) (hk : k < l.length) (j : Nat) (hj : j < n) : ∃ v, w.cell? ⟨g, k * n + j, none⟩ = some v := by
 subst hm
 obtain ⟨cs, h1, h2, h3⟩ := h
 have hl : ∀ i (h : i < cs.length), cs[i].length = n := fun i h => (h2 i (by omega) h).1
 have hlt : k * n + j < l.length * n := by
  calc k * n + j < k * n + n := by omega
   _ = (k + 1) * n := by rw [Nat.add_mul]; omega
   _ ≤ l.length * n := Nat.mul_le_mul_right _ (by omega)
 rw [h3.cellAt _ hlt, flatten_at hl k (by omega) j hj]
 exact ⟨_, List.getElem?_eq_getElem (by rw [hl]; exact hj)⟩
theorem BldI.whole {α : Type} {w w' : World} {B : Nat} {e : TypeId} {n : Nat} {R : Nat → α → List Value → Prop} {l : List α} {v' : Value} {m : Nat} {cs : List (List Value)} (hA : Appended w w' B e n (.slice none 0 0) v' 0 m [] cs.flatten) (h1 : cs.length = l.length) (h2 : ∀ i (h : i < l.length) (h' : i < cs.length), cs[i].length = n ∧ R i l[i] cs[i]) (hm : m = l.length) : BldI w' B e n R l v' :=
 ⟨cs, h1, h2, by have := hA.own; rw [Nat.zero_add, List.nil_append, hm] at this; exact this⟩
theorem BldI.own {α : Type} {w : World} {B : Nat} {e : TypeId} {n : Nat} {R : Nat → α → List Value → Prop} {l : List α} {v : Value} (h : BldI w B e n R l v) : ∃ cs : List (List Value), cs.length = l.length ∧ (∀ i (h : i < l.length) (h' : i < cs.length), cs[i].length = n ∧ R i l[i] cs[i]) ∧ w.ownsRow B e n v l.length cs.flatten := h
/-! ### the cells of a unit's records -/
def GloC (a : GH) (c : List Value) : Prop := c = [.int .i64 a.at_, .string a.name, .int .u8 a.type, .int .u32 a.len, .int .u32 a.word]
def HosC (w : World) (Z : Nat → Prop) (d : Bool) (a : HH) (c : List Value) : Prop :=
 ∃ v, c = [.int .i64 a.at_, .string a.name, v, .int .u8 a.type, .int .u32 a.number] ∧ (d = true → SlPz w (some Z) a.params v)
def FunC (w : World) (Z : Nat → Prop) (d d' : Bool) (a : FH) (c : List Value) : Prop :=
 ∃ v v', c = [.int .i64 a.at_, .string a.name, v, .int .u8 a.type, .bool a.opn, v'] ∧ (d = true → SlPz w (some Z) a.params v) ∧ (d' = true → SlS w true (some Z) a.body v')
theorem GloR.of {w : World} {a : GH} {c : List Value} {g q : Nat} (h : GloC a c) (hc : ∀ j, j < 5 → w.cell? ⟨g, q + j, none⟩ = c[j]?) : GloR w true a g q := by
 obtain rfl := h
 exact ⟨⟨_, hc 0 (by omega), fun _ => rfl⟩, hc 1 (by omega), hc 2 (by omega), hc 3 (by omega), hc 4 (by omega)⟩
theorem HosR.of {w : World} {Z : Nat → Prop} {a : HH} {c : List Value} {g q : Nat} (h : HosC w Z true a c) (hc : ∀ j, j < 5 → w.cell? ⟨g, q + j, none⟩ = c[j]?) : HosR w true (some Z) a g q := by
 obtain ⟨v, rfl, hv⟩ := h
 exact ⟨⟨_, hc 0 (by omega), fun _ => rfl⟩, hc 1 (by omega), ⟨v, hc 2 (by omega), hv rfl⟩, hc 3 (by omega), hc 4 (by omega)⟩
theorem FunR.of {w : World} {Z : Nat → Prop} {a : FH} {c : List Value} {g q : Nat} (h : FunC w Z true true a c) (hc : ∀ j, j < 6 → w.cell? ⟨g, q + j, none⟩ = c[j]?) : FunR w true (some Z) a g q := by
 obtain ⟨v, v', rfl, hv, hv'⟩ := h
 exact ⟨⟨_, hc 0 (by omega), fun _ => rfl⟩, hc 1 (by omega), ⟨v, hc 2 (by omega), hv rfl⟩, hc 3 (by omega), hc 4 (by omega), ⟨v', hc 5 (by omega), hv' rfl⟩⟩
theorem GloR.cells {w : World} {a : GH} {b q : Nat} (h : GloR w true a b q) : ∃ c : List Value, c.length = 5 ∧ GloC a c ∧ (∀ u ∈ c, u.oneCell' = true) ∧ ∀ j u, c[j]? = some u → w.cell? ⟨b, q + j, none⟩ = some u := by
 obtain ⟨⟨t, y0, y0'⟩, y1, y2, y3, y4⟩ := h
 obtain rfl := y0' rfl
 refine ⟨_, rfl, rfl, by simp [Value.oneCell'], fun j u hj => ?_⟩
 match j, hj with
 | 0, hj => simp at hj; subst hj; exact y0
 | 1, hj => simp at hj; subst hj; exact y1
 | 2, hj => simp at hj; subst hj; exact y2
 | 3, hj => simp at hj; subst hj; exact y3
 | 4, hj => simp at hj; subst hj; exact y4
 | j + 5, hj => simp at hj
theorem HosR.cells {w : World} {a : HH} {b q : Nat} (h : HosR w true none a b q) (Z : Nat → Prop) (w' : World) : ∃ c : List Value, c.length = 5 ∧ HosC w' Z false a c ∧ (∀ u ∈ c, u.oneCell' = true) ∧ ∀ j u, c[j]? = some u → w.cell? ⟨b, q + j, none⟩ = some u := by
 obtain ⟨⟨t, y0, y0'⟩, y1, ⟨v, y2, hv⟩, y3, y4⟩ := h
 obtain rfl := y0' rfl
 obtain ⟨pa, pc, rfl⟩ := hv.shape
 refine ⟨[.int .i64 a.at_, .string a.name, .slice pa a.params.length pc, .int .u8 a.type, .int .u32 a.number], rfl, ⟨_, rfl, (fun e => nomatch e)⟩, by simp [Value.oneCell'], fun j u hj => ?_⟩
 match j, hj with
 | 0, hj => simp at hj; subst hj; exact y0
 | 1, hj => simp at hj; subst hj; exact y1
 | 2, hj => simp at hj; subst hj; exact y2
 | 3, hj => simp at hj; subst hj; exact y3
 | 4, hj => simp at hj; subst hj; exact y4
 | j + 5, hj => simp at hj
theorem FunR.cells {w : World} {a : FH} {b q : Nat} (h : FunR w true none a b q) (Z : Nat → Prop) (w' : World) : ∃ c : List Value, c.length = 6 ∧ FunC w' Z false false a c ∧ (∀ u ∈ c, u.oneCell' = true) ∧ ∀ j u, c[j]? = some u → w.cell? ⟨b, q + j, none⟩ = some u := by
 obtain ⟨⟨t, y0, y0'⟩, y1, ⟨v, y2, hv⟩, y3, y4, ⟨x, y5, hx⟩⟩ := h
 obtain rfl := y0' rfl
 obtain ⟨pa, pc, rfl⟩ := hv.shape
 obtain ⟨xa, xn, xc, rfl⟩ := hx.shape
 refine ⟨[.int .i64 a.at_, .string a.name, .slice pa a.params.length pc, .int .u8 a.type, .bool a.opn, .slice xa xn xc], rfl, ⟨_, _, rfl, (fun e => nomatch e), (fun e => nomatch e)⟩, by simp [Value.oneCell'], fun j u hj => ?_⟩
 match j, hj with
 | 0, hj => simp at hj; subst hj; exact y0
 | 1, hj => simp at hj; subst hj; exact y1
 | 2, hj => simp at hj; subst hj; exact y2
 | 3, hj => simp at hj; subst hj; exact y3
 | 4, hj => simp at hj; subst hj; exact y4
 | 5, hj => simp at hj; subst hj; exact y5
 | j + 6, hj => simp at hj
/-! ### three boxes: the argument, the answer, the unit that is built -/
structure CU (w wr : World) (arg : Array Value) (x0 x1 x2 : Value) : Prop where
 below : Below w.heap.size w wr
 a : Bx wr w.heap.size arg 26
 r : Bx wr (w.heap.size + 1) #[.slice none 0 0, .slice none 0 0, .slice none 0 0] 26
 x : Bx wr (w.heap.size + 1 + 1) #[x0, x1, x2] 26
theorem CU.size {w wr : World} {arg : Array Value} {x0 x1 x2 : Value} (h : CU w wr arg x0 x1 x2) : w.heap.size + 3 ≤ wr.heap.size := by have := h.x.lt; omega
theorem CU.start (w : World) (arg : Array Value) : CU w (((w.alloc (.cells arg 26)).alloc (.cells #[.slice none 0 0, .slice none 0 0, .slice none 0 0] 26)).alloc (.cells #[.slice none 0 0, .slice none 0 0, .slice none 0 0] 26)) arg (.slice none 0 0) (.slice none 0 0) (.slice none 0 0) where
 below := (((Below.refl _ _).alloc (Nat.le_refl _) _).alloc (by simp) _).alloc (by simp; omega) _
 a := ((Bx.new w _ _).on (World.grownBy_alloc _ _ none) (by simp)).on (World.grownBy_alloc _ _ none) (by simp)
 r := by have := (Bx.new (w.alloc (.cells arg 26)) #[.slice none 0 0, .slice none 0 0, .slice none 0 0] 26).on (World.grownBy_alloc _ (.cells #[.slice none 0 0, .slice none 0 0, .slice none 0 0] 26) none) (by simp); simpa using this
 x := by have := Bx.new ((w.alloc (.cells arg 26)).alloc (.cells #[.slice none 0 0, .slice none 0 0, .slice none 0 0] 26)) #[.slice none 0 0, .slice none 0 0, .slice none 0 0] 26; simpa using this
theorem CU.step {w wr w' : World} {arg : Array Value} {x0 x1 x2 : Value} (h : CU w wr arg x0 x1 x2) {row : Option Nat} (hg : wr.grownBy w' row) (hr : ∀ k, row = some k → w.heap.size + 3 ≤ k) : CU w w' arg x0 x1 x2 where
 below := h.below.grown hg (by have := h.below.size; omega) (fun k hk => by have := hr k hk; omega)
 a := h.a.on hg (fun e => by have := hr _ e.symm; omega)
 r := h.r.on hg (fun e => by have := hr _ e.symm; omega)
 x := h.x.on hg (fun e => by have := hr _ e.symm; omega)
theorem CU.drew {w wr : World} {arg : Array Value} {x0 x1 x2 : Value} (h : CU w wr arg x0 x1 x2) : CU w wr.drew arg x0 x1 x2 := ⟨h.below.drew, h.a, h.r, h.x⟩
theorem CU.put {w wr : World} {arg : Array Value} {x0 x1 x2 : Value} (h : CU w wr arg x0 x1 x2) (i : Nat) (v y0 y1 y2 : Value) (hy : (#[x0, x1, x2] : Array Value).set! i v = #[y0, y1, y2]) : CU w (wr.setCell ⟨w.heap.size + 1 + 1, i, none⟩ v) arg y0 y1 y2 where
 below := h.below.setCell (by show w.heap.size ≤ w.heap.size + 1 + 1; omega) _
 a := h.a.on (grown_put (grown_refl _ _) (pb := w.heap.size + 1 + 1) (off := i) v) (fun e => by have := Option.some.inj e; omega)
 r := h.r.on (grown_put (grown_refl _ _) (pb := w.heap.size + 1 + 1) (off := i) v) (fun e => by have := Option.some.inj e; omega)
 x := by rw [← hy]; exact h.x.set i v
theorem CU.cells {w wr : World} {g0 g1 g2 x0 x1 x2 : Value} (h : CU w wr #[g0, g1, g2] x0 x1 x2) :
  (wr.cell? ⟨w.heap.size, 0, none⟩ = some g0 ∧ wr.cell? ⟨w.heap.size, 1, none⟩ = some g1 ∧ wr.cell? ⟨w.heap.size, 2, none⟩ = some g2) ∧
  (wr.cell? ⟨w.heap.size + 1 + 1, 0, none⟩ = some x0 ∧ wr.cell? ⟨w.heap.size + 1 + 1, 1, none⟩ = some x1 ∧ wr.cell? ⟨w.heap.size + 1 + 1, 2, none⟩ = some x2) ∧ (∀ i, wr.frozen? ⟨w.heap.size + 1 + 1, i, none⟩ = false) :=
 ⟨⟨h.a.cell 0, h.a.cell 1, h.a.cell 2⟩, ⟨h.x.cell 0, h.x.cell 1, h.x.cell 2⟩, h.x.free⟩
theorem size_set (w : World) (a : Addr) (v : Value) : (w.setCell a v).heap.size = w.heap.size := by simp [World.setCell]
theorem CU.whole {w w1 w2 : World} {arg : Array Value} {x0 x1 x2 v' : Value} {e : TypeId} {n m : Nat} {news : List Value} (h : CU w w1 arg x0 x1 x2) (hA : Appended w1 w2 (w.heap.size + 3) e n (.slice none 0 0) v' 0 m [] news) : CU w w2 arg x0 x1 x2 :=
 h.step (row := none) hA.grown (fun k hk => by cases hk)
theorem CU.mark {w w1 w2 : World} {arg : Array Value} {x0 x1 x2 v v' : Value} {e : TypeId} {n k m : Nat} {xs news : List Value} (h : CU w w1 arg x0 x1 x2) (hA : Appended w1 w2 (w.heap.size + 3) e n v v' k m xs news) (ho : w1.ownsRow (w.heap.size + 3) e n v k xs) : CU w w2 arg x0 x1 x2 :=
 h.step hA.grown (fun q hq => (ho.lt q hq).1)
theorem HosC.move {w w' : World} {Z Z' : Nat → Prop} {d : Bool} {a : HH} {c : List Value} {row : Option Nat} (h : HosC w Z d a c) (hg : w.grownBy w' row) (hr : ∀ b, Z b → some b ≠ row) (hz : ∀ b, Z b → Z' b) : HosC w' Z' d a c := by
 obtain ⟨v, hv, h1⟩ := h
 exact ⟨v, hv, fun e => (h1 e).move hg hr hz⟩
theorem FunC.move {w w' : World} {Z Z' : Nat → Prop} {d d' : Bool} {a : FH} {c : List Value} {row : Option Nat} (h : FunC w Z d d' a c) (hg : w.grownBy w' row) (hr : ∀ b, Z b → some b ≠ row) (hz : ∀ b, Z b → Z' b) : FunC w' Z' d d' a c := by
 obtain ⟨v, v', hv, h1, h2⟩ := h
 exact ⟨v, v', hv, fun e => (h1 e).move hg hr hz, fun e => (h2 e).move hg hr hz⟩
abbrev HB (w : World) (B : Nat) (l : List HH) (v : Value) (k : Nat) : Prop := BldI w B 101 5 (fun i => HosC w (ZB B w.heap.size v) (decide (i < k))) l v
abbrev FB (w : World) (B : Nat) (l : List FH) (v : Value) (k k' : Nat) : Prop := BldI w B 43 6 (fun i => FunC w (ZB B w.heap.size v) (decide (i < k)) (decide (i < k'))) l v
theorem own_ne {v : Value} {B N q : Nat} (h : ∀ k, v.ownBlock = some k → B ≤ k ∧ k < N) (hq : q < B) : v.ownBlock = none ∨ v.ownBlock ≠ some q := .inr (fun e => by have := (h q e).1; omega)
theorem HB.call {w w2 : World} {B : Nat} {l : List HH} {v : Value} {k : Nat} (h : HB w B l v k) (hg : w.grownBy w2 none) : HB w2 B l v k :=
 BldI.on h hg (by cases v.ownBlock <;> simp) (fun i a c hc => hc.move hg (fun _ _ => by simp) (fun b hb => ⟨hb.1, Nat.lt_of_lt_of_le hb.2.1 hg.size, hb.2.2⟩))
theorem FB.call {w w2 : World} {B : Nat} {l : List FH} {v : Value} {k k' : Nat} (h : FB w B l v k k') (hg : w.grownBy w2 none) : FB w2 B l v k k' :=
 BldI.on h hg (by cases v.ownBlock <;> simp) (fun i a c hc => hc.move hg (fun _ _ => by simp) (fun b hb => ⟨hb.1, Nat.lt_of_lt_of_le hb.2.1 hg.size, hb.2.2⟩))
theorem HB.other {w w2 : World} {B : Nat} {l : List HH} {v : Value} {k : Nat} (h : HB w B l v k) {q : Nat} (hg : w.grownBy w2 (some q)) (hq : q < B) : HB w2 B l v k :=
 BldI.on h hg (own_ne h.lt hq) (fun i a c hc => hc.move hg (fun b hb => by have := hb.1; simp; omega) (fun b hb => ⟨hb.1, Nat.lt_of_lt_of_le hb.2.1 hg.size, hb.2.2⟩))
theorem FB.other {w w2 : World} {B : Nat} {l : List FH} {v : Value} {k k' : Nat} (h : FB w B l v k k') {q : Nat} (hg : w.grownBy w2 (some q)) (hq : q < B) : FB w2 B l v k k' :=
 BldI.on h hg (own_ne h.lt hq) (fun i a c hc => hc.move hg (fun b hb => by have := hb.1; simp; omega) (fun b hb => ⟨hb.1, Nat.lt_of_lt_of_le hb.2.1 hg.size, hb.2.2⟩))
theorem HB.put {w : World} {B : Nat} {l : List HH} {g m cap k : Nat} (h : HB w B l (.slice (some ⟨g, 0, none⟩) m cap) k) (hm : m = l.length) (hk : k < l.length) {u : Value} {Z0 : Nat → Prop} (hu : SlPz w (some Z0) l[k].params u) (hz : ∀ b, Z0 b → ZB B w.heap.size (.slice (some ⟨g, 0, none⟩) m cap) b) :
  HB (w.setCell ⟨g, k * 5 + 2, none⟩ u) B l (.slice (some ⟨g, 0, none⟩) m cap) (k + 1) := by
 have hg : w.grownBy (w.setCell ⟨g, k * 5 + 2, none⟩ u) (some g) := grown_put (grown_refl _ _) u
 have hs := size_set w ⟨g, k * 5 + 2, none⟩ u
 have hzz : ∀ b, ZB B w.heap.size (.slice (some ⟨g, 0, none⟩) m cap) b → ZB B (w.setCell ⟨g, k * 5 + 2, none⟩ u).heap.size (.slice (some ⟨g, 0, none⟩) m cap) b := fun b hb => ⟨hb.1, by rw [hs]; exact hb.2.1, hb.2.2⟩
 refine BldI.store h hm k hk 2 (by omega) u (fun i a c hi hc => ?_) (fun c hc => ?_)
 ·have hd : decide (i < k + 1) = decide (i < k) := by simp; omega
  show HosC _ _ (decide (i < k + 1)) a c
  rw [hd]
  exact HosC.move hc hg (fun b hb => hb.2.2) hzz
 ·obtain ⟨v, rfl, _⟩ := hc
  exact ⟨u, rfl, fun _ => hu.move hg (fun b hb => (hz b hb).2.2) (fun b hb => hzz b (hz b hb))⟩
theorem GloR.move {w w' : World} {p : Bool} {a : GH} {b q : Nat} {row : Option Nat} (h : GloR w p a b q) (hg : w.grownBy w' row) (hb : some b ≠ row) : GloR w' p a b q := by
 obtain ⟨⟨t, y0, y0'⟩, y1, y2, y3, y4⟩ := h
 exact ⟨⟨t, hg.cell y0 hb, y0'⟩, hg.cell y1 hb, hg.cell y2 hb, hg.cell y3 hb, hg.cell y4 hb⟩
theorem HosR.move {w w' : World} {p : Bool} {Z Z' : Nat → Prop} {a : HH} {b q : Nat} {row : Option Nat} (h : HosR w p (some Z) a b q) (hg : w.grownBy w' row) (hr : ∀ b, Z b → some b ≠ row) (hz : ∀ b, Z b → Z' b) (hb : some b ≠ row) : HosR w' p (some Z') a b q := by
 obtain ⟨⟨t, y0, y0'⟩, y1, ⟨v, y2, hv⟩, y3, y4⟩ := h
 exact ⟨⟨t, hg.cell y0 hb, y0'⟩, hg.cell y1 hb, ⟨v, hg.cell y2 hb, hv.move hg hr hz⟩, hg.cell y3 hb, hg.cell y4 hb⟩
theorem FunR.move {w w' : World} {p : Bool} {Z Z' : Nat → Prop} {a : FH} {b q : Nat} {row : Option Nat} (h : FunR w p (some Z) a b q) (hg : w.grownBy w' row) (hr : ∀ b, Z b → some b ≠ row) (hz : ∀ b, Z b → Z' b) (hb : some b ≠ row) : FunR w' p (some Z') a b q := by
 obtain ⟨⟨t, y0, y0'⟩, y1, ⟨v, y2, hv⟩, y3, y4, ⟨x, y5, hx⟩⟩ := h
 exact ⟨⟨t, hg.cell y0 hb, y0'⟩, hg.cell y1 hb, ⟨v, hg.cell y2 hb, hv.move hg hr hz⟩, hg.cell y3 hb, hg.cell y4 hb, ⟨x, hg.cell y5 hb, hx.move hg hr hz⟩⟩
theorem SlG.move {w w' : World} {p : Bool} {Z Z' : Nat → Prop} {l : List GH} {v : Value} {row : Option Nat} (h : SlG w p (some Z) l v) (hg : w.grownBy w' row) (hr : ∀ b, Z b → some b ≠ row) (hz : ∀ b, Z b → Z' b) : SlG w' p (some Z') l v := SlR.move h hg hr hz (fun a b q hb h => h.move hg hb)
theorem SlH.move {w w' : World} {p : Bool} {Z Z' : Nat → Prop} {l : List HH} {v : Value} {row : Option Nat} (h : SlH w p (some Z) l v) (hg : w.grownBy w' row) (hr : ∀ b, Z b → some b ≠ row) (hz : ∀ b, Z b → Z' b) : SlH w' p (some Z') l v := SlR.move h hg hr hz (fun a b q hb h => h.move hg hr hz hb)
theorem SlF.move {w w' : World} {p : Bool} {Z Z' : Nat → Prop} {l : List FH} {v : Value} {row : Option Nat} (h : SlF w p (some Z) l v) (hg : w.grownBy w' row) (hr : ∀ b, Z b → some b ≠ row) (hz : ∀ b, Z b → Z' b) : SlF w' p (some Z') l v := SlR.move h hg hr hz (fun a b q hb h => h.move hg hr hz hb)
/-- a list is whole, its mark behind it -/
theorem HB.done {B : Nat} {l : List HH} {wr w3 : World} {x0 : Value} {g k cap : Nat} {mark : List Value} {cs : List (List Value)} (hA : Appended wr w3 B 101 5 x0 (.slice (some ⟨g, 0, none⟩) (k + 1) cap) k 1 cs.flatten mark)
  (h1 : cs.length = l.length) (h2 : ∀ i (h : i < l.length) (h' : i < cs.length), cs[i].length = 5 ∧ HosC wr (ZB B wr.heap.size x0) (decide (i < k)) l[i] cs[i]) (hlt : ∀ q, x0.ownBlock = some q → q < wr.heap.size) (hB : B ≤ wr.heap.size) (hg : B ≤ g) (hm : k = l.length) (hmk : mark[0]? = some (markV 101) := by rfl) :
  SlH w3 true (some fun b => B ≤ b ∧ b < w3.heap.size) l (.slice (some ⟨g, 0, none⟩) k cap) := by
 subst hm
 have hSt := mkStep (B := B) (grown_refl wr none) hA hlt hB
 have hg3 : g < w3.heap.size := (hA.own.lt g rfl).2
 refine Bld.done (R := HosC w3 (fun b => B ≤ b ∧ b < w3.heap.size) true) h1 (fun i h h' => ⟨(h2 i h h').1, ?_⟩) hA.own (by omega) (by decide) hmk ⟨hg, hg3⟩ (fun a c q hR hc => HosR.of hR hc)
 have := (h2 i h h').2
 rw [decide_eq_true h] at this
 exact this.move hSt.grown (fun b hb => hb.2.2) (fun b hb => ⟨hb.1, (hSt.oldz b hb).2.1⟩)
theorem FB.done {B : Nat} {l : List FH} {wr w3 : World} {x0 : Value} {g k cap : Nat} {mark : List Value} {cs : List (List Value)} (hA : Appended wr w3 B 43 6 x0 (.slice (some ⟨g, 0, none⟩) (k + 1) cap) k 1 cs.flatten mark)
  (h1 : cs.length = l.length) (h2 : ∀ i (h : i < l.length) (h' : i < cs.length), cs[i].length = 6 ∧ FunC wr (ZB B wr.heap.size x0) (decide (i < k)) (decide (i < k)) l[i] cs[i]) (hlt : ∀ q, x0.ownBlock = some q → q < wr.heap.size) (hB : B ≤ wr.heap.size) (hg : B ≤ g) (hm : k = l.length) (hmk : mark[0]? = some (markV 43) := by rfl) :
  SlF w3 true (some fun b => B ≤ b ∧ b < w3.heap.size) l (.slice (some ⟨g, 0, none⟩) k cap) := by
 subst hm
 have hSt := mkStep (B := B) (grown_refl wr none) hA hlt hB
 have hg3 : g < w3.heap.size := (hA.own.lt g rfl).2
 refine Bld.done (R := FunC w3 (fun b => B ≤ b ∧ b < w3.heap.size) true true) h1 (fun i h h' => ⟨(h2 i h h').1, ?_⟩) hA.own (by omega) (by decide) hmk ⟨hg, hg3⟩ (fun a c q hR hc => FunR.of hR hc)
 have := (h2 i h h').2
 rw [decide_eq_true h] at this
 exact this.move hSt.grown (fun b hb => hb.2.2) (fun b hb => ⟨hb.1, (hSt.oldz b hb).2.1⟩)
theorem GloC.done {B : Nat} {l : List GH} {w1 w3 : World} {x0 : Value} {g k cap : Nat} {mark : List Value} {cs : List (List Value)} (hA : Appended w1 w3 B 105 5 x0 (.slice (some ⟨g, 0, none⟩) (k + 1) cap) k 1 cs.flatten mark)
  (h1 : cs.length = l.length) (h2 : ∀ i (h : i < l.length) (h' : i < cs.length), cs[i].length = 5 ∧ GloC l[i] cs[i]) (hg : B ≤ g) (hm : k = l.length) (hmk : mark[0]? = some (markV 105) := by rfl) :
  SlG w3 true (some fun b => B ≤ b ∧ b < w3.heap.size) l (.slice (some ⟨g, 0, none⟩) k cap) := by
 subst hm
 have hg3 : g < w3.heap.size := (hA.own.lt g rfl).2
 exact Bld.done (R := GloC) h1 h2 hA.own (by omega) (by decide) hmk ⟨hg, hg3⟩ (fun a c q hR hc => GloR.of hR hc)
theorem HB.start {w0 w2 w3 : World} {Z0 : Nat → Prop} {B : Nat} {l : List HH} {v' : Value} {m : Nat} {cs : List (List Value)} (hA : Appended w2 w3 B 101 5 (.slice none 0 0) v' 0 m [] cs.flatten) (h1 : cs.length = l.length) (h2 : ∀ i (h : i < l.length) (h' : i < cs.length), cs[i].length = 5 ∧ HosC w0 Z0 false l[i] cs[i]) (hm : m = l.length) : HB w3 B l v' 0 :=
 BldI.whole hA h1 (fun i h h' => ⟨(h2 i h h').1, by obtain ⟨v, hv, _⟩ := (h2 i h h').2; exact ⟨v, hv, fun e => absurd (of_decide_eq_true e) (Nat.not_lt_zero _)⟩⟩) hm
theorem FB.start {w0 w2 w3 : World} {Z0 : Nat → Prop} {B : Nat} {l : List FH} {v' : Value} {m : Nat} {cs : List (List Value)} (hA : Appended w2 w3 B 43 6 (.slice none 0 0) v' 0 m [] cs.flatten) (h1 : cs.length = l.length) (h2 : ∀ i (h : i < l.length) (h' : i < cs.length), cs[i].length = 6 ∧ FunC w0 Z0 false false l[i] cs[i]) (hm : m = l.length) : FB w3 B l v' 0 0 :=
 BldI.whole hA h1 (fun i h h' => ⟨(h2 i h h').1, by obtain ⟨v, v', hv, _, _⟩ := (h2 i h h').2; exact ⟨v, v', hv, (fun e => absurd (of_decide_eq_true e) (Nat.not_lt_zero _)), (fun e => absurd (of_decide_eq_true e) (Nat.not_lt_zero _))⟩⟩) hm
/-- the functions of a unit are being built -/
structure FSt (w wr : World) (arg : Array Value) (x0 x1 x2 : Value) (u : UT) (vg vh : Value) (b2 b4 j j' : Nat) : Prop where
 c : CU w wr arg x0 x1 x2
 g : SlG wr true (some fun b => w.heap.size + 3 ≤ b ∧ b < b2) u.gs vg
 h : SlH wr true (some fun b => w.heap.size + 3 ≤ b ∧ b < b4) u.hs vh
 b : FB wr (w.heap.size + 3) u.fs x2 j j'
 s : b4 ≤ wr.heap.size
theorem FSt.call {w wr w' : World} {arg : Array Value} {x0 x1 x2 : Value} {u : UT} {vg vh : Value} {b2 b4 j j' : Nat} (h : FSt w wr arg x0 x1 x2 u vg vh b2 b4 j j') (hg : wr.grownBy w' none) : FSt w w' arg x0 x1 x2 u vg vh b2 b4 j j' where
 c := h.c.step hg (fun k h => by cases h)
 g := SlG.move h.g hg (fun _ _ => by simp) (fun _ h => h)
 h := SlH.move h.h hg (fun _ _ => by simp) (fun _ h => h)
 b := FB.call h.b hg
 s := Nat.le_trans h.s hg.size
/-- a row's cell for a store -/
theorem FSt.row {w wr : World} {arg : Array Value} {x0 x1 : Value} {u : UT} {vg vh : Value} {b2 b4 j j' g m cap : Nat} (h : FSt w wr arg x0 x1 (.slice (some ⟨g, 0, none⟩) m cap) u vg vh b2 b4 j j') (hm : m = u.fs.length) (k : Nat) (hk : k < u.fs.length) (i : Nat) (hi : i < 6) :
  (∃ v, wr.cell? ⟨g, k * 6 + i, none⟩ = some v) ∧ wr.frozen? ⟨g, k * 6 + i, none⟩ = false :=
 ⟨BldI.cell h.b hm k hk i hi, BldI.free h.b hm _⟩
end
end Go.Proofs.YtlabadkfkbenoaaGreatDoor
