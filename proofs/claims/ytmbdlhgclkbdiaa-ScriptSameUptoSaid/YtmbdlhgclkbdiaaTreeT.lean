/- ScriptSame: walks. No condition. -/
import Derived.Test.YtmbdlhgclkbdiaaTreeS
namespace Go.Proofs.Ytmbdlhgclkbdiaa
open Go.RowKit
set_option linter.unusedVariables false
set_option linter.unusedSimpArgs false

/-! ### other places: only the place of a record may change -/
def Spot (t : TypeId) (i : Nat) : Prop := (t = 101 ∧ i % 7 = 0) ∨ (t = 97 ∧ i % 8 = 0) ∨ (t = 73 ∧ i % 5 = 0) ∨ (t = 66 ∧ i % 5 = 0) ∨ (t = 69 ∧ i % 6 = 0)
structure Pl (Z : Nat → Prop) (w w' : World) : Prop where
  os : w'.os = w.os
  tape : w'.tape = w.tape
  output : w'.output = w.output
  size : w.heap.size ≤ w'.heap.size
  other : ∀ k, k < w.heap.size → ¬ Z k → w'.heap[k]? = w.heap[k]?
  zone : ∀ b cs t, Z b → w.heap[b]? = some (.cells cs t (0, 0)) → ∃ cs', w'.heap[b]? = some (.cells cs' t (0, 0)) ∧ ∀ i : Nat, cs'[i]? = cs[i]? ∨ (Spot t i ∧ ∃ x y, cs[i]? = some (.int .i64 x) ∧ cs'[i]? = some (.int .i64 y))
theorem Pl.refl (Z : Nat → Prop) (w : World) : Pl Z w w := ⟨rfl, rfl, rfl, Nat.le_refl _, fun _ _ _ => rfl, fun b cs t _ h => ⟨cs, h, fun i => .inl rfl⟩⟩
theorem Pl.trans {Z : Nat → Prop} {a b c : World} (h : Pl Z a b) (k : Pl Z b c) : Pl Z a c where
  os := k.os.trans h.os
  tape := k.tape.trans h.tape
  output := k.output.trans h.output
  size := Nat.le_trans h.size k.size
  other := fun i hi hz => (k.other i (Nat.lt_of_lt_of_le hi h.size) hz).trans (h.other i hi hz)
  zone := fun q cs t hq hc => by
    obtain ⟨cs1, h1, h2⟩ := h.zone q cs t hq hc
    obtain ⟨cs2, k1, k2⟩ := k.zone q cs1 t hq h1
    refine ⟨cs2, k1, fun i => ?_⟩
    rcases h2 i with e | ⟨s, x, y, e1, e2⟩ <;> rcases k2 i with f | ⟨s', x', y', f1, f2⟩
    · exact .inl (f.trans e)
    · exact .inr ⟨s', x', y', by rw [← e, f1], f2⟩
    · exact .inr ⟨s, x, y, e1, f.trans e2⟩
    · exact .inr ⟨s, x, y', e1, f2⟩
theorem Pl.alloc {Z : Nat → Prop} {a w : World} (h : Pl Z a w) (o : Obj) (hZ : ∀ b, Z b → b < w.heap.size) : Pl Z a (w.alloc o) := h.trans
  ⟨rfl, rfl, rfl, by simp, fun k hk _ => heap_alloc_old w o hk, fun b cs t hb hc => ⟨cs, (heap_alloc_old w o (hZ b hb)).trans hc, fun i => .inl rfl⟩⟩
/-- a place is set -/
theorem Pl.set {Z : Nat → Prop} {w : World} {b i : Nat} {t : TypeId} {cs : Array Value} {x : Int} (hz : Z b) (hc : w.heap[b]? = some (.cells cs t (0, 0))) (hs : Spot t i) (hx : w.cell? ⟨b, i, none⟩ = some (.int .i64 x)) (y : Int) : Pl Z w (w.setCell ⟨b, i, none⟩ (.int .i64 y)) where
  os := rfl
  tape := rfl
  output := rfl
  size := by simp [World.setCell]
  other := fun k _ hk => Below.heap_setCell _ _ _ _ (fun e => hk (by rw [e]; exact hz))
  zone := fun q cs' t' hq hc' => by
    by_cases e : q = b
    · subst e
      rw [hc] at hc'
      cases hc'
      have hX : Bx w q cs t := hc
      refine ⟨_, hX.set i _, fun j => ?_⟩
      rw [hX.cell] at hx
      have hi : i < cs.size := by
        rcases Nat.lt_or_ge i cs.size with h | h
        · exact h
        · rw [Array.getElem?_eq_none h] at hx; cases hx
      by_cases hj : j = i
      · subst hj
        exact .inr ⟨hs, x, y, hx, by simp [hi]⟩
      · left
        rw [Array.set!_eq_setIfInBounds, Array.getElem?_setIfInBounds_ne (fun h => hj h.symm)]
    · exact ⟨cs', (Below.heap_setCell _ _ _ _ e).trans hc', fun j => .inl rfl⟩
section
variable {w w' : World} {Z : Nat → Prop}
theorem Pl.zones (h : Pl Z w w') {t : TypeId} {b off : Nat} (hz : Zone w (some Z) t b off) : Zone w' (some Z) t b off := fun Y hY => by
  cases hY
  obtain ⟨h1, h2, cs, h3⟩ := hz Z rfl
  obtain ⟨cs', h4, _⟩ := h.zone b cs t h1 h3
  exact ⟨h1, h2, cs', h4⟩
theorem Pl.keep (h : Pl Z w w') {t : TypeId} {b : Nat} (hz : Zone w (some Z) t b 0) {i : Nat} (hs : ¬ Spot t i) {v : Value} (hc : w.cell? ⟨b, i, none⟩ = some v) : w'.cell? ⟨b, i, none⟩ = some v := by
  obtain ⟨h1, h2, cs, h3⟩ := hz Z rfl
  obtain ⟨cs', h4, h5⟩ := h.zone b cs t h1 h3
  have a1 : Bx w b cs t := h3
  have a2 : Bx w' b cs' t := h4
  rw [a1.cell] at hc
  rw [a2.cell]
  rcases h5 i with e | ⟨s, _⟩
  · rw [e]; exact hc
  · exact absurd s hs
theorem Pl.int (h : Pl Z w w') {t : TypeId} {b : Nat} (hz : Zone w (some Z) t b 0) {i : Nat} {x : Int} (hc : w.cell? ⟨b, i, none⟩ = some (.int .i64 x)) : ∃ y, w'.cell? ⟨b, i, none⟩ = some (.int .i64 y) := by
  obtain ⟨h1, h2, cs, h3⟩ := hz Z rfl
  obtain ⟨cs', h4, h5⟩ := h.zone b cs t h1 h3
  have a1 : Bx w b cs t := h3
  have a2 : Bx w' b cs' t := h4
  rw [a1.cell] at hc
  rw [a2.cell]
  rcases h5 i with e | ⟨s, x', y, _, e⟩
  · rw [e]; exact ⟨x, hc⟩
  · exact ⟨y, e⟩
theorem HeadE.pl (h : Pl Z w w') {a : EH} {b k : Nat} (hz : Zone w (some Z) 101 b 0) (x : HeadE w false a b (k * 7)) : HeadE w' false a b (k * 7) := by
  obtain ⟨⟨t, y0, _⟩, y1, y2, y3, y4, y5⟩ := x
  obtain ⟨t', z0⟩ := h.int hz y0
  exact ⟨⟨t', z0, (fun e => nomatch e)⟩, h.keep hz (by simp [Spot]; try omega) y1, h.keep hz (by simp [Spot]; try omega) y2, h.keep hz (by simp [Spot]; try omega) y3, h.keep hz (by simp [Spot]; try omega) y4, h.keep hz (by simp [Spot]; try omega) y5⟩
theorem HeadS.pl (h : Pl Z w w') {a : SH} {b k : Nat} (hz : Zone w (some Z) 97 b 0) (x : HeadS w false a b (k * 8)) : HeadS w' false a b (k * 8) := by
  obtain ⟨⟨t, y0, _⟩, y1, y2, y3, y4⟩ := x
  obtain ⟨t', z0⟩ := h.int hz y0
  exact ⟨⟨t', z0, (fun e => nomatch e)⟩, h.keep hz (by simp [Spot]; try omega) y1, h.keep hz (by simp [Spot]; try omega) y2, h.keep hz (by simp [Spot]; try omega) y3, h.keep hz (by simp [Spot]; try omega) y4⟩
theorem ExsIn.pl (h : Pl Z w w') : ∀ {l : Exs} {b off k : Nat}, ExsIn w false (some Z) l b off k → (l.len = 0 ∨ Zone w (some Z) 101 b off) → ExsIn w' false (some Z) l b off k
  | .nil, _, _, _, _, _ => trivial
  | .cons a kids rest, b, off, k, ⟨x1, ⟨ka, kb, koff, kcap, y1, y2, y3⟩, x3⟩, hb => by
    have hz : Zone w (some Z) 101 b off := hb.resolve_left (by simp [Exs.len])
    obtain rfl := (hz Z rfl).2.1
    simp only [Nat.zero_add] at x1 y1
    refine ⟨by rw [Nat.zero_add]; exact x1.pl h hz, ⟨ka, kb, koff, kcap, by rw [Nat.zero_add]; exact h.keep hz (by simp [Spot]; try omega) y1, y2.imp id (fun z => ⟨z.1, h.zones z.2⟩), ExsIn.pl h y3 (y2.imp id (fun z => z.2))⟩, ExsIn.pl h x3 (.inr hz)⟩
theorem SlE.pl (h : Pl Z w w') {l : Exs} {v : Value} (x : SlE w false (some Z) l v) : SlE w' false (some Z) l v := by
  obtain ⟨ka, kb, koff, kcap, rfl, y2, y3⟩ := x
  exact ⟨ka, kb, koff, kcap, rfl, y2.imp id (fun z => ⟨z.1, h.zones z.2⟩), y3.pl h (y2.imp id (fun z => z.2))⟩
theorem StsIn.pl (h : Pl Z w w') : ∀ {l : Sts} {b off k : Nat}, StsIn w false (some Z) l b off k → (l.len = 0 ∨ Zone w (some Z) 97 b off) → StsIn w' false (some Z) l b off k
  | .nil, _, _, _, _, _ => trivial
  | .cons a x body els rest, b, off, k, ⟨x1, ⟨v, x2, x3⟩, ⟨ka, kb, koff, kcap, y1, y2, y3⟩, ⟨ja, jb, joff, jcap, z1, z2, z3⟩, x4⟩, hb => by
    have hz : Zone w (some Z) 97 b off := hb.resolve_left (by simp [Sts.len])
    obtain rfl := (hz Z rfl).2.1
    simp only [Nat.zero_add] at x1 x2 y1 z1
    refine ⟨by rw [Nat.zero_add]; exact x1.pl h hz, ⟨v, by rw [Nat.zero_add]; exact h.keep hz (by simp [Spot]; try omega) x2, x3.pl h⟩, ⟨ka, kb, koff, kcap, by rw [Nat.zero_add]; exact h.keep hz (by simp [Spot]; try omega) y1, y2.imp id (fun z => ⟨z.1, h.zones z.2⟩), StsIn.pl h y3 (y2.imp id (fun z => z.2))⟩, ⟨ja, jb, joff, jcap, by rw [Nat.zero_add]; exact h.keep hz (by simp [Spot]; try omega) z1, z2.imp id (fun z => ⟨z.1, h.zones z.2⟩), StsIn.pl h z3 (z2.imp id (fun z => z.2))⟩, StsIn.pl h x4 (.inr hz)⟩
theorem SlS.pl (h : Pl Z w w') {l : Sts} {v : Value} (x : SlS w false (some Z) l v) : SlS w' false (some Z) l v := by
  obtain ⟨ka, kb, koff, kcap, rfl, y2, y3⟩ := x
  exact ⟨ka, kb, koff, kcap, rfl, y2.imp id (fun z => ⟨z.1, h.zones z.2⟩), y3.pl h (y2.imp id (fun z => z.2))⟩
theorem SlR.pl {α : Type} (h : Pl Z w w') {t : TypeId} {n : Nat} {R R' : α → Nat → Nat → Prop} {l : List α} {v : Value} (x : SlR w (some Z) t n R l v) (hR : ∀ a b i, Zone w (some Z) t b 0 → R a b (i * n) → R' a b (i * n)) : SlR w' (some Z) t n R' l v := by
  obtain ⟨ka, kb, koff, kcap, rfl, y2, y3⟩ := x
  refine ⟨ka, kb, koff, kcap, rfl, y2.imp id (fun z => ⟨z.1, h.zones z.2⟩), fun i hi => ?_⟩
  rcases y2 with h0 | ⟨_, hZ⟩
  · omega
  · obtain rfl := (hZ Z rfl).2.1
    have := y3 i hi
    rw [Nat.zero_add] at this ⊢
    exact hR _ _ _ hZ this
theorem SlPz.pl (h : Pl Z w w') {l : List PW} {v : Value} (x : SlPz w (some Z) l v) : SlPz w' (some Z) l v :=
  SlR.pl h x (fun a b i hz h' => ⟨h.keep hz (by simp [Spot]; try omega) h'.c0, h.keep hz (by simp [Spot]; try omega) h'.c1⟩)
theorem GloR.pl (h : Pl Z w w') {a : GH} {b i : Nat} (hz : Zone w (some Z) 73 b 0) (x : GloR w false a b (i * 5)) : GloR w' false a b (i * 5) := by
  obtain ⟨⟨t, y0, _⟩, y1, y2, y3, y4⟩ := x
  obtain ⟨t', z0⟩ := h.int hz y0
  exact ⟨⟨t', z0, (fun e => nomatch e)⟩, h.keep hz (by simp [Spot]; try omega) y1, h.keep hz (by simp [Spot]; try omega) y2, h.keep hz (by simp [Spot]; try omega) y3, h.keep hz (by simp [Spot]; try omega) y4⟩
theorem HosR.pl (h : Pl Z w w') {a : HH} {b i : Nat} (hz : Zone w (some Z) 66 b 0) (x : HosR w false (some Z) a b (i * 5)) : HosR w' false (some Z) a b (i * 5) := by
  obtain ⟨⟨t, y0, _⟩, y1, ⟨v, y2, hv⟩, y3, y4⟩ := x
  obtain ⟨t', z0⟩ := h.int hz y0
  exact ⟨⟨t', z0, (fun e => nomatch e)⟩, h.keep hz (by simp [Spot]; try omega) y1, ⟨v, h.keep hz (by simp [Spot]; try omega) y2, hv.pl h⟩, h.keep hz (by simp [Spot]; try omega) y3, h.keep hz (by simp [Spot]; try omega) y4⟩
theorem FunR.pl (h : Pl Z w w') {a : FH} {b i : Nat} (hz : Zone w (some Z) 69 b 0) (x : FunR w false (some Z) a b (i * 6)) : FunR w' false (some Z) a b (i * 6) := by
  obtain ⟨⟨t, y0, _⟩, y1, ⟨v, y2, hv⟩, y3, y4, ⟨s, y5, hs⟩⟩ := x
  obtain ⟨t', z0⟩ := h.int hz y0
  exact ⟨⟨t', z0, (fun e => nomatch e)⟩, h.keep hz (by simp [Spot]; try omega) y1, ⟨v, h.keep hz (by simp [Spot]; try omega) y2, hv.pl h⟩, h.keep hz (by simp [Spot]; try omega) y3, h.keep hz (by simp [Spot]; try omega) y4, ⟨s, h.keep hz (by simp [Spot]; try omega) y5, hs.pl h⟩⟩
theorem SlG.pl (h : Pl Z w w') {l : List GH} {v : Value} (x : SlG w false (some Z) l v) : SlG w' false (some Z) l v := SlR.pl h x (fun a b i hz y => y.pl h hz)
theorem SlH.pl (h : Pl Z w w') {l : List HH} {v : Value} (x : SlH w false (some Z) l v) : SlH w' false (some Z) l v := SlR.pl h x (fun a b i hz y => y.pl h hz)
theorem SlF.pl (h : Pl Z w w') {l : List FH} {v : Value} (x : SlF w false (some Z) l v) : SlF w' false (some Z) l v := SlR.pl h x (fun a b i hz y => y.pl h hz)
theorem UIn.pl (h : Pl Z w w') {u : UT} {v : Value} (x : UIn w false (some Z) u v) : UIn w' false (some Z) u v := by
  obtain ⟨vg, vh, vf, rfl, h1, h2, h3⟩ := x
  exact ⟨vg, vh, vf, rfl, SlG.pl h h1, SlH.pl h h2, SlF.pl h h3⟩
end

end Go.Proofs.Ytmbdlhgclkbdiaa
