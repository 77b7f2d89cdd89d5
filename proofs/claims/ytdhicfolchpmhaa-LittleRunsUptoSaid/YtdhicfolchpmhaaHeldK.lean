/- Helper lemmas: what got and want hold. No condition. -/
import Derived.Test.YtdhicfolchpmhaaKitD
import Derived.Test.YtdhicfolchpmhaaPureB
namespace Go.Proofs.Ytdhicfolchpmhaa
open Go.RowKit
set_option linter.unusedVariables false
set_option linter.unusedSimpArgs false

/-! What two lists of lists hold: each op that pushes gives two rows to the one and one row, twice, to the other. -/

theorem Sep.pair {w : World} {B : Nat} {L : List RowS} : Sep w B L ↔ (∀ r ∈ L, w.ownsRow B r.e r.size r.v r.n r.xs) ∧ L.Pairwise RowS.apart := by
  constructor
  · intro h
    refine ⟨fun r hr => ?_, ?_⟩
    · obtain ⟨i, hi, rfl⟩ := List.getElem_of_mem hr
      exact h.own i hi
    · rw [List.pairwise_iff_getElem]
      intro i j hi hj hij
      exact h.apart i j hi hj (by omega)
  · intro ⟨h1, h2⟩
    rw [List.pairwise_iff_getElem] at h2
    refine ⟨fun i hi => h1 _ (List.getElem_mem hi), fun i j hi hj hij => ?_⟩
    rcases Nat.lt_or_gt_of_ne hij with h | h
    · exact h2 i j hi hj h
    · exact RowS.apart_symm (h2 j i hj hi h)
theorem Sep.sub {w : World} {B : Nat} {L M : List RowS} (h : Sep w B M) (hs : L.Sublist M) : Sep w B L := by
  rw [Sep.pair] at h ⊢
  exact ⟨fun r hr => h.1 r (hs.subset hr), h.2.sublist hs⟩

/-- one op's rows -/
structure Trip where
  g1 : RowS
  g2 : RowS
  r : RowS
  l : List Int
def Trip.all (t : Trip) : List RowS := [t.g1, t.g2, t.r]
def Trip.got (t : Trip) : List RowS := [t.g1, t.g2]
def Trip.want (t : Trip) : List RowS := [t.r, t.r]
def rowOk (r : RowS) (l : List Int) : Prop := r.e = 5 ∧ r.size = 1 ∧ r.n = l.length ∧ r.n ≤ 100000000 ∧ r.xs = l.map (Value.int .u8)

structure Held (w : World) (B : Nat) (vg vw : Value) (T : List Trip) : Prop where
  sep : Sep w B (⟨vg, 23, 1, (T.flatMap Trip.got).length, (T.flatMap Trip.got).map (·.v)⟩ :: ⟨vw, 23, 1, (T.flatMap Trip.want).length, (T.flatMap Trip.want).map (·.v)⟩ :: T.flatMap Trip.all)
  each : ∀ t ∈ T, rowOk t.g1 t.l ∧ rowOk t.g2 t.l ∧ rowOk t.r t.l ∧ Byt t.l

theorem Held.start (w : World) (B : Nat) : Held w B (.slice none 0 0) (.slice none 0 0) [] := by
  refine ⟨⟨fun i hi => ?_, fun i j hi hj hij => ?_⟩, fun t ht => by cases ht⟩
  · match i, hi with
    | 0, _ => exact World.ownsRow_nil w B 23 1
    | 1, _ => exact World.ownsRow_nil w B 23 1
  · match i, j, hi, hj with
    | 0, 0, _, _ => exact absurd rfl hij
    | 1, 1, _, _ => exact absurd rfl hij
    | 0, 1, _, _ => exact .inl rfl
    | 1, 0, _, _ => exact .inl rfl

theorem Held.below {w w' : World} {B : Nat} {vg vw : Value} {T : List Trip} (h : Held w B vg vw T) (hb : Below w.heap.size w w') : Held w' B vg vw T := ⟨h.sep.below hb (Nat.le_refl _), h.each⟩
theorem Held.drewN {w : World} {B : Nat} {vg vw : Value} {T : List Trip} (h : Held w B vg vw T) (q : Nat) : Held (w.drewN q) B vg vw T := ⟨h.sep.drewN q, h.each⟩

/-- a row that is made later is written over -/
theorem Held.kept {w0 w w' : World} {B g : Nat} {vg vw : Value} {T : List Trip} (h0 : Held w0 B vg vw T) (h : Held w B vg vw T) (hg : w.grownBy w' (some g)) (hlt : w0.heap.size ≤ g) : Held w' B vg vw T := by
  refine ⟨h.sep.kept hg (fun i hi => ?_), h.each⟩
  cases hq : (_ : Option Nat) with
  | none => exact .inl hq
  | some q =>
    refine .inr ?_
    rw [hq]
    intro e
    simp only [Option.some.injEq] at e
    have := ((h0.sep.own i hi).lt q hq).2
    omega

theorem Held.push {w0 w w1 w2 : World} {B : Nat} {vg vw vg' vw' : Value} {T : List Trip} (h0 : Held w0 B vg vw T) (h : Held w B vg vw T) (t : Trip)
    (hok : rowOk t.g1 t.l ∧ rowOk t.g2 t.l ∧ rowOk t.r t.l ∧ Byt t.l)
    (o1 : w.ownsRow B t.g1.e t.g1.size t.g1.v t.g1.n t.g1.xs) (o2 : w.ownsRow B t.g2.e t.g2.size t.g2.v t.g2.n t.g2.xs) (o3 : w.ownsRow B t.r.e t.r.size t.r.v t.r.n t.r.xs)
    (a12 : t.g1.apart t.g2) (a13 : t.g1.apart t.r) (a23 : t.g2.apart t.r)
    (n1 : ∀ g, t.g1.v.ownBlock = some g → w0.heap.size ≤ g) (n2 : ∀ g, t.g2.v.ownBlock = some g → w0.heap.size ≤ g) (n3 : ∀ g, t.r.v.ownBlock = some g → w0.heap.size ≤ g)
    (hA1 : Appended w w1 B 23 1 vg vg' (T.flatMap Trip.got).length 2 ((T.flatMap Trip.got).map (·.v)) [t.g1.v, t.g2.v])
    (hA2 : Appended w1 w2 B 23 1 vw vw' (T.flatMap Trip.want).length 2 ((T.flatMap Trip.want).map (·.v)) [t.r.v, t.r.v]) : Held w2 B vg' vw' (T ++ [t]) := by
  obtain ⟨L, hL⟩ : ∃ L, L = (⟨vg, 23, 1, (T.flatMap Trip.got).length, (T.flatMap Trip.got).map (·.v)⟩ :: ⟨vw, 23, 1, (T.flatMap Trip.want).length, (T.flatMap Trip.want).map (·.v)⟩ :: T.flatMap Trip.all : List RowS) := ⟨_, rfl⟩
  have hs := h.sep
  have hs0 := h0.sep
  rw [← hL] at hs hs0
  have later : ∀ (x : RowS), (∀ g, x.v.ownBlock = some g → w0.heap.size ≤ g) → ∀ y ∈ L, RowS.apart y x := fun x hx y hy => by
    obtain ⟨i, hi, rfl⟩ := List.getElem_of_mem hy
    exact hs0.apart_new x hx i hi
  have s1 := hs.push t.g1 o1 (fun i hi => later _ n1 _ (List.getElem_mem hi))
  have m2 : ∀ y ∈ L ++ [t.g1], RowS.apart y t.g2 := fun y hy => by
    rcases List.mem_append.1 hy with h1 | h1
    · exact later _ n2 y h1
    · rw [List.mem_singleton.1 h1]; exact a12
  have s2 := s1.push t.g2 o2 (fun i hi => m2 _ (List.getElem_mem hi))
  have m3 : ∀ y ∈ L ++ [t.g1] ++ [t.g2], RowS.apart y t.r := fun y hy => by
    rcases List.mem_append.1 hy with h1 | h1
    · rcases List.mem_append.1 h1 with h2 | h2
      · exact later _ n3 y h2
      · rw [List.mem_singleton.1 h2]; exact a13
    · rw [List.mem_singleton.1 h1]; exact a23
  have s3 := s2.push t.r o3 (fun i hi => m3 _ (List.getElem_mem hi))
  subst hL
  have p1 : vg'.ownBlock = vg.ownBlock ∨ ∃ g, vg'.ownBlock = some g ∧ w.heap.size ≤ g := by
    rcases hA1.place with hp | ⟨g, hp, hg, _⟩
    · exact .inl hp
    · exact .inr ⟨g, hp, hg⟩
  have p2 : vw'.ownBlock = vw.ownBlock ∨ ∃ g, vw'.ownBlock = some g ∧ w1.heap.size ≤ g := by
    rcases hA2.place with hp | ⟨g, hp, hg, _⟩
    · exact .inl hp
    · exact .inr ⟨g, hp, hg⟩
  have s4 := s3.turn 0 (by simp) ⟨vg', 23, 1, (T.flatMap Trip.got).length + 2, (T.flatMap Trip.got).map (·.v) ++ [t.g1.v, t.g2.v]⟩ (by simpa using hA1.grown) hA1.own (by simpa using p1)
  have s5 := s4.turn 1 (by simp) ⟨vw', 23, 1, (T.flatMap Trip.want).length + 2, (T.flatMap Trip.want).map (·.v) ++ [t.r.v, t.r.v]⟩ (by simpa using hA2.grown) hA2.own (by simpa using p2)
  refine ⟨?_, fun u hu => ?_⟩
  · have e : ((T ++ [t]).flatMap Trip.all) = T.flatMap Trip.all ++ [t.g1, t.g2, t.r] := by simp [Trip.all]
    have e1 : ((T ++ [t]).flatMap Trip.got) = T.flatMap Trip.got ++ [t.g1, t.g2] := by simp [Trip.got]
    have e2 : ((T ++ [t]).flatMap Trip.want) = T.flatMap Trip.want ++ [t.r, t.r] := by simp [Trip.want]
    rw [e, e1, e2]
    simpa using s5
  · rcases List.mem_append.1 hu with hu | hu
    · exact h.each u hu
    · simp only [List.mem_singleton] at hu
      subst hu
      exact hok

end Go.Proofs.Ytdhicfolchpmhaa
