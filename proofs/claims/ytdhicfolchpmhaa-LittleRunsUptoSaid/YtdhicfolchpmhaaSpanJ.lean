/- Helper lemmas: two stores of lists, apart from one another. No condition. -/
import Derived.Test.YtdhicfolchpmhaaNumA
import Derived.Test.YtdhicfolchpmhaaSpanH
import Derived.Test.YtdhicfolchpmhaaSpanA
import Derived.Test.YtdhicfolchpmhaaNumTop
namespace Go.Proofs.Ytdhicfolchpmhaa
open Go.RowKit
set_option linter.unusedVariables false
set_option linter.unusedSimpArgs false

theorem Sep.perm {w : World} {B : Nat} {L M : List RowS} (h : Sep w B L) (hp : L.Perm M) : Sep w B M := by
  rw [Sep.pair] at h ⊢
  exact ⟨fun r hr => h.1 r (hp.mem_iff.2 hr), (hp.pairwise_iff (fun h => RowS.apart_symm h)).1 h.2⟩

theorem Sep.push3 {w0 w w1 w2 : World} {B : Nat} {e : TypeId} {vg vw vg' vw' : Value} {n m : Nat} {xs ys : List Value} {L : List RowS}
    (h0 : Sep w0 B (⟨vg, e, 1, n, xs⟩ :: ⟨vw, e, 1, m, ys⟩ :: L)) (h : Sep w B (⟨vg, e, 1, n, xs⟩ :: ⟨vw, e, 1, m, ys⟩ :: L)) (g1 g2 r : RowS)
    (o1 : w.ownsRow B g1.e g1.size g1.v g1.n g1.xs) (o2 : w.ownsRow B g2.e g2.size g2.v g2.n g2.xs) (o3 : w.ownsRow B r.e r.size r.v r.n r.xs)
    (a12 : g1.apart g2) (a13 : g1.apart r) (a23 : g2.apart r)
    (n1 : ∀ g, g1.v.ownBlock = some g → w0.heap.size ≤ g) (n2 : ∀ g, g2.v.ownBlock = some g → w0.heap.size ≤ g) (n3 : ∀ g, r.v.ownBlock = some g → w0.heap.size ≤ g)
    (hA1 : Appended w w1 B e 1 vg vg' n 2 xs [g1.v, g2.v])
    (hA2 : Appended w1 w2 B e 1 vw vw' m 2 ys [r.v, r.v]) : Sep w2 B (⟨vg', e, 1, n + 2, xs ++ [g1.v, g2.v]⟩ :: ⟨vw', e, 1, m + 2, ys ++ [r.v, r.v]⟩ :: (L ++ [g1, g2, r])) := by
  obtain ⟨M, hM⟩ : ∃ M, M = (⟨vg, e, 1, n, xs⟩ :: ⟨vw, e, 1, m, ys⟩ :: L : List RowS) := ⟨_, rfl⟩
  rw [← hM] at h h0
  have later : ∀ (x : RowS), (∀ g, x.v.ownBlock = some g → w0.heap.size ≤ g) → ∀ y ∈ M, RowS.apart y x := fun x hx y hy => by
    obtain ⟨i, hi, rfl⟩ := List.getElem_of_mem hy
    exact h0.apart_new x hx i hi
  have s1 := h.push g1 o1 (fun i hi => later _ n1 _ (List.getElem_mem hi))
  have m2 : ∀ y ∈ M ++ [g1], RowS.apart y g2 := fun y hy => by
    rcases List.mem_append.1 hy with h1 | h1
    · exact later _ n2 y h1
    · rw [List.mem_singleton.1 h1]; exact a12
  have s2 := s1.push g2 o2 (fun i hi => m2 _ (List.getElem_mem hi))
  have m3 : ∀ y ∈ M ++ [g1] ++ [g2], RowS.apart y r := fun y hy => by
    rcases List.mem_append.1 hy with h1 | h1
    · rcases List.mem_append.1 h1 with h2 | h2
      · exact later _ n3 y h2
      · rw [List.mem_singleton.1 h2]; exact a13
    · rw [List.mem_singleton.1 h1]; exact a23
  have s3 := s2.push r o3 (fun i hi => m3 _ (List.getElem_mem hi))
  subst hM
  have p1 : vg'.ownBlock = vg.ownBlock ∨ ∃ g, vg'.ownBlock = some g ∧ w.heap.size ≤ g := by
    rcases hA1.place with hp | ⟨g, hp, hg, _⟩
    · exact .inl hp
    · exact .inr ⟨g, hp, hg⟩
  have p2 : vw'.ownBlock = vw.ownBlock ∨ ∃ g, vw'.ownBlock = some g ∧ w1.heap.size ≤ g := by
    rcases hA2.place with hp | ⟨g, hp, hg, _⟩
    · exact .inl hp
    · exact .inr ⟨g, hp, hg⟩
  have s4 := s3.turn 0 (by simp) ⟨vg', e, 1, n + 2, xs ++ [g1.v, g2.v]⟩ (by simpa using hA1.grown) hA1.own (by simpa using p1)
  have s5 := s4.turn 1 (by simp) ⟨vw', e, 1, m + 2, ys ++ [r.v, r.v]⟩ (by simpa using hA2.grown) hA2.own (by simpa using p2)
  simpa using s5

/-- the rows of a store -/
def outL (e : TypeId) (vg vw : Value) (T : List Trip) : List RowS := ⟨vg, e, 1, (T.flatMap Trip.got).length, (T.flatMap Trip.got).map (·.v)⟩ :: ⟨vw, e, 1, (T.flatMap Trip.want).length, (T.flatMap Trip.want).map (·.v)⟩ :: T.flatMap Trip.all
def rowP (r : RowS) (l : List Int) : Prop := r.e = 59 ∧ r.size = 2 ∧ r.n * 2 = l.length ∧ r.n ≤ 1048576 ∧ r.xs = l.map (Value.int .u32)

theorem outL_push {w0 w w1 w2 : World} {B : Nat} {e : TypeId} {vg vw vg' vw' : Value} {T : List Trip} {E : List RowS} (h0 : Sep w0 B (outL e vg vw T ++ E)) (h : Sep w B (outL e vg vw T ++ E)) (t : Trip)
    (o1 : w.ownsRow B t.g1.e t.g1.size t.g1.v t.g1.n t.g1.xs) (o2 : w.ownsRow B t.g2.e t.g2.size t.g2.v t.g2.n t.g2.xs) (o3 : w.ownsRow B t.r.e t.r.size t.r.v t.r.n t.r.xs)
    (a12 : t.g1.apart t.g2) (a13 : t.g1.apart t.r) (a23 : t.g2.apart t.r)
    (n1 : ∀ g, t.g1.v.ownBlock = some g → w0.heap.size ≤ g) (n2 : ∀ g, t.g2.v.ownBlock = some g → w0.heap.size ≤ g) (n3 : ∀ g, t.r.v.ownBlock = some g → w0.heap.size ≤ g)
    (hA1 : Appended w w1 B e 1 vg vg' (T.flatMap Trip.got).length 2 ((T.flatMap Trip.got).map (·.v)) [t.g1.v, t.g2.v])
    (hA2 : Appended w1 w2 B e 1 vw vw' (T.flatMap Trip.want).length 2 ((T.flatMap Trip.want).map (·.v)) [t.r.v, t.r.v]) : Sep w2 B (outL e vg' vw' (T ++ [t]) ++ E) := by
  have h1 := Sep.push3 h0 h t.g1 t.g2 t.r o1 o2 o3 a12 a13 a23 n1 n2 n3 hA1 hA2
  refine h1.perm ?_
  have e0 : ((T ++ [t]).flatMap Trip.all) = T.flatMap Trip.all ++ [t.g1, t.g2, t.r] := by simp [Trip.all]
  have e1 : ((T ++ [t]).flatMap Trip.got) = T.flatMap Trip.got ++ [t.g1, t.g2] := by simp [Trip.got]
  have e2 : ((T ++ [t]).flatMap Trip.want) = T.flatMap Trip.want ++ [t.r, t.r] := by simp [Trip.want]
  unfold outL
  rw [e0, e1, e2]
  simp only [List.cons_append, List.length_append, List.length_cons, List.length_nil, List.map_append, List.map_cons, List.map_nil, List.append_assoc]
  refine List.Perm.cons _ (List.Perm.cons _ ?_)
  show (T.flatMap Trip.all ++ E ++ [t.g1, t.g2, t.r]).Perm (T.flatMap Trip.all ++ ([t.g1, t.g2, t.r] ++ E))
  rw [List.append_assoc]
  exact (List.perm_append_left_iff _).2 List.perm_append_comm

/-- spans kept and wanted, cuts and pieces; and what else lies apart -/
structure Both (w : World) (B : Nat) (vk vw : Value) (S : List Trip) (vc vp : Value) (T : List Trip) (E : List RowS) : Prop where
  sep : Sep w B (outL 53 vk vw S ++ (outL 23 vc vp T ++ E))
  eS : ∀ t ∈ S, rowP t.g1 t.l ∧ rowP t.g2 t.l ∧ rowP t.r t.l
  eT : ∀ t ∈ T, rowOk t.g1 t.l ∧ rowOk t.g2 t.l ∧ rowOk t.r t.l ∧ Byt t.l

theorem swap_sep {w : World} {B : Nat} {X Y E : List RowS} (h : Sep w B (X ++ (Y ++ E))) : Sep w B (Y ++ (X ++ E)) := by
  refine h.perm ?_
  rw [← List.append_assoc, ← List.append_assoc]
  exact (List.perm_append_right_iff E).2 List.perm_append_comm

theorem Both.start (w : World) (B : Nat) : Both w B (.slice none 0 0) (.slice none 0 0) [] (.slice none 0 0) (.slice none 0 0) [] [] := by
  refine ⟨⟨fun i hi => ?_, fun i j hi hj hij => ?_⟩, fun t ht => absurd ht (by simp), fun t ht => absurd ht (by simp)⟩
  · match i, hi with
    | 0, _ => exact World.ownsRow_nil w B 53 1
    | 1, _ => exact World.ownsRow_nil w B 53 1
    | 2, _ => exact World.ownsRow_nil w B 23 1
    | 3, _ => exact World.ownsRow_nil w B 23 1
  · refine .inl ?_
    match i, hi with
    | 0, _ => rfl
    | 1, _ => rfl
    | 2, _ => rfl
    | 3, _ => rfl

variable {w w' w0 w1 w2 : World} {B : Nat} {vk vw vc vp vk' vw' vc' vp' : Value} {S T : List Trip} {E : List RowS}
theorem Both.below (h : Both w B vk vw S vc vp T E) (hb : Below w.heap.size w w') : Both w' B vk vw S vc vp T E := ⟨h.sep.below hb (Nat.le_refl _), h.eS, h.eT⟩
theorem Both.lent (h : Both w B vk vw S vc vp T []) (hb : Below w.heap.size w w') (r : RowS) (ho : w'.ownsRow w.heap.size r.e r.size r.v r.n r.xs) (hB : B ≤ w.heap.size) : Both w' B vk vw S vc vp T [r] := by
  refine ⟨?_, h.eS, h.eT⟩
  have h1 := (h.below hb).sep
  rw [List.append_nil] at h1
  rw [← List.append_assoc]
  refine h1.push r (own_base ho hB) (fun i hi => ?_)
  have h2 := h.sep
  rw [List.append_nil] at h2
  exact h2.apart_new r (fun g hg => (ho.lt g hg).1) i hi
theorem Both.drop (h : Both w B vk vw S vc vp T E) : Both w B vk vw S vc vp T [] := by
  refine ⟨h.sep.sub ?_, h.eS, h.eT⟩
  rw [List.append_nil]
  exact (List.Sublist.refl _).append (List.sublist_append_left _ _)
theorem Both.row {r : RowS} (h : Both w B vk vw S vc vp T [r]) : w.ownsRow B r.e r.size r.v r.n r.xs := by
  have h1 := (Sep.pair.1 h.sep).1 r (by simp)
  exact h1
/-- the row besides is written over -/
theorem Both.over {r : RowS} (h : Both w B vk vw S vc vp T [r]) (hg : w.grownBy w' r.v.ownBlock) : Both w' B vk vw S vc vp T [] := by
  have h1 := h.sep
  rw [← List.append_assoc] at h1
  refine ⟨?_, h.eS, h.eT⟩
  rw [List.append_nil]
  have h2 := h1.sub (List.sublist_append_left _ _)
  refine h2.kept hg (fun i hi => ?_)
  have h3 := h1.apart i (outL 53 vk vw S ++ outL 23 vc vp T).length (by simp; simp at hi; omega) (by simp) (by omega)
  rw [List.getElem_append_left hi, List.getElem_append_right (Nat.le_refl _)] at h3
  simpa [RowS.apart] using h3
theorem Both.ownK (h : Both w B vk vw S vc vp T E) : w.ownsRow B 53 1 vk (S.flatMap Trip.got).length ((S.flatMap Trip.got).map (·.v)) := by
  have h1 := h.sep.own 0 (by simp [outL])
  simpa [outL] using h1
theorem Both.ownW (h : Both w B vk vw S vc vp T E) : w.ownsRow B 53 1 vw (S.flatMap Trip.want).length ((S.flatMap Trip.want).map (·.v)) := by
  have h1 := h.sep.own 1 (by simp [outL])
  simpa [outL] using h1
theorem Both.ownC (h : Both w B vk vw S vc vp T E) : w.ownsRow B 23 1 vc (T.flatMap Trip.got).length ((T.flatMap Trip.got).map (·.v)) := by
  have h1 := (swap_sep h.sep).own 0 (by simp [outL])
  simpa [outL] using h1
theorem Both.ownP (h : Both w B vk vw S vc vp T E) : w.ownsRow B 23 1 vp (T.flatMap Trip.want).length ((T.flatMap Trip.want).map (·.v)) := by
  have h1 := (swap_sep h.sep).own 1 (by simp [outL])
  simpa [outL] using h1
theorem Both.onW (h : Both w B vk vw S vc vp T E) {news : List Value} (hA : Appended w w1 B 53 1 vk vk' (S.flatMap Trip.got).length 2 ((S.flatMap Trip.got).map (·.v)) news) : w1.ownsRow B 53 1 vw (S.flatMap Trip.want).length ((S.flatMap Trip.want).map (·.v)) := by
  refine h.ownW.kept hA.grown ?_
  have h2 := h.sep.apart 1 0 (by simp [outL]) (by simp [outL]) (by decide)
  simpa [outL, RowS.apart] using h2
theorem Both.onP (h : Both w B vk vw S vc vp T E) {news : List Value} (hA : Appended w w1 B 23 1 vc vc' (T.flatMap Trip.got).length 2 ((T.flatMap Trip.got).map (·.v)) news) : w1.ownsRow B 23 1 vp (T.flatMap Trip.want).length ((T.flatMap Trip.want).map (·.v)) := by
  refine h.ownP.kept hA.grown ?_
  have h2 := (swap_sep h.sep).apart 1 0 (by simp [outL]) (by simp [outL]) (by decide)
  simpa [outL, RowS.apart] using h2

theorem Both.pushS (h0 : Both w0 B vk vw S vc vp T E) (h : Both w B vk vw S vc vp T E) (t : Trip) (hok : rowP t.g1 t.l ∧ rowP t.g2 t.l ∧ rowP t.r t.l) (hB : B ≤ w0.heap.size)
    (o1 : w.ownsRow w0.heap.size t.g1.e t.g1.size t.g1.v t.g1.n t.g1.xs) (o2 : w.ownsRow w0.heap.size t.g2.e t.g2.size t.g2.v t.g2.n t.g2.xs) (o3 : w.ownsRow w0.heap.size t.r.e t.r.size t.r.v t.r.n t.r.xs)
    (a12 : t.g1.apart t.g2) (a13 : t.g1.apart t.r) (a23 : t.g2.apart t.r)
    (hA1 : Appended w w1 B 53 1 vk vk' (S.flatMap Trip.got).length 2 ((S.flatMap Trip.got).map (·.v)) [t.g1.v, t.g2.v])
    (hA2 : Appended w1 w2 B 53 1 vw vw' (S.flatMap Trip.want).length 2 ((S.flatMap Trip.want).map (·.v)) [t.r.v, t.r.v]) : Both w2 B vk' vw' (S ++ [t]) vc vp T E := by
  refine ⟨outL_push h0.sep h.sep t (own_base o1 hB) (own_base o2 hB) (own_base o3 hB) a12 a13 a23 (fun g hg => (o1.lt g hg).1) (fun g hg => (o2.lt g hg).1) (fun g hg => (o3.lt g hg).1) hA1 hA2, fun u hu => ?_, h.eT⟩
  rcases List.mem_append.1 hu with hu | hu
  · exact h.eS u hu
  · simp only [List.mem_singleton] at hu
    subst hu
    exact hok
theorem Both.pushT (h0 : Both w0 B vk vw S vc vp T E) (h : Both w B vk vw S vc vp T E) (t : Trip) (hok : rowOk t.g1 t.l ∧ rowOk t.g2 t.l ∧ rowOk t.r t.l ∧ Byt t.l) (hB : B ≤ w0.heap.size)
    (o1 : w.ownsRow w0.heap.size t.g1.e t.g1.size t.g1.v t.g1.n t.g1.xs) (o2 : w.ownsRow w0.heap.size t.g2.e t.g2.size t.g2.v t.g2.n t.g2.xs) (o3 : w.ownsRow w0.heap.size t.r.e t.r.size t.r.v t.r.n t.r.xs)
    (a12 : t.g1.apart t.g2) (a13 : t.g1.apart t.r) (a23 : t.g2.apart t.r)
    (hA1 : Appended w w1 B 23 1 vc vc' (T.flatMap Trip.got).length 2 ((T.flatMap Trip.got).map (·.v)) [t.g1.v, t.g2.v])
    (hA2 : Appended w1 w2 B 23 1 vp vp' (T.flatMap Trip.want).length 2 ((T.flatMap Trip.want).map (·.v)) [t.r.v, t.r.v]) : Both w2 B vk vw S vc' vp' (T ++ [t]) E := by
  refine ⟨swap_sep (outL_push (swap_sep h0.sep) (swap_sep h.sep) t (own_base o1 hB) (own_base o2 hB) (own_base o3 hB) a12 a13 a23 (fun g hg => (o1.lt g hg).1) (fun g hg => (o2.lt g hg).1) (fun g hg => (o3.lt g hg).1) hA1 hA2), h.eS, fun u hu => ?_⟩
  rcases List.mem_append.1 hu with hu | hu
  · exact h.eT u hu
  · simp only [List.mem_singleton] at hu
    subst hu
    exact hok

theorem Both.held (h : Both w B vk vw S vc vp T E) : Held w B vc vp T :=
  ⟨(swap_sep h.sep).sub (List.sublist_append_left _ _), h.eT⟩
end Go.Proofs.Ytdhicfolchpmhaa

namespace Go.Proofs.Ytdhicfolchpmhaa
open Go.RowKit
set_option linter.unusedVariables false
set_option linter.unusedSimpArgs false

theorem got_at : ∀ (T : List Trip) (i : Nat), i < 2 * T.length → ∃ t ∈ T, ∃ g, (g = t.g1 ∨ g = t.g2) ∧ (T.flatMap Trip.got)[i]? = some g ∧ (T.flatMap Trip.want)[i]? = some t.r
  | [], i, h => absurd h (by simp)
  | t :: T, 0, _ => ⟨t, by simp, t.g1, .inl rfl, rfl, rfl⟩
  | t :: T, 1, _ => ⟨t, by simp, t.g2, .inr rfl, rfl, rfl⟩
  | t :: T, i + 2, h => by
    obtain ⟨u, hu, g, hg, h1, h2⟩ := got_at T i (by simp at h; omega)
    exact ⟨u, List.mem_cons_of_mem _ hu, g, hg, h1, h2⟩

theorem pairs_cells {w : World} {B : Nat} {r : RowS} {l : List Int} (hr : rowP r l) (ho : w.ownsRow B r.e r.size r.v r.n r.xs) :
    ∃ (a : Option Addr) (g c : Nat), r.v = .slice a r.n c ∧ (r.n = 0 ∨ a = some ⟨g, 0, none⟩) ∧ ∀ j, j < r.n → w.cell? ⟨g, j * 2, none⟩ = some (.int .u32 (l.getD (j * 2) 0)) ∧ w.cell? ⟨g, j * 2 + 1, none⟩ = some (.int .u32 (l.getD (j * 2 + 1) 0)) := by
  obtain ⟨ao, c, hv, hcase⟩ := own_any_shape ho
  rcases hcase with h0 | ⟨g, rfl⟩
  · exact ⟨ao, 0, c, hv, .inl h0, fun j hj => by omega⟩
  · refine ⟨_, g, c, hv, .inr rfl, fun j hj => ?_⟩
    obtain ⟨e1, e2, e3, e4, e5⟩ := hr
    rw [hv, e1, e2, e5] at ho
    have h1 := ho.cellAt (j * 2) (by omega)
    have h2 := ho.cellAt (j * 2 + 1) (by omega)
    rw [List.getElem?_map, List.getElem?_eq_getElem (by omega), Option.map_some] at h1 h2
    exact ⟨by rw [h1]; simp [List.getD, List.getElem?_eq_getElem (show j * 2 < l.length by omega)], by rw [h2]; simp [List.getD, List.getElem?_eq_getElem (show j * 2 + 1 < l.length by omega)]⟩

variable {w w' w0 w1 w2 : World} {B : Nat} {vk vw vc vp vk' vw' vc' vp' : Value} {S T : List Trip} {E : List RowS}
/-- what is read at place i of kept and wants -/
theorem Both.readS {lb lo cap mb mo cap2 : Nat} (h : Both w B (.slice (some ⟨lb, lo, none⟩) (2 * S.length) cap) (.slice (some ⟨mb, mo, none⟩) (2 * S.length) cap2) S vc vp T E) (i : Nat) (hi : i < 2 * S.length) :
    ∃ (a1 a2 : Option Addr) (n c1 c2 : Nat), w.cell? ⟨lb, lo + i, none⟩ = some (.slice a1 n c1) ∧ w.cell? ⟨mb, mo + i, none⟩ = some (.slice a2 n c2) ∧
      (Calls Try.prog 48 #[.slice a1 n c1, .slice a2 n c2] w fun e w' => e = .returned (.bool true) ∧ ∃ q, w' = w.drewN q) := by
  obtain ⟨t, ht, g, hg, h1, h2⟩ := got_at S i hi
  have hok := h.eS t ht
  have hgo : rowP g t.l := by rcases hg with rfl | rfl; exact hok.1; exact hok.2.1
  have hmem : ∀ r ∈ t.all, w.ownsRow B r.e r.size r.v r.n r.xs := fun r hr => (Sep.pair.1 h.sep).1 r (by
    refine List.mem_append_left _ ?_
    unfold outL
    exact List.mem_cons_of_mem _ (List.mem_cons_of_mem _ (List.mem_flatMap.2 ⟨t, ht, hr⟩)))
  have og : w.ownsRow B g.e g.size g.v g.n g.xs := hmem g (by rcases hg with rfl | rfl <;> simp [Trip.all])
  have or : w.ownsRow B t.r.e t.r.size t.r.v t.r.n t.r.xs := hmem t.r (by simp [Trip.all])
  obtain ⟨a1, g1, c1, hv1, hc1, hd1⟩ := pairs_cells hgo og
  obtain ⟨a2, g2, c2, hv2, hc2, hd2⟩ := pairs_cells hok.2.2 or
  have hn : t.r.n = g.n := by have := hgo.2.2.1; have := hok.2.2.2.2.1; omega
  rw [hn] at hv2 hc2 hd2
  have ok := h.ownK
  have ow := h.ownW
  obtain ⟨lb', cap', hlv, -⟩ := own_shape ok (by rw [got_len]; omega)
  obtain ⟨mb', cap2', hmv, -⟩ := own_shape ow (by rw [want_len]; omega)
  simp only [Value.slice.injEq, Option.some.injEq, Addr.mk.injEq, and_true] at hlv hmv
  obtain ⟨⟨rfl, rfl⟩, hl1, rfl⟩ := hlv
  obtain ⟨⟨rfl, rfl⟩, hm1, rfl⟩ := hmv
  rw [hl1] at ok
  rw [hm1] at ow
  refine ⟨a1, a2, g.n, c1, c2, ?_, ?_, same48 a1 a2 g1 g2 g.n c1 c2 hc1 hc2 (fun j => t.l.getD (j * 2) 0) (fun j => t.l.getD (j * 2 + 1) 0) w (by have := hgo.2.2.2.1; omega) hd1 hd2⟩
  · rw [Nat.zero_add, ok.cellAt i (by omega), List.getElem?_map, h1, Option.map_some, hv1]
  · rw [Nat.zero_add, ow.cellAt i (by omega), List.getElem?_map, h2, Option.map_some, hv2]

theorem apart49_nil (w : World) : Calls Try.prog 49 #[.slice none 0 0] w fun e w' => e = .returned (.bool true) ∧ w = w' := by
  go_enter Try.func49, Try.ntmps49
  go_wp2_with fail
  refine wp_loop_rounds 1 ?_
  rw [rounds_succ]
  go_wp2_with fail
  refine wp_loop_rounds 1 ?_
  rw [rounds_succ]
  go_wp2_with fail
  refine wp_loop_rounds 1 ?_
  rw [rounds_succ]
  go_wp2_with fail
  go_ret
  exact ⟨rfl, rfl⟩

theorem Both.finalS (h : Both w B vk vw S vc vp T []) (hS : S ≠ []) (hB : B ≤ w.heap.size) (hlen : S.length ≤ 2097152) :
    Calls Try.prog 49 #[vk] w fun e w' => e = .returned (.bool true) ∧ Below B w w' ∧ Held w' B vc vp T := by
  have h0 : 0 < S.length := List.length_pos_iff.2 hS
  have o0 := h.ownK
  obtain ⟨lb, cap, hv, _, hlb, _⟩ := own_shape o0 (by rw [got_len]; omega)
  subst hv
  have hgl := got_len S
  have hss := h.sep
  rw [List.append_nil] at hss
  have hgs : (S.flatMap Trip.got).Sublist (outL 53 (.slice (some ⟨lb, 0, none⟩) (S.flatMap Trip.got).length cap) vw S) := (got_sub S).trans ((List.Sublist.cons _ (List.Sublist.refl _)).cons _)
  have hsub : Sep w B (S.flatMap Trip.got) := hss.sub (hgs.trans (List.sublist_append_left _ _))
  have ok : ∀ i (hi : i < (S.flatMap Trip.got).length), ∃ l, rowP (S.flatMap Trip.got)[i] l := fun i hi => by
    obtain ⟨t, ht, g, hg, h1, _⟩ := got_at S i (by omega)
    rw [List.getElem?_eq_getElem hi, Option.some.injEq] at h1
    rw [h1]
    have := h.eS t ht
    rcases hg with rfl | rfl
    · exact ⟨_, this.1⟩
    · exact ⟨_, this.2.1⟩
  have far : ∀ k (hk : k < (S.flatMap Trip.got).length), (S.flatMap Trip.got)[k].v.ownBlock ≠ some lb := fun k hk => by
    have hmem : (S.flatMap Trip.got)[k] ∈ S.flatMap Trip.all := (got_sub S).subset (List.getElem_mem hk)
    obtain ⟨j, hj, hje⟩ := List.getElem_of_mem hmem
    have hs2 := hss.sub (List.sublist_append_left _ _)
    have := hs2.apart 0 (j + 2) (by simp [outL]) (by simpa [outL] using hj) (by omega)
    simp only [outL, List.getElem_cons_zero, List.getElem_cons_succ, RowS.apart, Value.ownBlock] at this
    rw [hje] at this
    rcases this with h1 | h1
    · cases h1
    · exact fun e => h1 e.symm
  have hcross : ∀ r ∈ outL 23 vc vp T, ∀ x ∈ S.flatMap Trip.got, RowS.apart x r := fun r hr x hx => by
    have := (Sep.pair.1 hss).2
    rw [List.pairwise_append] at this
    exact this.2.2 x (hgs.subset hx) r hr
  have hrlt : ∀ r ∈ outL 23 vc vp T, ∀ q, r.v.ownBlock = some q → q < w.heap.size := fun r hr q hq => (((Sep.pair.1 hss).1 r (List.mem_append_right _ hr)).lt q hq).2
  refine (apart49 w (fun q => ∃ r ∈ outL 23 vc vp T, r.v.ownBlock = some q) B lb 0 cap (S.flatMap Trip.got) ⟨hsub, rfl, fun k hk => ?_, far⟩ hB hlb (by omega) (fun i hi => ?_) (fun i hi => ?_) (fun q hq => ?_)).mono ?_
  · have := o0.cellAt k (by omega)
    rw [Nat.zero_add, this]
    simp [List.getElem?_eq_getElem hk]
  · obtain ⟨l, hl⟩ := ok i hi
    have := hl.2.2.2.1
    omega
  · obtain ⟨l, hl⟩ := ok i hi
    exact ⟨hl.1, hl.2.1⟩
  · obtain ⟨r, hr, hq⟩ := hq
    refine ⟨hrlt r hr q hq, fun i hi e => ?_⟩
    rcases hcross r hr _ (List.getElem_mem hi) with h1 | h1
    · rw [h1] at e; cases e
    · exact h1 (e.trans hq.symm)
  · rintro e w' ⟨he, hb⟩
    refine ⟨he, hb.below, ⟨h.held.sep.same (fun r hr q hq => hb.same q ⟨r, hr, hq⟩), h.eT⟩⟩
end Go.Proofs.Ytdhicfolchpmhaa

namespace Go.Proofs.Ytdhicfolchpmhaa
open Go.ChangeShapes Go.WideShapes Go.ChangeAt Go.RowKit
set_option linter.unusedVariables false
set_option linter.unusedSimpArgs false

/-- a list of spans that lies somewhere -/
structure Spans (w : World) (ao : Option Addr) (n : Nat) (f h : Nat → Int) : Prop where
  ex : ∃ b off, (n = 0 ∨ ao = some ⟨b, off, none⟩) ∧ ∀ i, i < n → w.cell? ⟨b, off + i * 2, none⟩ = some (.int .u32 (f i)) ∧ w.cell? ⟨b, off + i * 2 + 1, none⟩ = some (.int .u32 (h i))
  bf : ∀ i, i < n → 0 ≤ f i ∧ f i ≤ 4294967295
  bh : ∀ i, i < n → 0 ≤ h i ∧ h i ≤ 4294967295
theorem Spans.mono {w w' : World} {ao : Option Addr} {n : Nat} {f h : Nat → Int} (hs : Spans w ao n f h) (hb : Below w.heap.size w w') : Spans w' ao n f h := by
  obtain ⟨⟨b, off, h1, h2⟩, h3, h4⟩ := hs
  exact ⟨⟨b, off, h1, fun i hi => ⟨(hb.cell (World.block_lt_of_cell? w _ (h2 i hi).1)).trans (h2 i hi).1, (hb.cell (World.block_lt_of_cell? w _ (h2 i hi).2)).trans (h2 i hi).2⟩⟩, h3, h4⟩

structure SpanRow where
  call : Int
  a : Int
  al : Int
  b : Int
  bl : Int
  total : Int
  so : Option Addr
  sn : Nat
  scap : Nat
  sf : Nat → Int
  sh : Nat → Int
  first : Int
  lo : Option Addr
  lcap : Nat
  lens : List Int
  bo : Option Addr
  bcap : Nat
  bytes : List Int

structure SpanRow.Cells (w : World) (blk off : Nat) (r : SpanRow) : Prop where
  c0 : w.cell? ⟨blk, off, none⟩ = some (.int .i64 r.call)
  c1 : w.cell? ⟨blk, off + 1, none⟩ = some (.int .u32 r.a)
  c2 : w.cell? ⟨blk, off + 2, none⟩ = some (.int .u32 r.al)
  c3 : w.cell? ⟨blk, off + 3, none⟩ = some (.int .u32 r.b)
  c4 : w.cell? ⟨blk, off + 4, none⟩ = some (.int .u32 r.bl)
  c5 : w.cell? ⟨blk, off + 5, none⟩ = some (.int .u32 r.total)
  c6 : w.cell? ⟨blk, off + 6, none⟩ = some (.slice r.so r.sn r.scap)
  c7 : w.cell? ⟨blk, off + 7, none⟩ = some (.int .u32 r.first)
  c8 : w.cell? ⟨blk, off + 8, none⟩ = some (.slice r.lo r.lens.length r.lcap)
  c9 : w.cell? ⟨blk, off + 9, none⟩ = some (.slice r.bo r.bytes.length r.bcap)

structure SpanRow.Lies (w : World) (r : SpanRow) : Prop where
  hs : Spans w r.so r.sn r.sf r.sh
  hl : Ints .u32 w r.lo r.lens
  hb : Ints .u8 w r.bo r.bytes
  ns : r.sn ≤ 1048576
  nl : r.lens.length ≤ 1048576
  nb : r.bytes.length ≤ 1048576
  wc : -9223372036854775808 ≤ r.call ∧ r.call ≤ 9223372036854775807
  wa : 0 ≤ r.a ∧ r.a ≤ 4294967295
  wal : 0 ≤ r.al ∧ r.al ≤ 4294967295
  wb : 0 ≤ r.b ∧ r.b ≤ 4294967295
  wbl : 0 ≤ r.bl ∧ r.bl ≤ 4294967295
  wt : 0 ≤ r.total ∧ r.total ≤ 4294967295
  wf : 0 ≤ r.first ∧ r.first ≤ 4294967295

theorem SpanRow.Cells.mono {w w' : World} {blk off : Nat} {r : SpanRow} (h : r.Cells w blk off) (hb : Below w.heap.size w w') : r.Cells w' blk off :=
  ⟨(hb.cell (World.block_lt_of_cell? w _ h.c0)).trans h.c0, (hb.cell (World.block_lt_of_cell? w _ h.c1)).trans h.c1, (hb.cell (World.block_lt_of_cell? w _ h.c2)).trans h.c2,
    (hb.cell (World.block_lt_of_cell? w _ h.c3)).trans h.c3, (hb.cell (World.block_lt_of_cell? w _ h.c4)).trans h.c4, (hb.cell (World.block_lt_of_cell? w _ h.c5)).trans h.c5,
    (hb.cell (World.block_lt_of_cell? w _ h.c6)).trans h.c6, (hb.cell (World.block_lt_of_cell? w _ h.c7)).trans h.c7, (hb.cell (World.block_lt_of_cell? w _ h.c8)).trans h.c8, (hb.cell (World.block_lt_of_cell? w _ h.c9)).trans h.c9⟩
theorem SpanRow.Lies.mono {w w' : World} {r : SpanRow} (h : r.Lies w) (hb : Below w.heap.size w w') : r.Lies w' :=
  ⟨h.hs.mono hb, h.hl.mono hb, h.hb.mono hb, h.ns, h.nl, h.nb, h.wc, h.wa, h.wal, h.wb, h.wbl, h.wt, h.wf⟩

theorem cells76 : Try.prog.cellsOf 76 = 10 := by kernel_rfl
theorem cells59 : Try.prog.cellsOf 59 = 2 := by kernel_rfl
theorem cells24 : Try.prog.cellsOf 24 = 1 := by kernel_rfl

theorem fld_pair {H : Type} {enc : TypeId × Value → H} {w : World} {n : Nat} {v u : Value} {y : DataW H × List MemPlace} (h : DataW.trod enc Try.prog w 0 (fun _ => true) true n 59 [v, u] = some y) :
    ∃ x z, v = .int .u32 x ∧ u = .int .u32 z ∧ (0 ≤ x ∧ x ≤ 4294967295) ∧ (0 ≤ z ∧ z ≤ 4294967295) := by
  obtain ⟨xs, m, _, hx, hl5, hxs, hf⟩ := DataW.trod_struct Try.underlying59 h
  obtain ⟨y0, z0, t0⟩ := fld hf hxs 0 _ rfl 1 (by kernel_rfl) [v] rfl 24 rfl
  obtain ⟨y1, z1, t1⟩ := fld hf hxs 1 _ rfl 1 (by kernel_rfl) [u] rfl 24 rfl
  obtain ⟨x, rfl, wx⟩ := fld_int Try.underlying24 t0
  obtain ⟨z, rfl, wz⟩ := fld_int Try.underlying24 t1
  exact ⟨x, z, rfl, rfl, wf_u32.1 wx, wf_u32.1 wz⟩

theorem fld_spans {H : Type} {enc : TypeId × Value → H} {w : World} {n : Nat} {v : Value} {y : DataW H × List MemPlace} (h : DataW.trod enc Try.prog w 0 (fun _ => true) true n 53 [v] = some y) (hw : Rows.uptoBulk y.1 ≤ 1048576) :
    ∃ (ao : Option Addr) (len cap : Nat) (f g : Nat → Int), v = .slice ao len cap ∧ Spans w ao len f g ∧ len ≤ 1048576 := by
  obtain ⟨a, len, cap, hv⟩ : ∃ a len cap, v = .slice a len cap := by
    rcases DataW.trod_slice Try.underlying53 h with ⟨hcs, hx⟩ | ⟨a, len, cap, elems, rest, m, _, hcs, hx, _⟩
    · simp only [List.cons.injEq, and_true] at hcs
      exact ⟨none, 0, 0, hcs⟩
    · simp only [List.cons.injEq, and_true] at hcs
      exact ⟨some a, len, cap, hcs⟩
  subst hv
  obtain ⟨b, off, m, elems, rest, hao, hel, hcap, hmax, hd, heach⟩ := open_rows (d := y.1) (p := y.2) Try.underlying53 cells59 (by decide) ⟨n, h⟩
  have hlen : len ≤ 1048576 := by
    rcases hd with ⟨_, h0⟩ | h1
    · omega
    · rw [h1] at hw
      simp only [Rows.uptoBulk] at hw
      have := bulk_length (elems.map (·.1))
      simp only [List.length_map] at this
      omega
  have each : ∀ i, i < len → ∃ r : Int × Int, w.cell? ⟨b, off + i * 2, none⟩ = some (.int .u32 r.1) ∧ w.cell? ⟨b, off + i * 2 + 1, none⟩ = some (.int .u32 r.2) ∧ (0 ≤ r.1 ∧ r.1 ≤ 4294967295) ∧ (0 ≤ r.2 ∧ r.2 ≤ 4294967295) := by
    intro i hi
    obtain ⟨cs, y, hcs, hcell, hy, ht⟩ := heach i hi
    match cs, hcs with
    | [c0, c1], _ =>
      obtain ⟨x, z, rfl, rfl, hx, hz⟩ := fld_pair ht
      exact ⟨(x, z), by simpa using hcell 0 (by decide), by simpa using hcell 1 (by decide), hx, hz⟩
  obtain ⟨L, hL, hall⟩ := pick_list (fun i (r : Int × Int) => w.cell? ⟨b, off + i * 2, none⟩ = some (.int .u32 r.1) ∧ w.cell? ⟨b, off + i * 2 + 1, none⟩ = some (.int .u32 r.2) ∧ (0 ≤ r.1 ∧ r.1 ≤ 4294967295) ∧ (0 ≤ r.2 ∧ r.2 ≤ 4294967295)) len each
  have hg : ∀ i, (h : i < len) → L.getD i (0, 0) = L[i]'(by omega) := fun i h => by simp [List.getD, List.getElem?_eq_getElem (show i < L.length by omega)]
  refine ⟨a, len, cap, fun i => (L.getD i (0, 0)).1, fun i => (L.getD i (0, 0)).2, rfl, ⟨⟨b, off, hao, fun i hi => ?_⟩, fun i hi => ?_, fun i hi => ?_⟩, hlen⟩
  · simp only [hg i hi]
    exact ⟨(hall i (by omega)).1, (hall i (by omega)).2.1⟩
  · simp only [hg i hi]
    exact (hall i (by omega)).2.2.1
  · simp only [hg i hi]
    exact (hall i (by omega)).2.2.2

set_option maxRecDepth 100000 in
theorem spans_open (w : World) {H : Type} {enc : TypeId × Value → H} {base : Nat} {p : List MemPlace} (v : Value) (d : DataW H) (hval : Value.okWide Try.prog w .any base 73 v) (h : DataW.Trod enc Try.prog w 0 (fun _ => true) true 73 v d p)
    (hw : Rows.uptoBulk d ≤ 1048576) :
    ∃ a len cap, v = .slice a len cap ∧ (len = 0 ∨ ∃ (b off : Nat) (rows : List SpanRow), a = some ⟨b, off, none⟩ ∧ rows.length = len ∧ len ≤ 1048576 ∧ ∀ i (h : i < rows.length), (rows[i]).Cells w b (off + i * 10) ∧ (rows[i]).Lies w) := by
  obtain ⟨a, len, cap, rfl⟩ := okWide_slice Try.underlying73 hval
  obtain ⟨b, off, n, elems, rest, hao, hel, hcap, hmax, hd, heach⟩ := open_rows Try.underlying73 cells76 (by decide) h
  refine ⟨a, len, cap, rfl, ?_⟩
  by_cases h0 : len = 0
  · exact .inl h0
  rcases hao with h1 | rfl
  · exact absurd h1 h0
  have hds : d = .slice (elems.map (·.1)) (rest.map (·.1)) := by
    rcases hd with ⟨_, h1⟩ | h1
    · omega
    · exact h1
  subst hds
  have hbe : Rows.uptoBulkAll (elems.map (·.1)) ≤ 1048576 := by
    simp only [Rows.uptoBulk] at hw
    omega
  have hlen : len ≤ 1048576 := by
    have := bulk_length (elems.map (·.1))
    simp only [List.length_map] at this
    omega
  have each : ∀ i, i < len → ∃ r : SpanRow, r.Cells w b (off + i * 10) ∧ r.Lies w := by
    intro i hi
    obtain ⟨cs, y, hcs, hcell, hy, ht⟩ := heach i hi
    obtain ⟨xs, m, _, hx, hl5, hxs, hf⟩ := DataW.trod_struct Try.underlying76 ht
    match cs, hcs with
    | [c0, c1, c2, c3, c4, c5, c6, c7, c8, c9], _ =>
      obtain ⟨y0, z0, t0⟩ := fld hf hxs 0 _ rfl 1 (by kernel_rfl) [c0] rfl 3 rfl
      obtain ⟨y1, z1, t1⟩ := fld hf hxs 1 _ rfl 2 (by kernel_rfl) [c1, c2] rfl 59 rfl
      obtain ⟨y2, z2, t2⟩ := fld hf hxs 2 _ rfl 2 (by kernel_rfl) [c3, c4] rfl 59 rfl
      obtain ⟨y3, z3, t3⟩ := fld hf hxs 3 _ rfl 1 (by kernel_rfl) [c5] rfl 24 rfl
      obtain ⟨y4, z4, t4⟩ := fld hf hxs 4 _ rfl 1 (by kernel_rfl) [c6] rfl 53 rfl
      obtain ⟨y5, z5, t5⟩ := fld hf hxs 5 _ rfl 1 (by kernel_rfl) [c7] rfl 24 rfl
      obtain ⟨y6, z6, t6⟩ := fld hf hxs 6 _ rfl 1 (by kernel_rfl) [c8] rfl 52 rfl
      obtain ⟨y7, z7, t7⟩ := fld hf hxs 7 _ rfl 1 (by kernel_rfl) [c9] rfl 23 rfl
      have hyb : Rows.uptoBulk y.1 ≤ 1048576 := by
        have := bulk_mem (show y.1 ∈ elems.map (·.1) from List.mem_map_of_mem (List.mem_of_getElem? hy))
        omega
      have hpart : ∀ z : DataW H × List MemPlace, z ∈ xs → Rows.uptoBulk z.1 ≤ 1048576 := by
        intro z hz
        rw [hx] at hyb
        simp only [Rows.uptoBulk] at hyb
        have := bulk_mem (show z.1 ∈ xs.map (·.1) from List.mem_map_of_mem hz)
        omega
      obtain ⟨xk, rfl, wk⟩ := fld_int Try.underlying3 t0
      obtain ⟨xa, xal, rfl, rfl, wa, wal⟩ := fld_pair t1
      obtain ⟨xb, xbl, rfl, rfl, wb, wbl⟩ := fld_pair t2
      obtain ⟨xt, rfl, wt⟩ := fld_int Try.underlying24 t3
      obtain ⟨so, sn, scap, sf, sh, rfl, hS, hsn⟩ := fld_spans t4 (hpart y4 (List.mem_of_getElem? z4))
      obtain ⟨xf, rfl, wf⟩ := fld_int Try.underlying24 t5
      obtain ⟨ao, l, rst, cp, rfl, hI, hc1, hc2, hd1⟩ := fld_ints Try.underlying52 Try.underlying24 cells24 t6
      obtain ⟨bo, l2, rst2, cp2, rfl, hI2, hc12, hc22, hd2⟩ := fld_ints Try.underlying23 Try.underlying5 cells5 t7
      have hb1 := bulk_ints hc1 hd1
      have hb2 := bulk_ints hc12 hd2
      have hp1 := hpart y6 (List.mem_of_getElem? z6)
      have hp2 := hpart y7 (List.mem_of_getElem? z7)
      exact ⟨⟨xk, xa, xal, xb, xbl, xt, so, sn, scap, sf, sh, xf, ao, cp, l, bo, cp2, l2⟩,
        ⟨by simpa using hcell 0 (by decide), by simpa using hcell 1 (by decide), by simpa using hcell 2 (by decide), by simpa using hcell 3 (by decide), by simpa using hcell 4 (by decide), by simpa using hcell 5 (by decide), by simpa using hcell 6 (by decide), by simpa using hcell 7 (by decide), by simpa using hcell 8 (by decide), by simpa using hcell 9 (by decide)⟩,
        ⟨hS, hI, hI2, hsn, (by show l.length ≤ 1048576; omega), (by show l2.length ≤ 1048576; omega), wf_i64.1 wk, wa, wal, wb, wbl, wf_u32.1 wt, wf_u32.1 wf⟩⟩
  obtain ⟨rows, hrl, hrr⟩ := pick_list (fun i (r : SpanRow) => r.Cells w b (off + i * 10) ∧ r.Lies w) len each
  exact .inr ⟨b, off, rows, rfl, hrl, hlen, hrr⟩
end Go.Proofs.Ytdhicfolchpmhaa
