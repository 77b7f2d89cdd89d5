/- Helper lemmas: lists of runs and lists of bytes that were kept; the ends of LittleRuns. -/
import Derived.Test.YtdhicfolchpmhaaRunM
import Derived.Test.YtdhicfolchpmhaaRunK
import Derived.Test.YtdhicfolchpmhaaRunC
import Derived.Test.YtdhicfolchpmhaaSpanJ
namespace Go.Proofs.Ytdhicfolchpmhaa
open Go.RowKit
set_option linter.unusedVariables false
set_option linter.unusedSimpArgs false

theorem Sep.join {w0 w : World} {B C : Nat} {L M : List RowS} (h0 : Sep w0 B L) (h : Sep w B L) (hM : Sep w C M) (hC : w0.heap.size ≤ C) (hB : B ≤ C) : Sep w B (L ++ M) := by
  rw [Sep.pair] at h hM ⊢
  refine ⟨fun r hr => ?_, List.pairwise_append.2 ⟨h.2, hM.2, fun x hx y hy => ?_⟩⟩
  · rcases List.mem_append.1 hr with h1 | h1
    · exact h.1 r h1
    · exact own_base (hM.1 r h1) hB
  · obtain ⟨i, hi, rfl⟩ := List.getElem_of_mem hx
    exact h0.apart_new y (fun g hg => Nat.le_trans hC ((hM.1 y hy).lt g hg).1) i hi

def rnL (v : Value) (R : List RunW) : List RowS := ⟨v, 104, 2, R.length, R.flatMap RunW.cells⟩ :: R.map RunW.row
theorem Rn.toL {w : World} {B : Nat} {v : Value} {R : List RunW} (h : Rn w B v R) : Sep w B (rnL v R) := h.sep
theorem Rn.ofL {w : World} {B : Nat} {v : Value} {R : List RunW} (h : Sep w B (rnL v R)) : Rn w B v R := ⟨h⟩
structure RT where
  v1 : Value
  v2 : Value
  v3 : Value
  R1 : List RunW
  R2 : List RunW
  R3 : List RunW
def RT.rows (t : RT) : List RowS := rnL t.v3 t.R3 ++ rnL t.v1 t.R1 ++ rnL t.v2 t.R2
def RT.got (t : RT) : List Value := [t.v1, t.v2]
def RT.want (t : RT) : List Value := [t.v3, t.v3]
def okW (R : List RunW) : Prop := (∀ r ∈ R, Byt r.l) ∧ (∀ r ∈ R, r.at_ ≤ 4294967295 ∧ r.l.length ≤ 100000000) ∧ R.length ≤ 100000000
structure RT.Ok (t : RT) : Prop where
  e1 : t.R1.map RunW.two = t.R3.map RunW.two
  e2 : t.R2.map RunW.two = t.R3.map RunW.two
  k1 : okW t.R1
  k2 : okW t.R2
  k3 : okW t.R3
def outR (vl vm : Value) (S : List RT) : List RowS := ⟨vl, 90, 1, 2 * S.length, S.flatMap RT.got⟩ :: ⟨vm, 90, 1, 2 * S.length, S.flatMap RT.want⟩ :: S.flatMap RT.rows

structure St (w : World) (B : Nat) (vl vm : Value) (S : List RT) (vc vp : Value) (T : List Trip) (E : List RowS) : Prop where
  sep : Sep w B (outR vl vm S ++ (outL 23 vc vp T ++ E))
  eS : ∀ t ∈ S, t.Ok
  eT : ∀ t ∈ T, rowOk t.g1 t.l ∧ rowOk t.g2 t.l ∧ rowOk t.r t.l ∧ Byt t.l

theorem St.start (w : World) (B : Nat) : St w B (.slice none 0 0) (.slice none 0 0) [] (.slice none 0 0) (.slice none 0 0) [] [] := by
  refine ⟨⟨fun i hi => ?_, fun i j hi hj hij => ?_⟩, fun t ht => absurd ht (by simp), fun t ht => absurd ht (by simp)⟩
  · match i, hi with
    | 0, _ => exact World.ownsRow_nil w B 90 1
    | 1, _ => exact World.ownsRow_nil w B 90 1
    | 2, _ => exact World.ownsRow_nil w B 23 1
    | 3, _ => exact World.ownsRow_nil w B 23 1
  · refine .inl ?_
    match i, hi with
    | 0, _ => rfl
    | 1, _ => rfl
    | 2, _ => rfl
    | 3, _ => rfl

section
variable {w w' w0 w1 w2 : World} {B : Nat} {vl vm vc vp vl' vm' vc' vp' : Value} {S : List RT} {T : List Trip} {E : List RowS}
theorem St.below (h : St w B vl vm S vc vp T E) (hb : Below w.heap.size w w') : St w' B vl vm S vc vp T E := ⟨h.sep.below hb (Nat.le_refl _), h.eS, h.eT⟩
theorem st_assoc (X Y E : List RowS) (r : RowS) : X ++ (Y ++ (E ++ [r])) = (X ++ (Y ++ E)) ++ [r] := by simp only [List.append_assoc]
theorem St.lent (h : St w B vl vm S vc vp T E) (hb : Below w.heap.size w w') (r : RowS) (ho : w'.ownsRow w.heap.size r.e r.size r.v r.n r.xs) (hB : B ≤ w.heap.size) : St w' B vl vm S vc vp T (E ++ [r]) := by
  refine ⟨?_, h.eS, h.eT⟩
  rw [st_assoc]
  exact (h.below hb).sep.push r (own_base ho hB) (fun i hi => h.sep.apart_new r (fun g hg => (ho.lt g hg).1) i hi)
theorem St.row {r : RowS} (h : St w B vl vm S vc vp T (E ++ [r])) : w.ownsRow B r.e r.size r.v r.n r.xs := (Sep.pair.1 h.sep).1 r (by simp)
theorem St.over {r : RowS} (h : St w B vl vm S vc vp T (E ++ [r])) (hg : w.grownBy w' r.v.ownBlock) : St w' B vl vm S vc vp T E := by
  have h1 := h.sep
  rw [st_assoc] at h1
  refine ⟨?_, h.eS, h.eT⟩
  have h2 := h1.sub (List.sublist_append_left _ _)
  refine h2.kept hg (fun i hi => ?_)
  have h3 := h1.apart i (outR vl vm S ++ (outL 23 vc vp T ++ E)).length (by simp; simp at hi; omega) (by simp) (by omega)
  rw [List.getElem_append_left hi, List.getElem_append_right (Nat.le_refl _)] at h3
  simpa [RowS.apart] using h3
theorem St.ownL (h : St w B vl vm S vc vp T E) : w.ownsRow B 90 1 vl (2 * S.length) (S.flatMap RT.got) := by
  have h1 := h.sep.own 0 (by simp [outR])
  simpa [outR] using h1
theorem St.ownM (h : St w B vl vm S vc vp T E) : w.ownsRow B 90 1 vm (2 * S.length) (S.flatMap RT.want) := by
  have h1 := h.sep.own 1 (by simp [outR])
  simpa [outR] using h1
theorem St.ownC (h : St w B vl vm S vc vp T E) : w.ownsRow B 23 1 vc (T.flatMap Trip.got).length ((T.flatMap Trip.got).map (·.v)) := by
  have h1 := (swap_sep h.sep).own 0 (by simp [outL])
  simpa [outL] using h1
theorem St.ownP (h : St w B vl vm S vc vp T E) : w.ownsRow B 23 1 vp (T.flatMap Trip.want).length ((T.flatMap Trip.want).map (·.v)) := by
  have h1 := (swap_sep h.sep).own 1 (by simp [outL])
  simpa [outL] using h1
theorem St.onM (h : St w B vl vm S vc vp T E) {news : List Value} (hA : Appended w w1 B 90 1 vl vl' (2 * S.length) 2 (S.flatMap RT.got) news) : w1.ownsRow B 90 1 vm (2 * S.length) (S.flatMap RT.want) := by
  refine h.ownM.kept hA.grown ?_
  have h2 := h.sep.apart 1 0 (by simp [outR]) (by simp [outR]) (by decide)
  simpa [outR, RowS.apart] using h2
theorem St.onP (h : St w B vl vm S vc vp T E) {news : List Value} (hA : Appended w w1 B 23 1 vc vc' (T.flatMap Trip.got).length 2 ((T.flatMap Trip.got).map (·.v)) news) : w1.ownsRow B 23 1 vp (T.flatMap Trip.want).length ((T.flatMap Trip.want).map (·.v)) := by
  refine h.ownP.kept hA.grown ?_
  have h2 := (swap_sep h.sep).apart 1 0 (by simp [outL]) (by simp [outL]) (by decide)
  simpa [outL, RowS.apart] using h2

theorem St.pushT (h0 : St w0 B vl vm S vc vp T E) (h : St w B vl vm S vc vp T E) (t : Trip) (hok : rowOk t.g1 t.l ∧ rowOk t.g2 t.l ∧ rowOk t.r t.l ∧ Byt t.l) (hB : B ≤ w0.heap.size)
    (o1 : w.ownsRow w0.heap.size t.g1.e t.g1.size t.g1.v t.g1.n t.g1.xs) (o2 : w.ownsRow w0.heap.size t.g2.e t.g2.size t.g2.v t.g2.n t.g2.xs) (o3 : w.ownsRow w0.heap.size t.r.e t.r.size t.r.v t.r.n t.r.xs)
    (a12 : t.g1.apart t.g2) (a13 : t.g1.apart t.r) (a23 : t.g2.apart t.r)
    (hA1 : Appended w w1 B 23 1 vc vc' (T.flatMap Trip.got).length 2 ((T.flatMap Trip.got).map (·.v)) [t.g1.v, t.g2.v])
    (hA2 : Appended w1 w2 B 23 1 vp vp' (T.flatMap Trip.want).length 2 ((T.flatMap Trip.want).map (·.v)) [t.r.v, t.r.v]) : St w2 B vl vm S vc' vp' (T ++ [t]) E := by
  refine ⟨swap_sep (outL_push (swap_sep h0.sep) (swap_sep h.sep) t (own_base o1 hB) (own_base o2 hB) (own_base o3 hB) a12 a13 a23 (fun g hg => (o1.lt g hg).1) (fun g hg => (o2.lt g hg).1) (fun g hg => (o3.lt g hg).1) hA1 hA2), h.eS, fun u hu => ?_⟩
  rcases List.mem_append.1 hu with hu | hu
  · exact h.eT u hu
  · simp only [List.mem_singleton] at hu
    subst hu
    exact hok

theorem St.pushS (h0 : St w0 B vl vm S vc vp T E) (h : St w B vl vm S vc vp T E) (t : RT) (hok : t.Ok) (hB : B ≤ w0.heap.size) (hM : Sep w w0.heap.size t.rows)
    (hA1 : Appended w w1 B 90 1 vl vl' (2 * S.length) 2 (S.flatMap RT.got) t.got) (hA2 : Appended w1 w2 B 90 1 vm vm' (2 * S.length) 2 (S.flatMap RT.want) t.want) : St w2 B vl' vm' (S ++ [t]) vc vp T E := by
  have h1 := Sep.join h0.sep h.sep hM (Nat.le_refl _) hB
  have p1 : vl'.ownBlock = vl.ownBlock ∨ ∃ g, vl'.ownBlock = some g ∧ w.heap.size ≤ g := by
    rcases hA1.place with hp | ⟨g, hp, hg, _⟩
    · exact .inl hp
    · exact .inr ⟨g, hp, hg⟩
  have p2 : vm'.ownBlock = vm.ownBlock ∨ ∃ g, vm'.ownBlock = some g ∧ w1.heap.size ≤ g := by
    rcases hA2.place with hp | ⟨g, hp, hg, _⟩
    · exact .inl hp
    · exact .inr ⟨g, hp, hg⟩
  unfold outR at h1
  simp only [List.cons_append] at h1
  have h2 := h1.turn 0 (by simp) ⟨vl', 90, 1, 2 * S.length + 2, S.flatMap RT.got ++ t.got⟩ (by simpa using hA1.grown) hA1.own (by simpa using p1)
  have h3 := h2.turn 1 (by simp) ⟨vm', 90, 1, 2 * S.length + 2, S.flatMap RT.want ++ t.want⟩ (by simpa using hA2.grown) hA2.own (by simpa using p2)
  simp only [List.set_cons_succ, List.set_cons_zero] at h3
  refine ⟨h3.perm ?_, fun u hu => ?_, h.eT⟩
  · have e0 : (S ++ [t]).flatMap RT.rows = S.flatMap RT.rows ++ t.rows := by rw [List.flatMap_append]; simp
    have e1 : (S ++ [t]).flatMap RT.got = S.flatMap RT.got ++ t.got := by rw [List.flatMap_append]; simp
    have e2 : (S ++ [t]).flatMap RT.want = S.flatMap RT.want ++ t.want := by rw [List.flatMap_append]; simp
    unfold outR
    rw [e0, e1, e2, List.length_append, List.length_singleton]
    simp only [List.cons_append, show 2 * (S.length + 1) = 2 * S.length + 2 by omega]
    refine List.Perm.cons _ (List.Perm.cons _ ?_)
    rw [List.append_assoc (S.flatMap RT.rows) _ t.rows, List.append_assoc (S.flatMap RT.rows) t.rows]
    exact (List.perm_append_left_iff _).2 List.perm_append_comm
  · rcases List.mem_append.1 hu with hu | hu
    · exact h.eS u hu
    · simp only [List.mem_singleton] at hu
      subst hu
      exact hok
end

/-! the ends -/
abbrev Zed := RowS × RowS × List Int
def zip3 (R Q : List RunW) : List Zed := List.zipWith (fun a b => (a.row, b.row, a.l)) R Q
def ZL (S : List RT) : List (List Zed) := S.flatMap fun t => [zip3 t.R1 t.R3, zip3 t.R2 t.R3]
theorem zip3_fst : ∀ (R Q : List RunW), R.length = Q.length → (zip3 R Q).map (·.1) = R.map RunW.row
  | [], _, _ => by simp [zip3]
  | r :: R, [], h => by simp at h
  | r :: R, q :: Q, h => by
    have := zip3_fst R Q (by simpa using h)
    unfold zip3 at this ⊢
    simp only [List.zipWith_cons_cons, List.map_cons, this]
theorem zip3_len (R Q : List RunW) (h : R.length = Q.length) : (zip3 R Q).length = R.length := by simp [zip3, h]
theorem zip3_get (R Q : List RunW) (k : Nat) (h1 : k < R.length) (h2 : k < Q.length) : (zip3 R Q)[k]? = some (R[k].row, Q[k].row, R[k].l) := by
  unfold zip3
  rw [List.getElem?_zipWith, List.getElem?_eq_getElem h1, List.getElem?_eq_getElem h2]

theorem two_eq {R Q : List RunW} (h : R.map RunW.two = Q.map RunW.two) : R.length = Q.length ∧ ∀ i (h1 : i < R.length) (h2 : i < Q.length), R[i].at_ = Q[i].at_ ∧ R[i].l = Q[i].l := by
  have hl := congrArg List.length h
  simp only [List.length_map] at hl
  refine ⟨hl, fun i h1 h2 => ?_⟩
  have h3 : (R.map RunW.two)[i]? = (Q.map RunW.two)[i]? := by rw [h]
  rw [List.getElem?_map, List.getElem?_map, List.getElem?_eq_getElem h1, List.getElem?_eq_getElem h2] at h3
  simp only [Option.map_some, Option.some.injEq, RunW.two, Prod.mk.injEq] at h3
  exact h3

theorem ls_at : ∀ (S : List RT) (i : Nat), i < 2 * S.length → ∃ t ∈ S, ∃ v R, ((v = t.v1 ∧ R = t.R1) ∨ (v = t.v2 ∧ R = t.R2)) ∧ (S.flatMap RT.got)[i]? = some v ∧ (S.flatMap RT.want)[i]? = some t.v3 ∧ (ZL S)[i]? = some (zip3 R t.R3)
  | [], i, h => absurd h (by simp)
  | t :: S, 0, _ => ⟨t, by simp, t.v1, t.R1, .inl ⟨rfl, rfl⟩, rfl, rfl, rfl⟩
  | t :: S, 1, _ => ⟨t, by simp, t.v2, t.R2, .inr ⟨rfl, rfl⟩, rfl, rfl, rfl⟩
  | t :: S, i + 2, h => by
    obtain ⟨u, hu, v, R, hv, h1, h2, h3⟩ := ls_at S i (by simp at h; omega)
    exact ⟨u, List.mem_cons_of_mem _ hu, v, R, hv, h1, h2, h3⟩

/-- while the runs' bytes are taken -/
structure Fin (w : World) (B : Nat) (vl vm : Value) (S : List RT) (vc vp : Value) (T : List Trip) (P Q : List Zed) : Prop where
  sep : Sep w B (outR vl vm S ++ (⟨vc, 23, 1, 2 * T.length + P.length, (T.flatMap Trip.got).map (·.v) ++ P.map (·.1.v)⟩ :: ⟨vp, 23, 1, 2 * T.length + Q.length, (T.flatMap Trip.want).map (·.v) ++ Q.map (·.2.1.v)⟩ :: T.flatMap Trip.all))
  eS : ∀ t ∈ S, t.Ok
  eT : ∀ t ∈ T, rowOk t.g1 t.l ∧ rowOk t.g2 t.l ∧ rowOk t.r t.l ∧ Byt t.l
section
variable {w w' w0 w1 w2 : World} {B : Nat} {vl vm vc vp vl' vm' vc' vp' : Value} {S : List RT} {T : List Trip} {P Q : List Zed}
theorem St.fin {E : List RowS} (h : St w B vl vm S vc vp T E) : Fin w B vl vm S vc vp T [] [] := by
  refine ⟨?_, h.eS, h.eT⟩
  have h1 := h.sep.sub ((List.Sublist.refl _).append (List.sublist_append_left _ _))
  unfold outL at h1
  rw [got_len, want_len] at h1
  simpa using h1
theorem Fin.below (h : Fin w B vl vm S vc vp T P Q) (hb : Below w.heap.size w w') : Fin w' B vl vm S vc vp T P Q := ⟨h.sep.below hb (Nat.le_refl _), h.eS, h.eT⟩
theorem Fin.ownC (h : Fin w B vl vm S vc vp T P Q) : w.ownsRow B 23 1 vc (2 * T.length + P.length) ((T.flatMap Trip.got).map (·.v) ++ P.map (·.1.v)) := (Sep.pair.1 h.sep).1 ⟨vc, 23, 1, 2 * T.length + P.length, (T.flatMap Trip.got).map (·.v) ++ P.map (·.1.v)⟩ (by simp)
theorem Fin.ownP (h : Fin w B vl vm S vc vp T P Q) : w.ownsRow B 23 1 vp (2 * T.length + Q.length) ((T.flatMap Trip.want).map (·.v) ++ Q.map (·.2.1.v)) := (Sep.pair.1 h.sep).1 ⟨vp, 23, 1, 2 * T.length + Q.length, (T.flatMap Trip.want).map (·.v) ++ Q.map (·.2.1.v)⟩ (by simp)
theorem Fin.ownL (h : Fin w B vl vm S vc vp T P Q) : w.ownsRow B 90 1 vl (2 * S.length) (S.flatMap RT.got) := (Sep.pair.1 h.sep).1 ⟨vl, 90, 1, 2 * S.length, S.flatMap RT.got⟩ (by simp [outR])
theorem Fin.ownM (h : Fin w B vl vm S vc vp T P Q) : w.ownsRow B 90 1 vm (2 * S.length) (S.flatMap RT.want) := (Sep.pair.1 h.sep).1 ⟨vm, 90, 1, 2 * S.length, S.flatMap RT.want⟩ (by simp [outR])
theorem Fin.front (h : Fin w B vl vm S vc vp T P Q) : Sep w B (⟨vc, 23, 1, 2 * T.length + P.length, (T.flatMap Trip.got).map (·.v) ++ P.map (·.1.v)⟩ :: ⟨vp, 23, 1, 2 * T.length + Q.length, (T.flatMap Trip.want).map (·.v) ++ Q.map (·.2.1.v)⟩ :: (T.flatMap Trip.all ++ outR vl vm S)) :=
  h.sep.perm List.perm_append_comm
theorem Fin.moreC (h : Fin w B vl vm S vc vp T P Q) (z : Zed) (hA1 : Appended w w1 B 23 1 vc vc' (2 * T.length + P.length) 1 ((T.flatMap Trip.got).map (·.v) ++ P.map (·.1.v)) [z.1.v]) : Fin w1 B vl vm S vc' vp T (P ++ [z]) Q := by
  have p1 : vc'.ownBlock = vc.ownBlock ∨ ∃ g, vc'.ownBlock = some g ∧ w.heap.size ≤ g := by
    rcases hA1.place with hp | ⟨g, hp, hg, _⟩
    · exact .inl hp
    · exact .inr ⟨g, hp, hg⟩
  have h3 := h.front.turn 0 (by simp) ⟨vc', 23, 1, 2 * T.length + (P.length + 1), (T.flatMap Trip.got).map (·.v) ++ P.map (·.1.v) ++ [z.1.v]⟩ (by simpa using hA1.grown) hA1.own (by simpa using p1)
  simp only [List.set_cons_zero] at h3
  refine ⟨?_, h.eS, h.eT⟩
  have h4 := h3.perm (List.perm_append_comm (l₁ := [_, _] ++ T.flatMap Trip.all) (l₂ := outR vl vm S))
  simpa [List.append_assoc] using h4
theorem Fin.moreP (h : Fin w B vl vm S vc vp T P Q) (z : Zed) (hA2 : Appended w w1 B 23 1 vp vp' (2 * T.length + Q.length) 1 ((T.flatMap Trip.want).map (·.v) ++ Q.map (·.2.1.v)) [z.2.1.v]) : Fin w1 B vl vm S vc vp' T P (Q ++ [z]) := by
  have p2 : vp'.ownBlock = vp.ownBlock ∨ ∃ g, vp'.ownBlock = some g ∧ w.heap.size ≤ g := by
    rcases hA2.place with hp | ⟨g, hp, hg, _⟩
    · exact .inl hp
    · exact .inr ⟨g, hp, hg⟩
  have h3 := h.front.turn 1 (by simp) ⟨vp', 23, 1, 2 * T.length + (Q.length + 1), (T.flatMap Trip.want).map (·.v) ++ Q.map (·.2.1.v) ++ [z.2.1.v]⟩ (by simpa using hA2.grown) hA2.own (by simpa using p2)
  simp only [List.set_cons_succ, List.set_cons_zero] at h3
  refine ⟨?_, h.eS, h.eT⟩
  have h4 := h3.perm (List.perm_append_comm (l₁ := [_, _] ++ T.flatMap Trip.all) (l₂ := outR vl vm S))
  simpa [List.append_assoc] using h4

theorem Fin.rns (h : Fin w B vl vm S vc vp T P Q) {t : RT} (ht : t ∈ S) : Rn w B t.v1 t.R1 ∧ Rn w B t.v2 t.R2 ∧ Rn w B t.v3 t.R3 := by
  have hrows : Sep w B t.rows := h.sep.sub (by
    refine List.Sublist.trans ?_ (List.sublist_append_left _ _)
    unfold outR
    refine ((List.Sublist.trans ?_ (List.sublist_cons_self _ _)).trans (List.sublist_cons_self _ _))
    obtain ⟨A, C, rfl⟩ := List.append_of_mem ht
    rw [List.flatMap_append, List.flatMap_cons]
    exact (List.sublist_append_left _ _).trans (List.sublist_append_right _ _))
  exact ⟨⟨hrows.sub (by unfold RT.rows rnL; exact (List.sublist_append_right _ _).trans (List.sublist_append_left _ _))⟩, ⟨hrows.sub (by unfold RT.rows rnL; exact List.sublist_append_right _ _)⟩,
    ⟨hrows.sub (by unfold RT.rows rnL; rw [List.append_assoc]; exact List.sublist_append_left _ _)⟩⟩

/-- what is read at place i of lists and mores, while the runs' bytes are taken -/
theorem Fin.reads {lb cap mb cap2 : Nat} (h : Fin w B (.slice (some ⟨lb, 0, none⟩) (2 * S.length) cap) (.slice (some ⟨mb, 0, none⟩) (2 * S.length) cap2) S vc vp T P Q) (i : Nat) (hi : i < 2 * S.length) :
    ∃ (a1 a2 : Option Addr) (c1 c2 g1 g2 : Nat) (R R3 : List RunW), R.length = R3.length ∧ (ZL S)[i]? = some (zip3 R R3) ∧ okW R ∧ (R.length = 0 ∨ (a1 = some ⟨g1, 0, none⟩ ∧ a2 = some ⟨g2, 0, none⟩)) ∧
      (∀ k (hk : k < R.length) (hk' : k < R3.length), (∃ ao c, R[k].v = .slice ao R[k].l.length c) ∧ (∃ ao c, R3[k].v = .slice ao R[k].l.length c)) ∧
      ∀ W vc vp P Q, Fin W B (.slice (some ⟨lb, 0, none⟩) (2 * S.length) cap) (.slice (some ⟨mb, 0, none⟩) (2 * S.length) cap2) S vc vp T P Q → W.cell? ⟨lb, i, none⟩ = some (.slice a1 R.length c1) ∧ W.cell? ⟨mb, i, none⟩ = some (.slice a2 R.length c2) ∧
        (Calls Try.prog 56 #[.slice a1 R.length c1, .slice a2 R.length c2] W fun e w' => e = .returned (.bool true) ∧ ∃ q, w' = W.drewN q) ∧
        ∀ k (hk : k < R.length) (hk' : k < R3.length), W.cell? ⟨g1, k * 2 + 1, none⟩ = some R[k].v ∧ W.cell? ⟨g2, k * 2 + 1, none⟩ = some R3[k].v := by
  obtain ⟨t, ht, v, R, hvR, h1, h2, h3⟩ := ls_at S i hi
  have hok := h.eS t ht
  have htw : R.map RunW.two = t.R3.map RunW.two := by rcases hvR with ⟨_, rfl⟩ | ⟨_, rfl⟩; exact hok.e1; exact hok.e2
  have hkR : okW R := by rcases hvR with ⟨_, rfl⟩ | ⟨_, rfl⟩; exact hok.k1; exact hok.k2
  obtain ⟨hlen, hel⟩ := two_eq htw
  have nR : ∀ {W vc vp P Q}, Fin W B (.slice (some ⟨lb, 0, none⟩) (2 * S.length) cap) (.slice (some ⟨mb, 0, none⟩) (2 * S.length) cap2) S vc vp T P Q → Rn W B v R ∧ Rn W B t.v3 t.R3 := fun h => by
    have := h.rns ht
    rcases hvR with ⟨rfl, rfl⟩ | ⟨rfl, rfl⟩
    · exact ⟨this.1, this.2.2⟩
    · exact ⟨this.2.1, this.2.2⟩
  obtain ⟨n1, n3⟩ := nR h
  obtain ⟨a1, c1, hv1, hW1⟩ := n1.wrs hkR.1 hkR.2.1
  obtain ⟨a2, c2, hv2, hW2⟩ := n3.wrs hok.k3.1 hok.k3.2.1
  have key : ∃ g1 g2, R.length = 0 ∨ (a1 = some ⟨g1, 0, none⟩ ∧ a2 = some ⟨g2, 0, none⟩) := by
    by_cases h0 : R.length = 0
    · exact ⟨0, 0, .inl h0⟩
    · obtain ⟨g1, x1, e1, -⟩ := own_shape n1.own (by omega)
      obtain ⟨g2, x2, e2, -⟩ := own_shape n3.own (by omega)
      rw [hv1] at e1
      rw [hv2] at e2
      simp only [Value.slice.injEq] at e1 e2
      exact ⟨g1, g2, .inr ⟨e1.1, e2.1⟩⟩
  obtain ⟨g1, g2, hg⟩ := key
  refine ⟨a1, a2, c1, c2, g1, g2, R, t.R3, hlen, h3, hkR, hg, fun k hk hk' => ⟨?_, ?_⟩, fun W vc vp P Q hF => ?_⟩
  · obtain ⟨so, c, e, _⟩ := hW1.ints k hk
    exact ⟨so, c, e⟩
  · obtain ⟨so, c, e, _⟩ := hW2.ints k hk'
    exact ⟨so, c, by rw [e, (hel k hk hk').2]⟩
  · obtain ⟨m1, m3⟩ := nR hF
    obtain ⟨b1, d1, hw1, hX1⟩ := m1.wrs hkR.1 hkR.2.1
    obtain ⟨b2, d2, hw2, hX2⟩ := m3.wrs hok.k3.1 hok.k3.2.1
    rw [hv1] at hw1
    rw [hv2] at hw2
    simp only [Value.slice.injEq, true_and] at hw1 hw2
    obtain ⟨rfl, rfl⟩ := hw1
    obtain ⟨rfl, rfl⟩ := hw2
    refine ⟨by rw [hF.ownL.cellAt i (by omega), h1, hv1], by rw [hF.ownM.cellAt i (by omega), h2, hv2, hlen], ?_, fun k hk hk' => ?_⟩
    · have := same56 a1 a2 c1 c2 R t.R3 W hlen hkR.2.2 hX1 hX2 hel
      rwa [← hlen] at this
    · have o1 := m1.own
      have o3 := m3.own
      rw [hv1] at o1
      rw [hv2] at o3
      rcases hg with h0 | ⟨rfl, rfl⟩
      · omega
      have l1 := run_cells_len R
      have l3 := run_cells_len t.R3
      exact ⟨(o1.cellAt (k * 2 + 1) (by omega)).trans (run_cells_get R k hk).2, (o3.cellAt (k * 2 + 1) (by omega)).trans (run_cells_get t.R3 k hk').2⟩
end

theorem keep_gen (w : World) (K : Nat → Prop) (B lb cap mb cap2 : Nat) (Z : List Zed) (hsub : Sep w B (Z.map (·.1))) (oc : w.ownsRow B 23 1 (.slice (some ⟨lb, 0, none⟩) Z.length cap) Z.length (Z.map (·.1.v)))
    (ow : w.ownsRow B 23 1 (.slice (some ⟨mb, 0, none⟩) Z.length cap2) Z.length (Z.map (·.2.1.v))) (hz : ∀ z ∈ Z, rowOk z.1 z.2.2 ∧ rowOk z.2.1 z.2.2 ∧ Byt z.2.2 ∧ w.ownsRow B z.2.1.e z.2.1.size z.2.1.v z.2.1.n z.2.1.xs)
    (far : ∀ z ∈ Z, z.1.v.ownBlock ≠ some lb) (hK : ∀ q, K q → q < w.heap.size ∧ ∀ z ∈ Z, z.1.v.ownBlock ≠ some q) (hB : B ≤ w.heap.size) (hlb : lb < w.heap.size) (hlen : Z.length ≤ 100000000) :
    Calls Try.prog 38 #[.slice (some ⟨lb, 0, none⟩) Z.length cap, .slice (some ⟨mb, 0, none⟩) Z.length cap2] w fun e w' => e = .returned (.bool true) ∧ BK K B w w' := by
  have hgi : ∀ i (hi : i < (Z.map (·.1)).length), (Z.map (·.1))[i] = (Z[i]'(by simpa using hi)).1 := fun i hi => by simp
  have hxi : ∀ i (hi : i < Z.length), (Z.map (·.2.2)).getD i [] = (Z[i]'hi).2.2 := fun i hi => by simp [List.getD, List.getElem?_eq_getElem hi]
  have h := keepK38 w K B lb 0 cap mb 0 cap2 (Z.map (·.1)) (Z.map (·.2.2)) ⟨hsub, rfl, fun k hk => ?_, fun k hk => ?_⟩ hB hlb (by simpa using hlen) (fun i hi => ?_) (fun i hi => ?_) (fun q hq => ⟨(hK q hq).1, fun i hi => ?_⟩) (fun i hi => ?_) (fun i hi => ?_)
  · simpa using h
  · have hk' : k < Z.length := by simpa using hk
    rw [Nat.zero_add, oc.cellAt k (by omega), List.getElem?_map, List.getElem?_eq_getElem hk', hgi k hk]
    rfl
  · rw [hgi k hk]; exact far _ (List.getElem_mem _)
  · rw [hgi i hi]; exact (hz _ (List.getElem_mem (by simpa using hi))).1.2.2.2.1
  · rw [hgi i hi]
    have := (hz _ (List.getElem_mem (by simpa using hi))).1
    exact ⟨this.1, this.2.1⟩
  · rw [hgi i hi]; exact (hK q hq).2 _ (List.getElem_mem _)
  · rw [hgi i hi, hxi i (by simpa using hi)]
    exact (hz _ (List.getElem_mem (by simpa using hi))).1.2.2.2.2
  · have hi' : i < Z.length := by simpa using hi
    rw [hxi i hi']
    obtain ⟨_, hr, hby, ho⟩ := hz _ (List.getElem_mem hi')
    have hce := ow.cellAt i (by omega)
    rw [List.getElem?_map, List.getElem?_eq_getElem hi', Option.map_some] at hce
    generalize Z[i]'hi' = x at *
    rw [hr.1, hr.2.1, hr.2.2.2.2] at ho
    obtain ⟨ao, c, hv, hI, -⟩ := ints_of_own ho (ints_of_byt hby)
    rw [hv] at hce
    exact ⟨ao, c, by rw [Nat.zero_add]; exact hce, hI⟩
end Go.Proofs.Ytdhicfolchpmhaa

namespace Go.Proofs.Ytdhicfolchpmhaa
open Go.RowKit
set_option linter.unusedVariables false
set_option linter.unusedSimpArgs false

def lrow (v : Value) (R : List RunW) : RowS := ⟨v, 104, 2, R.length, R.flatMap RunW.cells⟩
def RT.LL (t : RT) : List RowS := [lrow t.v1 t.R1, lrow t.v2 t.R2]
def RT.BB (t : RT) : List RowS := t.R1.map RunW.row ++ t.R2.map RunW.row
def RT.A (t : RT) : List RowS := rnL t.v1 t.R1 ++ rnL t.v2 t.R2
theorem flatMap_sub {α β : Type} (A C : α → List β) (h : ∀ t, (A t).Sublist (C t)) : ∀ S : List α, (S.flatMap A).Sublist (S.flatMap C)
  | [] => List.Sublist.refl _
  | t :: S => by simp only [List.flatMap_cons]; exact (h t).append (flatMap_sub A C h S)
theorem flatMap_perm {α β : Type} (A X Y : α → List β) (h : ∀ t, (A t).Perm (X t ++ Y t)) : ∀ S : List α, (S.flatMap A).Perm (S.flatMap X ++ S.flatMap Y)
  | [] => List.Perm.refl _
  | t :: S => by
    simp only [List.flatMap_cons]
    refine ((h t).append (flatMap_perm A X Y h S)).trans ?_
    rw [List.append_assoc, List.append_assoc]
    refine (List.perm_append_left_iff _).2 ?_
    rw [← List.append_assoc, ← List.append_assoc]
    exact (List.perm_append_right_iff _).2 List.perm_append_comm
theorem A_rows (t : RT) : t.A.Sublist t.rows := (List.sublist_append_right _ _).append (List.Sublist.refl _)
theorem A_perm (t : RT) : t.A.Perm (t.LL ++ t.BB) := by
  unfold RT.A RT.LL RT.BB rnL lrow
  simp only [List.cons_append, List.nil_append]
  exact List.Perm.cons _ List.perm_middle
theorem LL_v (S : List RT) : (S.flatMap RT.LL).map (·.v) = S.flatMap RT.got := by
  induction S with
  | nil => rfl
  | cons t S ih => simp only [List.flatMap_cons, List.map_append, ih]; rfl
theorem LL_len (S : List RT) : (S.flatMap RT.LL).length = 2 * S.length := by
  induction S with
  | nil => rfl
  | cons t S ih => simp only [List.flatMap_cons, List.length_append, ih, RT.LL, List.length_cons, List.length_nil]; omega
theorem zl_fst : ∀ (S : List RT), (∀ t ∈ S, t.Ok) → (ZL S).flatten.map (·.1) = S.flatMap RT.BB
  | [], _ => rfl
  | t :: S, h => by
    have ih := zl_fst S (fun u hu => h u (List.mem_cons_of_mem _ hu))
    have ht := h t (by simp)
    unfold ZL at ih ⊢
    simp only [List.flatMap_cons, List.flatten_append, List.map_append, ih]
    simp only [List.flatten_cons, List.flatten_nil, List.append_nil, List.map_append, RT.BB]
    rw [zip3_fst _ _ (two_eq ht.e1).1, zip3_fst _ _ (two_eq ht.e2).1]
theorem zip3_mem {R Q : List RunW} {z : Zed} (h : z ∈ zip3 R Q) (hl : R.length = Q.length) : ∃ k, ∃ (h1 : k < R.length) (h2 : k < Q.length), z = (R[k].row, Q[k].row, R[k].l) := by
  obtain ⟨k, hk, rfl⟩ := List.getElem_of_mem h
  rw [zip3_len _ _ hl] at hk
  refine ⟨k, hk, by omega, ?_⟩
  have := zip3_get R Q k hk (by omega)
  rw [List.getElem?_eq_getElem (by rw [zip3_len _ _ hl]; exact hk)] at this
  exact Option.some.inj this
theorem zl_mem {S : List RT} {z : Zed} (h : z ∈ (ZL S).flatten) (hok : ∀ t ∈ S, t.Ok) : ∃ t ∈ S, ∃ R : List RunW, okW R ∧ R.map RunW.two = t.R3.map RunW.two ∧ ∃ k, ∃ (h1 : k < R.length) (h2 : k < t.R3.length), z = (R[k].row, t.R3[k].row, R[k].l) := by
  obtain ⟨L, hL, hz⟩ := List.mem_flatten.1 h
  unfold ZL at hL
  obtain ⟨t, ht, hL⟩ := List.mem_flatMap.1 hL
  have o := hok t ht
  simp only [List.mem_cons, List.not_mem_nil, or_false] at hL
  rcases hL with rfl | rfl
  · obtain ⟨k, h1, h2, e⟩ := zip3_mem hz (two_eq o.e1).1
    exact ⟨t, ht, t.R1, o.k1, o.e1, k, h1, h2, e⟩
  · obtain ⟨k, h1, h2, e⟩ := zip3_mem hz (two_eq o.e2).1
    exact ⟨t, ht, t.R2, o.k2, o.e2, k, h1, h2, e⟩

theorem Fin.keep {w : World} {B : Nat} {vl vm vc vp : Value} {S : List RT} {T : List Trip} (h : Fin w B vl vm S vc vp T (ZL S).flatten (ZL S).flatten) (hne : 2 * T.length + (ZL S).flatten.length ≠ 0) (hB : B ≤ w.heap.size) (hlen : 2 * T.length + (ZL S).flatten.length ≤ 100000000) :
    Calls Try.prog 38 #[vc, vp] w fun e w' => e = .returned (.bool true) ∧ Below B w w' ∧ Sep w' B (⟨vl, 90, 1, 2 * S.length, S.flatMap RT.got⟩ :: S.flatMap RT.LL) := by
  obtain ⟨P, hP⟩ : ∃ P, P = (ZL S).flatten := ⟨_, rfl⟩
  have hmem := fun z (hz : z ∈ P) => zl_mem (hP ▸ hz) h.eS
  have hfst : P.map (·.1) = S.flatMap RT.BB := hP ▸ zl_fst S h.eS
  rw [← hP] at h hne hlen
  clear hP
  have oc := h.ownC
  have op := h.ownP
  obtain ⟨lb, cap, hvc, -, hlb, -⟩ := own_shape oc (by omega)
  obtain ⟨mb, cap2, hvp, -⟩ := own_shape op (by omega)
  subst hvc hvp
  obtain ⟨Z, hZ⟩ : ∃ Z, Z = T.flatMap Trip.three ++ P := ⟨_, rfl⟩
  have hTl : (T.flatMap Trip.three).length = 2 * T.length := by rw [← got_len, ← three_got, List.length_map]
  have hZl : Z.length = 2 * T.length + P.length := by rw [hZ, List.length_append, hTl]
  have hZ1 : Z.map (·.1) = T.flatMap Trip.got ++ S.flatMap RT.BB := by rw [hZ, List.map_append, three_got, hfst]
  have hZ2 : Z.map (·.1.v) = (T.flatMap Trip.got).map (·.v) ++ P.map (·.1.v) := by rw [hZ, List.map_append, ← three_got, List.map_map]; rfl
  have hZ3 : Z.map (·.2.1.v) = (T.flatMap Trip.want).map (·.v) ++ P.map (·.2.1.v) := by rw [hZ, List.map_append, ← three_want, List.map_map]; rfl
  rw [← hZ2, ← hZl] at oc
  rw [← hZ3, ← hZl] at op
  have big : Sep w B ((⟨vl, 90, 1, 2 * S.length, S.flatMap RT.got⟩ :: S.flatMap RT.LL) ++ (⟨.slice (some ⟨lb, 0, none⟩) (2 * T.length + P.length) cap, 23, 1, 2 * T.length + P.length, (T.flatMap Trip.got).map (·.v) ++ P.map (·.1.v)⟩ :: (T.flatMap Trip.got ++ S.flatMap RT.BB))) := by
    have h1 := h.sep.sub (L := (⟨vl, 90, 1, 2 * S.length, S.flatMap RT.got⟩ :: S.flatMap RT.A) ++ (⟨.slice (some ⟨lb, 0, none⟩) (2 * T.length + P.length) cap, 23, 1, 2 * T.length + P.length, (T.flatMap Trip.got).map (·.v) ++ P.map (·.1.v)⟩ :: T.flatMap Trip.got)) (by
      refine List.Sublist.append ?_ ?_
      · unfold outR
        exact List.Sublist.cons_cons _ (List.Sublist.cons _ (flatMap_sub _ _ A_rows S))
      · exact List.Sublist.cons_cons _ (List.Sublist.cons _ (got_sub T)))
    refine h1.perm ?_
    simp only [List.cons_append]
    refine List.Perm.cons _ ?_
    refine ((List.perm_append_right_iff _).2 (flatMap_perm _ _ _ A_perm S)).trans ?_
    rw [List.append_assoc]
    refine (List.perm_append_left_iff _).2 ?_
    exact List.perm_append_comm
  obtain ⟨b1, b2⟩ := Sep.pair.1 big
  obtain ⟨p1, p2, p3⟩ := List.pairwise_append.1 b2
  have hrest : Sep w B (T.flatMap Trip.got ++ S.flatMap RT.BB) := big.sub ((List.sublist_cons_self _ _).trans (List.sublist_append_right _ _))
  have hleft : Sep w B (⟨vl, 90, 1, 2 * S.length, S.flatMap RT.got⟩ :: S.flatMap RT.LL) := big.sub (List.sublist_append_left _ _)
  have all : ∀ r ∈ outR vl vm S ++ (⟨.slice (some ⟨lb, 0, none⟩) (2 * T.length + P.length) cap, 23, 1, 2 * T.length + P.length, (T.flatMap Trip.got).map (·.v) ++ P.map (·.1.v)⟩ :: ⟨.slice (some ⟨mb, 0, none⟩) (2 * T.length + P.length) cap2, 23, 1, 2 * T.length + P.length, (T.flatMap Trip.want).map (·.v) ++ P.map (·.2.1.v)⟩ :: T.flatMap Trip.all), w.ownsRow B r.e r.size r.v r.n r.xs := (Sep.pair.1 h.sep).1
  have hz1 : ∀ z ∈ Z, z.1 ∈ T.flatMap Trip.got ++ S.flatMap RT.BB := fun z hz => hZ1 ▸ List.mem_map_of_mem hz
  rw [← hZl] at hne hlen ⊢
  refine (keep_gen w (fun q => ∃ r ∈ (⟨vl, 90, 1, 2 * S.length, S.flatMap RT.got⟩ :: S.flatMap RT.LL : List RowS), r.v.ownBlock = some q) B lb cap mb cap2 Z (hZ1 ▸ hrest) oc op (fun z hz => ?_) (fun z hz => ?_) (fun q hq => ?_) hB hlb hlen).mono ?_
  · rw [hZ] at hz
    rcases List.mem_append.1 hz with hz | hz
    · obtain ⟨t, ht, hz⟩ := List.mem_flatMap.1 hz
      have he := h.eT t ht
      have hr : w.ownsRow B t.r.e t.r.size t.r.v t.r.n t.r.xs := all t.r (List.mem_append_right _ (List.mem_cons_of_mem _ (List.mem_cons_of_mem _ (List.mem_flatMap.2 ⟨t, ht, by simp [Trip.all]⟩))))
      simp only [Trip.three, List.mem_cons, List.not_mem_nil, or_false] at hz
      rcases hz with rfl | rfl
      · exact ⟨he.1, he.2.2.1, he.2.2.2, hr⟩
      · exact ⟨he.2.1, he.2.2.1, he.2.2.2, hr⟩
    · obtain ⟨t, ht, R, kR, eR, k, h1, h2, rfl⟩ := hmem z hz
      have e := ((two_eq eR).2 k h1 h2).2
      have b := kR.2.1 _ (List.getElem_mem h1)
      refine ⟨⟨rfl, rfl, rfl, b.2, rfl⟩, ⟨rfl, rfl, by simp only [RunW.row]; rw [e], by simp only [RunW.row]; rw [← e]; exact b.2, by simp only [RunW.row]; rw [e]⟩, kR.1 _ (List.getElem_mem h1), ?_⟩
      refine all _ (List.mem_append_left _ ?_)
      unfold outR
      refine List.mem_cons_of_mem _ (List.mem_cons_of_mem _ (List.mem_flatMap.2 ⟨t, ht, ?_⟩))
      unfold RT.rows rnL
      refine List.mem_append_left _ (List.mem_append_left _ (List.mem_cons_of_mem _ ?_))
      exact List.mem_map_of_mem (List.getElem_mem h2)
  · have := (List.pairwise_cons.1 p2).1 _ (hz1 z hz)
    simp only [RowS.apart, Value.ownBlock] at this
    rcases this with h1 | h1
    · cases h1
    · exact fun e => h1 e.symm
  · obtain ⟨r, hr, hq⟩ := hq
    refine ⟨((b1 r (List.mem_append_left _ hr)).lt q hq).2, fun z hz e => ?_⟩
    rcases p3 r hr z.1 (List.mem_cons_of_mem _ (hz1 z hz)) with h1 | h1
    · rw [h1] at hq; cases hq
    · exact h1 (hq.trans e.symm)
  · rintro e w' ⟨he, hb⟩
    exact ⟨he, hb.below, hleft.same (fun r hr q hq => hb.same q ⟨r, hr, hq⟩)⟩

theorem Fin.lists {w : World} {B : Nat} {vl vm vc vp : Value} {S : List RT} {T : List Trip} {P Q : List Zed} (h : Fin w B vl vm S vc vp T P Q) : Sep w B (⟨vl, 90, 1, 2 * S.length, S.flatMap RT.got⟩ :: S.flatMap RT.LL) := by
  refine h.sep.sub (List.Sublist.trans ?_ (List.sublist_append_left _ _))
  unfold outR
  refine List.Sublist.cons_cons _ (List.Sublist.cons _ (flatMap_sub _ _ (fun t => ?_) S))
  refine List.Sublist.trans ?_ (A_rows t)
  unfold RT.A RT.LL rnL lrow
  exact List.Sublist.cons_cons _ (List.Sublist.trans (List.Sublist.cons_cons _ (List.nil_sublist _)) (List.sublist_append_right _ _))

theorem zl_len : ∀ (S : List RT), (∀ t ∈ S, t.Ok) → (ZL S).flatten.length = 2 * (S.map (fun t => t.R1.length)).sum
  | [], _ => rfl
  | t :: S, h => by
    have ih := zl_len S (fun u hu => h u (List.mem_cons_of_mem _ hu))
    have ht := h t (by simp)
    have l1 := (two_eq ht.e1).1
    have l2 := (two_eq ht.e2).1
    unfold ZL at ih ⊢
    simp only [List.flatMap_cons, List.flatten_append, List.length_append, ih, List.flatten_cons, List.flatten_nil, List.append_nil, List.map_cons, List.sum_cons]
    rw [zip3_len _ _ l1, zip3_len _ _ l2]
    omega

set_option maxHeartbeats 1000000 in
set_option maxRecDepth 100000 in
theorem apart57_nil (w : World) : Calls Try.prog 57 #[.slice none 0 0] w fun e w' => e = .returned (.bool true) ∧ w = w' := by
  go_enter Try.func57, Try.ntmps57
  go_wp2_with fail
  refine wp_loop_rounds 1 ?_
  rw [rounds_succ]
  go_wp2_with fail
  refine wp_loop_rounds 1 ?_
  rw [rounds_succ]
  go_wp2_with fail
  refine wp_loop_rounds 1 ?_
  rw [rounds_succ]
  go_wp2_with fail
  go_ret
  exact ⟨rfl, rfl⟩

theorem lists_apart {w : World} {B : Nat} {vl : Value} {S : List RT} (h : Sep w B (⟨vl, 90, 1, 2 * S.length, S.flatMap RT.got⟩ :: S.flatMap RT.LL)) (hok : ∀ t ∈ S, t.Ok) (hS : S ≠ []) (hB : B ≤ w.heap.size) (hlen : S.length ≤ 10000000) :
    Calls Try.prog 57 #[vl] w fun e w' => e = .returned (.bool true) ∧ Below B w w' := by
  have h0 : 0 < S.length := List.length_pos_iff.2 hS
  have o0 := h.own 0 (by simp)
  simp only [List.getElem_cons_zero] at o0
  obtain ⟨lb, cap, hv, _, hlb, _⟩ := own_shape o0 (by omega)
  subst hv
  have hll := LL_len S
  have hvv := LL_v S
  obtain ⟨L0, hL⟩ : ∃ L0, L0 = S.flatMap RT.LL := ⟨_, rfl⟩
  have hmem : ∀ r ∈ L0, r.e = 104 ∧ r.size = 2 ∧ r.n ≤ 100000000 := fun r hr => by
    rw [hL] at hr
    obtain ⟨t, ht, hr⟩ := List.mem_flatMap.1 hr
    have o := hok t ht
    simp only [RT.LL, List.mem_cons, List.not_mem_nil, or_false] at hr
    rcases hr with rfl | rfl
    · exact ⟨rfl, rfl, o.k1.2.2⟩
    · exact ⟨rfl, rfl, o.k2.2.2⟩
  rw [← hL] at h hll hvv
  clear hL
  rw [← hll] at o0 ⊢
  have far : ∀ k (hk : k < L0.length), L0[k].v.ownBlock ≠ some lb := fun k hk => by
    have := h.apart 0 (k + 1) (by simp) (by simpa using hk) (by omega)
    simp only [List.getElem_cons_zero, List.getElem_cons_succ, RowS.apart, Value.ownBlock] at this
    rcases this with h1 | h1
    · cases h1
    · exact fun e => h1 e.symm
  have hsub : Sep w B L0 := h.sub (List.sublist_cons_self _ _)
  refine (apart57 w (fun _ => False) B lb 0 cap L0 ⟨hsub, rfl, fun k hk => ?_, far⟩ hB hlb (by omega) (fun i hi => (hmem _ (List.getElem_mem hi)).2.2) (fun i hi => ⟨(hmem _ (List.getElem_mem hi)).1, (hmem _ (List.getElem_mem hi)).2.1⟩) (fun q hq => hq.elim)).mono ?_
  · rw [Nat.zero_add, o0.cellAt k (by omega), ← hvv, List.getElem?_map, List.getElem?_eq_getElem hk]
    rfl
  · rintro e w' ⟨he, hb⟩
    exact ⟨he, hb.below⟩
end Go.Proofs.Ytdhicfolchpmhaa
