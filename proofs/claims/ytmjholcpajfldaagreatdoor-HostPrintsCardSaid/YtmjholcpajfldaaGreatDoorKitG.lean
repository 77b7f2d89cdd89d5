/- Helper lemmas: blocks known whole, what an append leaves, rows that lie apart. No condition. -/
import Derived.Test.YtmjholcpajfldaaGreatDoorKit
import Derived.Deep.RegionLaw
import Derived.Deep.RegionWith
import Derived.Laws.CopyOwn
namespace Go.Proofs.YtmjholcpajfldaaGreatDoor
open Go.RowKit
set_option linter.unusedVariables false
set_option linter.unusedSimpArgs false

theorem own_block {w : World} {base : Nat} {e : TypeId} {g n cap : Nat} {xs : List Value} (h : w.ownsRow base e 1 (.slice (some ⟨g, 0, none⟩) n cap) n xs) :
    ∃ cur : List Value, w.heap[g]? = some (.cells cur.toArray e (0, 0)) ∧ cur.length = cap ∧ cur.take n = xs := by
  obtain ⟨h1, h2⟩ := h
  rcases h2 with ⟨hv, _⟩ | ⟨g', cap', cur, hv, hg, hh, a, b, c, d⟩
  · simp at hv
  · simp only [Value.slice.injEq, Option.some.injEq, Addr.mk.injEq, and_true, true_and] at hv
    obtain ⟨rfl, rfl⟩ := hv
    exact ⟨cur.toList, by simpa using hh, by simpa using c, by simpa using d⟩
theorem own_of_block {w : World} {base : Nat} {e : TypeId} {g n cap : Nat} {xs cur : List Value} (hg : base ≤ g) (h : w.heap[g]? = some (.cells cur.toArray e (0, 0))) (hc : cur.length = cap) (ht : cur.take n = xs) (hn : n ≤ cap) (hm : cap ≤ maxLen) :
    w.ownsRow base e 1 (.slice (some ⟨g, 0, none⟩) n cap) n xs :=
  ⟨by rw [← ht, List.length_take]; omega, .inr ⟨g, cap, cur.toArray, rfl, hg, h, hn, hm, by simpa using hc, by simpa using ht⟩⟩

theorem splice_len {α : Type} (cur : List α) (k : Nat) (cs : List α) (h : k + cs.length ≤ cur.length) : (splice cur k cs).length = cur.length := by
  unfold splice
  simp only [List.length_append, List.length_take, List.length_drop]
  omega
structure Appended (w w' : World) (base : Nat) (e : TypeId) (size : Nat) (v v' : Value) (n m : Nat) (xs news : List Value) : Prop where
  own : w'.ownsRow base e size v' (n + m) (xs ++ news)
  old : w'.ownsRow base e size v n xs
  grown : w.grownBy w' v.ownBlock
  place : v'.ownBlock = v.ownBlock ∨ ∃ g, v'.ownBlock = some g ∧ w.heap.size ≤ g ∧ g < w'.heap.size
  nil : v' = .slice none 0 0 ↔ v = .slice none 0 0 ∧ m = 0

theorem own_take_size {w : World} {base : Nat} {e : TypeId} {g n m cap size : Nat} {xs : List Value} (h : w.ownsRow base e size (.slice (some ⟨g, 0, none⟩) n cap) n xs) (hm : m ≤ n) :
    w.ownsRow base e size (.slice (some ⟨g, 0, none⟩) m cap) m (xs.take (m * size)) := by
  obtain ⟨h1, h2⟩ := h
  have hms : m * size ≤ n * size := Nat.mul_le_mul_right _ hm
  refine ⟨by rw [List.length_take, h1]; omega, ?_⟩
  rcases h2 with ⟨hv, _⟩ | ⟨g', cap', cur, hv, hg, hh, a, b, c, d⟩
  · simp at hv
  · simp only [Value.slice.injEq, Option.some.injEq, Addr.mk.injEq, and_true, true_and] at hv
    obtain ⟨rfl, rfl⟩ := hv
    refine .inr ⟨g, cap, cur, rfl, hg, hh, by omega, b, c, ?_⟩
    rw [← d, List.take_take, Nat.min_eq_left hms]

theorem append_strong {P : Program} (w : World) (base : Nat) (t ty e : TypeId) (i : TypeInfo) (z : Value) (ht : P.underlying t = some (.slice e)) (hi : P.info? e = some i) (hz : i.zero = some z)
    (hzs : z.cells.size = i.size) (hsz : 0 < i.size) (v : Value) (n : Nat) (xs : List Value) (hown : w.ownsRow base e i.size v n xs)
    (a : Addr) (m c : Nat) (news : List Value) (hl : news.length = m * i.size) (hnews : ∀ j u, news[j]? = some u → w.cell? (a.add j) = some u) (h1 : ∀ u ∈ news, u.oneCell' = true)
    (h63 : n + m ≤ maxLen) (hbytes : (n + m) * i.bytes ≤ 140737488355328) (hbase : base ≤ w.heap.size) :
    ∃ v' w', (Builtin.append_ #[t, t] ty #[v, .slice (some a) m c]).run P w = .ok v' w' ∧ Appended w w' base e i.size v v' n m xs news := by
  have hsmall : n + m ≤ 9223372036854775807 := by simp only [maxLen] at h63; omega
  have hxl := hown.1
  have hlen : (xs ++ news).length = (n + m) * i.size := by rw [List.length_append, hxl, hl, Nat.add_mul]
  have fresh : ∀ old : Nat, ∀ (row : Option Nat),
      let cap := grownCap w (n + m) old e
      let w' := w.drew.alloc (.cells (xs.toArray ++ news.toArray ++ Builtin.zeroCells z.cells (cap - (n + m))) e)
      w'.ownsRow base e i.size (.slice (some ⟨w.heap.size, 0, none⟩) (n + m) cap) (n + m) (xs ++ news) ∧ w.grownBy w' row := by
    intro old row cap w'
    have hge : n + m ≤ cap := grownCap_ge w (n + m) old e
    have hcm : cap ≤ maxLen := grownCap_le_maxLen w (n + m) old e h63
    refine ⟨⟨hlen, .inr ⟨w.heap.size, _, _, rfl, hbase, heap_alloc_new w.drew _, hge, hcm, ?_, ?_⟩⟩, ⟨rfl, rfl, rfl, by simp [w'], fun k hk _ => heap_alloc_old w.drew _ hk⟩⟩
    · simp only [Array.size_append, List.size_toArray, size_zeroCells, hzs, hxl, hl, ← Nat.add_mul]
      congr 1
      omega
    · simp only [Array.toList_append, List.append_assoc]
      rw [← List.append_assoc, ← hlen]
      exact List.take_left
  rcases hown.2 with ⟨rfl, rfl⟩ | ⟨g, cap, cur, rfl, hbg, hg, hnc, hcm, hcs, htk⟩
  · have hx : xs = [] := List.eq_nil_of_length_eq_zero (by simpa using hxl)
    subst hx
    by_cases hm : m = 0
    · subst hm
      have hn : news = [] := List.eq_nil_of_length_eq_zero (by simpa using hl)
      subst hn
      refine ⟨.slice none 0 0, w, ?_, ⟨World.ownsRow_nil w base e i.size, World.ownsRow_nil w base e i.size, grown_refl _ _, .inl rfl, by simp⟩⟩
      simp [Builtin.append_, run_underlying ht, sizeOf, typeInfo, hi, Builtin.lenOf, Builtin.firstCells, loadCells, loadCellsFrom]
    · have hb2 : m * i.bytes ≤ 140737488355328 := by simpa using hbytes
      have hr := run_append_nil (P := P) w t ty e i z ht hi hz a m c news hl hnews (by omega) (by omega) (by omega)
      have hf := fresh 0 (Value.ownBlock (.slice none 0 0))
      simp only [Nat.zero_add, List.nil_append, Array.empty_append] at hf ⊢
      refine ⟨_, _, hr, ⟨by simpa using hf.1, World.ownsRow_nil _ _ _ _, hf.2, .inr ⟨w.heap.size, rfl, Nat.le_refl _, by simp⟩, by simp [hm]⟩⟩
  · by_cases hroom : n + m ≤ cap
    · have hfit : n * i.size + news.length ≤ cur.size := by rw [hl, hcs, ← Nat.add_mul]; exact Nat.mul_le_mul_right _ hroom
      have hr := run_append_room (P := P) w t ty e i ht hi g n cap cur hg a m c news hl hnews h1 hroom hfit
      have hown' : (w.setRow g (cur.toList.take (n * i.size) ++ news ++ cur.toList.drop (n * i.size + news.length)).toArray).ownsRow base e i.size (.slice (some ⟨g, 0, none⟩) (n + m) cap) (n + m) (xs ++ news) := by
        refine ⟨hlen, .inr ⟨g, cap, _, rfl, hbg, setRow_heap w g cur _ e _ hg, hroom, hcm, ?_, ?_⟩⟩
        · simp only [List.size_toArray, List.length_append, List.length_take, List.length_drop, Array.length_toList]
          omega
        · rw [htk, ← hlen]
          exact List.take_left
      refine ⟨_, _, hr, ⟨hown', ?_, ⟨rfl, rfl, rfl, by simp, fun k _ hk => setRow_other w g k _ (fun e => hk (by simp [Value.ownBlock, e]))⟩, .inl rfl, by simp⟩⟩
      have h2 := own_take_size hown' (show n ≤ n + m by omega)
      have h3 : (xs ++ news).take (n * i.size) = xs := by rw [← hxl]; exact List.take_left
      rw [h3] at h2
      exact h2
    · have holds : ∀ j u, xs[j]? = some u → w.cell? ((⟨g, 0, none⟩ : Addr).add j) = some u := hown.cells (g := g) rfl
      have hr := run_append_grow (P := P) w t ty e i z ht hi hz ⟨g, 0, none⟩ n cap xs hxl holds a m c news hl hnews (by omega) (by omega) (growslice_fits (by omega) hbytes)
      have hf := fresh cap (Value.ownBlock (.slice (some ⟨g, 0, none⟩) n cap))
      have hf2 := (fresh cap none).2
      refine ⟨_, _, hr, ⟨hf.1, ?_, hf.2, .inr ⟨w.heap.size, rfl, Nat.le_refl _, by simp⟩, by simp⟩⟩
      exact hown.kept hf2 (.inr (by simp [Value.ownBlock]))

/-- Append of what 'buildSlice' has just laid; exactly. -/
theorem wpList_append_str {P : Program} {w : World} {ops : Array Oper} {rest : List Oper} {o : Oper} {a : Act} {Q : Exit → Act → World → Prop} (hgd : o.guard = none) (s x : Operand) (t : TypeId)
    (ho : o.op = .call { callee := .builtin .append, args := #[s, x], argTypes := #[t, t] })
    (base : Nat) (e e' : TypeId) (z : Value) (size bytes m : Nat) (ht : P.underlying t = some (.slice e)) (hinfo : (P.info? e).map (fun i => (i.zero, i.size, i.bytes)) = some (some z, size, bytes))
    (hzs : z.cells.size = size) (hsz : 0 < size)
    (v : Value) (n : Nat) (xs news : List Value) (fr : Nat × Nat) (hown : w.ownsRow base e size v n xs) (hl : news.length = m * size) (h1 : ∀ u ∈ news, u.oneCell' = true)
    (h63 : n + m ≤ maxLen) (hbytes : (n + m) * bytes ≤ 140737488355328) (hbase : base ≤ w.heap.size)
    (hs : a.eval s = v) (hx : a.eval x = .slice (some ⟨w.heap.size, 0, none⟩) m m)
    (h : ∀ v' w', Appended w w' base e size v v' n m xs news → wpList P ops Q rest (a.put o.dst v') w') :
    wpList P ops Q (o :: rest) a (w.alloc (.cells news.toArray e' fr)) := by
  obtain ⟨i, hi, hz0, hz1, hz2⟩ := info_parts hinfo
  subst hz1
  subst hz2
  refine wpList_plain hgd fun K hK => ?_
  obtain ⟨v', w', hr, hA⟩ := append_strong (P := P) (w.alloc (.cells news.toArray e' fr)) base t o.type e i z ht hi hz0 hzs hsz v n xs (hown.alloc _) ⟨w.heap.size, 0, none⟩ m m news hl (by
    intro j u hj
    have hadd : (⟨w.heap.size, 0, none⟩ : Addr).add j = ⟨w.heap.size, j, none⟩ := by unfold Addr.add; split <;> simp_all
    rw [hadd, World.cell?_alloc_mark]; simpa using hj) h1 h63 hbytes (by simp; omega)
  unfold Oper.wp execOp
  simp only [ho, resolve, invoke, builtin, Sem.run_bind, Sem.run_pure, Result.andThen_ok, List.map_toArray, List.map_cons, List.map_nil, hs, hx, hr]
  refine hK _ _ (h v' w' ⟨hA.own, hA.old, grown_trans (World.grownBy_alloc w _ _) hA.grown, ?_, hA.nil⟩)
  rcases hA.place with h | ⟨g, h1, h2, h3⟩
  · exact .inl h
  · exact .inr ⟨g, h1, by simp at h2; omega, h3⟩

/-- another row stays -/
theorem Appended.other {w w' : World} {base base' : Nat} {e e' : TypeId} {size size' : Nat} {v v' u : Value} {n m k : Nat} {xs news ys : List Value} (hA : Appended w w' base e size v v' n m xs news)
    (h : w.ownsRow base' e' size' u k ys) (hne : u.ownBlock = none ∨ u.ownBlock ≠ v.ownBlock) : w'.ownsRow base' e' size' u k ys ∧ (u.ownBlock = none ∨ u.ownBlock ≠ v'.ownBlock) := by
  refine ⟨h.kept hA.grown hne, ?_⟩
  rcases hne with h0 | h0
  · exact .inl h0
  · rcases hA.place with hp | ⟨g, hp, hg, _⟩
    · exact .inr (by rw [hp]; exact h0)
    · cases hu : u.ownBlock with
      | none => exact .inl rfl
      | some q =>
        right
        rw [hp]
        intro hq
        simp only [Option.some.injEq] at hq
        have := (h.lt q hu).2
        omega

theorem Appended.below {w w' : World} {base : Nat} {e : TypeId} {size : Nat} {v v' : Value} {n m : Nat} {xs news : List Value} (hA : Appended w w' base e size v v' n m xs news) (h : w.ownsRow base e size v n xs) (hB : base ≤ w.heap.size) : Below base w w' :=
  (Below.refl base w).grown hA.grown hB (fun k hk => (h.lt k hk).1)

/-- what was made later lies elsewhere -/
theorem own_apart {w1 w2 : World} {b1 b2 : Nat} {e1 e2 : TypeId} {s1 s2 : Nat} {v1 v2 : Value} {n1 n2 : Nat} {x1 x2 : List Value} (h1 : w1.ownsRow b1 e1 s1 v1 n1 x1) (h2 : w2.ownsRow b2 e2 s2 v2 n2 x2) (h : w1.heap.size ≤ b2) : v1.ownBlock = none ∨ v1.ownBlock ≠ v2.ownBlock := by
  cases hu : v1.ownBlock with
  | none => exact .inl rfl
  | some q =>
    right
    intro hq
    have a := (h1.lt q hu).2
    have b := (h2.lt q hq.symm).1
    omega
/-! Rows that lie apart from one another. -/

structure RowS where
  v : Value
  e : TypeId
  size : Nat
  n : Nat
  xs : List Value

def RowS.apart (a b : RowS) : Prop := a.v.ownBlock = none ∨ a.v.ownBlock ≠ b.v.ownBlock
theorem RowS.apart_symm {a b : RowS} (h : a.apart b) : b.apart a := by
  rcases h with h | h
  · cases hb : b.v.ownBlock with
    | none => exact .inl hb
    | some q => exact .inr (by rw [hb, h]; simp)
  · exact .inr (fun e => h e.symm)

/-- Each row is owned; no two share a block. -/
structure Sep (w : World) (B : Nat) (L : List RowS) : Prop where
  own : ∀ i (h : i < L.length), w.ownsRow B L[i].e L[i].size L[i].v L[i].n L[i].xs
  apart : ∀ i j (hi : i < L.length) (hj : j < L.length), i ≠ j → L[i].apart L[j]

theorem Sep.nil (w : World) (B : Nat) : Sep w B [] := ⟨fun i h => by simp at h, fun i j h => by simp at h⟩

/-- one row is turned, and the world with it -/
theorem Sep.turn {w w' : World} {B : Nat} {L : List RowS} (h : Sep w B L) (k : Nat) (hk : k < L.length) (r : RowS) (hg : w.grownBy w' L[k].v.ownBlock) (hr : w'.ownsRow B r.e r.size r.v r.n r.xs)
    (hp : r.v.ownBlock = L[k].v.ownBlock ∨ ∃ g, r.v.ownBlock = some g ∧ w.heap.size ≤ g) : Sep w' B (L.set k r) := by
  refine ⟨fun i hi => ?_, fun i j hi hj hij => ?_⟩
  · rw [List.length_set] at hi
    by_cases hik : k = i
    · subst hik; simpa using hr
    · rw [List.getElem_set_ne hik]
      exact (h.own i hi).kept hg (h.apart i k hi hk (fun e => hik e.symm))
  · rw [List.length_set] at hi hj
    have key : ∀ i (hi : i < L.length), i ≠ k → L[i].apart r := by
      intro i hi hik
      rcases hp with hp | ⟨g, hp, hg2⟩
      · rcases h.apart i k hi hk hik with h1 | h1
        · exact .inl h1
        · exact .inr (by rw [hp]; exact h1)
      · cases hb : L[i].v.ownBlock with
        | none => exact .inl hb
        | some q =>
          refine .inr ?_
          rw [hb, hp]
          intro e
          simp only [Option.some.injEq] at e
          have := ((h.own i hi).lt q hb).2
          omega
    by_cases hik : k = i
    · subst hik
      rw [List.getElem_set_self, List.getElem_set_ne hij]
      exact RowS.apart_symm (key j hj (fun e => hij e.symm))
    · by_cases hjk : k = j
      · subst hjk
        rw [List.getElem_set_self, List.getElem_set_ne hik]
        exact key i hi (fun e => hik e.symm)
      · rw [List.getElem_set_ne hik, List.getElem_set_ne hjk]
        exact h.apart i j hi hj hij

/-- only new blocks, or other rows' -/
theorem Sep.kept {w w' : World} {B : Nat} {L : List RowS} (h : Sep w B L) {row : Option Nat} (hg : w.grownBy w' row) (hn : ∀ i (hi : i < L.length), L[i].v.ownBlock = none ∨ L[i].v.ownBlock ≠ row) : Sep w' B L :=
  ⟨fun i hi => (h.own i hi).kept hg (hn i hi), h.apart⟩

theorem Sep.alloc {w : World} {B : Nat} {L : List RowS} (h : Sep w B L) (o : Obj) : Sep (w.alloc o) B L :=
  h.kept (World.grownBy_alloc w o none) (fun i hi => by cases hq : L[i].v.ownBlock <;> simp)

theorem Sep.drewN {w : World} {B : Nat} {L : List RowS} (h : Sep w B L) (n : Nat) : Sep (w.drewN n) B L := ⟨fun i hi => own_drewN (h.own i hi) n, h.apart⟩
theorem Sep.drew {w : World} {B : Nat} {L : List RowS} (h : Sep w B L) : Sep w.drew B L := ⟨fun i hi => (h.own i hi).drew, h.apart⟩
theorem Sep.below {w w' : World} {B C : Nat} {L : List RowS} (h : Sep w B L) (hb : Below C w w') (hC : w.heap.size ≤ C) : Sep w' B L := ⟨fun i hi => own_mono (h.own i hi) hb hC, h.apart⟩
theorem Sep.base {w : World} {B B' : Nat} {L : List RowS} (h : Sep w B L) (hB : B' ≤ B) : Sep w B' L := ⟨fun i hi => own_base (h.own i hi) hB, h.apart⟩

/-- one row more, that lies apart -/
theorem Sep.push {w : World} {B : Nat} {L : List RowS} (h : Sep w B L) (r : RowS) (hr : w.ownsRow B r.e r.size r.v r.n r.xs) (ha : ∀ i (hi : i < L.length), L[i].apart r) : Sep w B (L ++ [r]) := by
  refine ⟨fun i hi => ?_, fun i j hi hj hij => ?_⟩
  · by_cases h1 : i < L.length
    · rw [List.getElem_append_left h1]; exact h.own i h1
    · rw [List.getElem_append_right (by omega)]; simpa using hr
  · simp only [List.length_append, List.length_singleton] at hi hj
    by_cases h1 : i < L.length <;> by_cases h2 : j < L.length
    · rw [List.getElem_append_left h1, List.getElem_append_left h2]; exact h.apart i j h1 h2 hij
    · rw [List.getElem_append_left h1, List.getElem_append_right (by omega)]; simpa using ha i h1
    · rw [List.getElem_append_left h2, List.getElem_append_right (by omega)]; simpa using RowS.apart_symm (ha j h2)
    · omega

/-- a nil row lies apart of all -/
theorem RowS.apart_nil (a : RowS) (b : RowS) (h : b.v.ownBlock = none) : a.apart b := RowS.apart_symm (.inl h)

/-- a row that was made after all others -/
theorem Sep.apart_new {w : World} {B : Nat} {L : List RowS} (h : Sep w B L) (r : RowS) (hr : ∀ g, r.v.ownBlock = some g → w.heap.size ≤ g) : ∀ i (hi : i < L.length), L[i].apart r := by
  intro i hi
  cases hq : L[i].v.ownBlock with
  | none => exact .inl hq
  | some q =>
    refine .inr ?_
    rw [hq]
    intro e
    have h1 := ((h.own i hi).lt q hq).2
    have h2 := hr q e.symm
    omega

/-- a row that is known to read, behind an append to another row, or to one that goes on from it -/
theorem reads_on {w w' : World} {B B' : Nat} {e e' : TypeId} {size size' : Nat} {v r r' : Value} {n m k : Nat} {xs rs news : List Value} (hA : Appended w w' B e size r r' m k rs news) (hr : w.ownsRow B e size r m rs)
    (h : w.ownsRow B' e' size' v n xs) (hs : 0 < size) (hsame : (v.ownBlock = none ∨ v.ownBlock ≠ r.ownBlock) ∨ (n ≤ m ∧ size' = size)) : w'.ownsRow B' e' size' v n xs := by
  rcases hsame with hne | ⟨hnm, rfl⟩
  · exact h.kept hA.grown hne
  by_cases hne : v.ownBlock = none ∨ v.ownBlock ≠ r.ownBlock
  · exact h.kept hA.grown hne
  obtain ⟨g, hvg, hrg⟩ : ∃ g, v.ownBlock = some g ∧ r.ownBlock = some g := by
    cases hq : v.ownBlock with
    | none => exact absurd (.inl hq) hne
    | some q =>
      refine ⟨q, rfl, ?_⟩
      have : ¬ v.ownBlock ≠ r.ownBlock := fun h => hne (.inr h)
      rw [hq] at this
      exact (Classical.not_not.1 this).symm
  have hold := hA.old
  obtain ⟨h1, h2⟩ := h
  obtain ⟨_, hr2⟩ := hr
  obtain ⟨_, ho2⟩ := hold
  rcases h2 with ⟨rfl, _⟩ | ⟨g1, c1, cur1, rfl, hb1, hh1, hn1, hm1, hs1, ht1⟩
  · simp [Value.ownBlock] at hvg
  rcases hr2 with ⟨rfl, _⟩ | ⟨g2, c2, cur2, rfl, hb2, hh2, hn2, hm2, hs2, ht2⟩
  · simp [Value.ownBlock] at hrg
  simp only [Value.ownBlock, Option.some.injEq] at hvg hrg
  subst hvg
  subst hrg
  rcases ho2 with ⟨hv, _⟩ | ⟨g3, c3, cur3, hv, hb3, hh3, hn3, hm3, hs3, ht3⟩
  · simp at hv
  simp only [Value.slice.injEq, Option.some.injEq, Addr.mk.injEq, and_true, true_and] at hv
  obtain ⟨rfl, rfl⟩ := hv
  rw [hh1] at hh2
  simp only [Option.some.injEq, Obj.cells.injEq] at hh2
  obtain ⟨rfl, rfl, _⟩ := hh2
  have hcc : c1 = c2 := by
    have : c1 * size' = c2 * size' := by rw [← hs1, hs2]
    exact Nat.eq_of_mul_eq_mul_right hs this
  subst hcc
  refine ⟨h1, .inr ⟨g2, c1, cur3, rfl, hb1, hh3, hn1, hm1, hs3, ?_⟩⟩
  have hle : n * size' ≤ m * size' := Nat.mul_le_mul_right _ hnm
  have e1 : cur3.toList.take (n * size') = (cur3.toList.take (m * size')).take (n * size') := by rw [List.take_take, Nat.min_eq_left hle]
  have e2 : cur1.toList.take (n * size') = (cur1.toList.take (m * size')).take (n * size') := by rw [List.take_take, Nat.min_eq_left hle]
  rw [e1, ht3, ← ht2, ← e2, ht1]
end Go.Proofs.YtmjholcpajfldaaGreatDoor
