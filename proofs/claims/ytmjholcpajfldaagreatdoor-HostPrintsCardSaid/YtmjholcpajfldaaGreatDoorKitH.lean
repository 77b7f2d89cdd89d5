/- Helper lemmas: lists that were handed out, marked and grown (elements of one cell). No condition. -/
import Derived.Test.YtmjholcpajfldaaGreatDoorKitG
namespace Go.Proofs.YtmjholcpajfldaaGreatDoor
open Go.RowKit
set_option linter.unusedVariables false
set_option linter.unusedSimpArgs false

/-! What the Apart functions do to lists that were handed out (elements of one cell). -/

def RowS.head (r : RowS) : Value × TypeId × Nat × Nat := (r.v, r.e, r.size, r.n)

/-- phase 1: the lists are written over -/
structure Ap (w : World) (B lb lo : Nat) (L0 L : List RowS) : Prop where
  sep : Sep w B L
  shape : L.map RowS.head = L0.map RowS.head
  cells : ∀ k (h : k < L0.length), w.cell? ⟨lb, lo + k, none⟩ = some L0[k].v
  far : ∀ k (h : k < L0.length), L0[k].v.ownBlock ≠ some lb

theorem Ap.len {w : World} {B lb lo : Nat} {L0 L : List RowS} (h : Ap w B lb lo L0 L) : L.length = L0.length := by
  have := congrArg List.length h.shape
  simpa using this
theorem Ap.at {w : World} {B lb lo : Nat} {L0 L : List RowS} (h : Ap w B lb lo L0 L) (k : Nat) (h1 : k < L.length) (h2 : k < L0.length) : L[k].v = L0[k].v ∧ L[k].e = L0[k].e ∧ L[k].size = L0[k].size ∧ L[k].n = L0[k].n := by
  have e : (L.map RowS.head)[k]? = (L0.map RowS.head)[k]? := by rw [h.shape]
  simp only [List.getElem?_map, List.getElem?_eq_getElem h1, List.getElem?_eq_getElem h2, Option.map_some, Option.some.injEq, RowS.head, Prod.mk.injEq] at e
  exact e

theorem Ap.store {w : World} {B lb lo : Nat} {L0 L : List RowS} (h : Ap w B lb lo L0 L) (k : Nat) (hk : k < L.length) {g n cap : Nat} (hv : L[k].v = .slice (some ⟨g, 0, none⟩) n cap) (hn : L[k].n = n) (hs : L[k].size = 1) (j : Nat) (u : Value) :
    Ap (w.setCell ⟨g, j, none⟩ u) B lb lo L0 (L.set k { L[k] with xs := L[k].xs.set j u }) := by
  have hown := h.sep.own k hk
  rw [hv, hn, hs] at hown
  have hst := hown.stored j u
  refine ⟨h.sep.turn k hk _ (by rw [hv]; exact hst.2) (by rw [hv, hn, hs]; exact hst.1) (.inl rfl), ?_, fun i hi => ?_, h.far⟩
  · rw [List.map_set]
    have e : RowS.head { L[k] with xs := L[k].xs.set j u } = (L.map RowS.head)[k]'(by simpa using hk) := by simp [RowS.head]
    rw [e, List.set_getElem_self]
    exact h.shape
  · have hlen := h.len
    have hne : g ≠ lb := by
      have := h.far k (by omega)
      have h2 := (h.at k hk (by omega)).1
      rw [← h2, hv] at this
      intro e
      exact this (by simp [Value.ownBlock, e])
    exact hst.2.cell (h.cells i hi) (by simp; omega)

/-- the marks of list k, up to place n -/
def Marks (mk : Nat → Nat → Value) (k n : Nat) : List Value := (List.range n).map (mk k)
theorem Marks_len (mk : Nat → Nat → Value) (k n : Nat) : (Marks mk k n).length = n := by simp [Marks]
theorem Marks_succ (mk : Nat → Nat → Value) (k n : Nat) : Marks mk k (n + 1) = Marks mk k n ++ [mk k n] := range_snoc (mk k) n
theorem Marks_get (mk : Nat → Nat → Value) (k n i : Nat) (h : i < n) : (Marks mk k n)[i]? = some (mk k i) := by simp [Marks, h]
theorem Marks_set (mk : Nat → Nat → Value) (k j : Nat) (xs : List Value) (h : j < xs.length) : (Marks mk k j ++ xs.drop j).set j (mk k j) = Marks mk k (j + 1) ++ xs.drop (j + 1) := set_at (mk k) xs j h

/-- phase 1 at list k, place j -/
structure Ap1 (w : World) (B lb lo : Nat) (L0 : List RowS) (mk : Nat → Nat → Value) (k j : Nat) : Prop where
  ex : ∃ L, Ap w B lb lo L0 L ∧ (∀ i (h : i < L.length), i < k → L[i].xs = Marks mk i L[i].n) ∧ (∀ (h : k < L.length) (h0 : k < L0.length), L[k].xs = Marks mk k j ++ L0[k].xs.drop j)
    ∧ (∀ i (h : i < L.length) (h0 : i < L0.length), k < i → L[i].xs = L0[i].xs)

theorem Ap1.start {w : World} {B lb lo : Nat} {L0 : List RowS} (mk : Nat → Nat → Value) (h : Ap w B lb lo L0 L0) : Ap1 w B lb lo L0 mk 0 0 :=
  ⟨L0, h, fun i _ hi => by omega, fun _ _ => by simp [Marks], fun _ _ _ _ => rfl⟩

theorem Ap1.store {w : World} {B lb lo : Nat} {L0 : List RowS} {mk : Nat → Nat → Value} {k j : Nat} (h : Ap1 w B lb lo L0 mk k j) (hk : k < L0.length) {g n cap : Nat} (hv : L0[k].v = .slice (some ⟨g, 0, none⟩) n cap) (hn : L0[k].n = n) (hs : L0[k].size = 1)
    (hx : L0[k].xs.length = n) (hj : j < n) : Ap1 (w.setCell ⟨g, j, none⟩ (mk k j)) B lb lo L0 mk k (j + 1) := by
  obtain ⟨L, hA, h1, h2, h3⟩ := h.ex
  have hl := hA.len
  have hkL : k < L.length := by omega
  obtain ⟨e1, e2, e3, e4⟩ := hA.at k hkL hk
  refine ⟨L.set k { L[k] with xs := L[k].xs.set j (mk k j) }, hA.store k hkL (e1.trans hv) (e4.trans hn) (e3.trans hs) j (mk k j), fun i hi hik => ?_, fun hkk h0 => ?_, fun i hi h0 hik => ?_⟩
  · rw [List.length_set] at hi
    simp only [List.getElem_set_ne (show k ≠ i by omega)]
    exact h1 i hi hik
  · simp only [List.getElem_set_self]
    rw [h2 hkL hk]
    exact Marks_set mk k j _ (by omega)
  · rw [List.length_set] at hi
    simp only [List.getElem_set_ne (show k ≠ i by omega)]
    exact h3 i hi h0 hik

theorem Ap1.next {w : World} {B lb lo : Nat} {L0 : List RowS} {mk : Nat → Nat → Value} {k j : Nat} (h : Ap1 w B lb lo L0 mk k j) (hx : ∀ i (h : i < L0.length), L0[i].xs.length = L0[i].n) (hk : k < L0.length) (hj : j = L0[k].n) : Ap1 w B lb lo L0 mk (k + 1) 0 := by
  obtain ⟨L, hA, h1, h2, h3⟩ := h.ex
  have hl := hA.len
  refine ⟨L, hA, fun i hi hik => ?_, fun hkk h0 => ?_, fun i hi h0 hik => h3 i hi h0 (by omega)⟩
  · by_cases hlt : i < k
    · exact h1 i hi hlt
    · obtain rfl : i = k := by omega
      rw [h2 hi hk, List.drop_eq_nil_of_le (by rw [hx i hk]; omega), List.append_nil, hj, (hA.at i hi hk).2.2.2]
  · rw [h3 (k + 1) hkk h0 (by omega)]
    simp [Marks]

/-- what is read of list k in phase 1 -/
theorem Ap1.cell {w : World} {B lb lo : Nat} {L0 : List RowS} {mk : Nat → Nat → Value} {k j : Nat} (h : Ap1 w B lb lo L0 mk k j) (i : Nat) (hi : i < L0.length) : w.cell? ⟨lb, lo + i, none⟩ = some L0[i].v := by
  obtain ⟨L, hA, _⟩ := h.ex
  exact hA.cells i hi
theorem Ap1.old {w : World} {B lb lo : Nat} {L0 : List RowS} {mk : Nat → Nat → Value} {k j : Nat} (h : Ap1 w B lb lo L0 mk k j) (hk : k < L0.length) {g n cap : Nat} (hv : L0[k].v = .slice (some ⟨g, 0, none⟩) n cap) (hn : L0[k].n = n) (hs : L0[k].size = 1) (hj : j < n) :
    (∃ u, w.cell? ⟨g, j, none⟩ = some u) ∧ w.frozen? ⟨g, j, none⟩ = false ∧ B ≤ g := by
  obtain ⟨L, hA, h1, h2, h3⟩ := h.ex
  have hl := hA.len
  have hkL : k < L.length := by omega
  obtain ⟨e1, e2, e3, e4⟩ := hA.at k hkL hk
  have hown := hA.sep.own k hkL
  rw [e1.trans hv, e4.trans hn, e3.trans hs] at hown
  refine ⟨?_, hown.frozenAt j, (hown.lt g rfl).1⟩
  rw [hown.cellAt j (by omega)]
  have := hown.1
  exact ⟨_, List.getElem?_eq_getElem (by omega)⟩

/-- phase 2: each list is grown; the grown ones are kept. At list k; the last of G has grown by j. -/
structure Ap2 (w : World) (B lb lo H : Nat) (L0 : List RowS) (mk : Nat → Nat → Value) (e eo : TypeId) (gs : Value) (G : List RowS) : Prop where
  sep : Sep w B (⟨gs, eo, 1, G.length, G.map (·.v)⟩ :: G)
  le : G.length ≤ L0.length
  each : ∀ i (h : i < G.length) (h0 : i < L0.length), G[i].e = e ∧ G[i].size = 1 ∧ G[i].n = L0[i].n + 64 ∧ G[i].xs = Marks mk i (L0[i].n + 64) ∧ (G[i].v.ownBlock = L0[i].v.ownBlock ∨ ∃ g, G[i].v.ownBlock = some g ∧ H ≤ g)
  gsb : ∀ g, gs.ownBlock = some g → H ≤ g
  reads : ∀ i (h : i < L0.length), w.ownsRow B e 1 L0[i].v L0[i].n (Marks mk i L0[i].n)
  cells : ∀ k (h : k < L0.length), w.cell? ⟨lb, lo + k, none⟩ = some L0[k].v
  far : ∀ k (h : k < L0.length), L0[k].v.ownBlock ≠ some lb
  lbH : lb < H
  old : ∀ k (h : k < L0.length) g, L0[k].v.ownBlock = some g → g < H
  apart0 : ∀ i j (hi : i < L0.length) (hj : j < L0.length), i ≠ j → L0[i].apart L0[j]
  heap : H ≤ w.heap.size
  base : B ≤ H

theorem Ap1.toAp2 {w : World} {B lb lo : Nat} {L0 : List RowS} {mk : Nat → Nat → Value} {e eo : TypeId} (h : Ap1 w B lb lo L0 mk L0.length 0) (he : ∀ i (h : i < L0.length), L0[i].e = e ∧ L0[i].size = 1) (hap : ∀ i j (hi : i < L0.length) (hj : j < L0.length), i ≠ j → L0[i].apart L0[j]) (hlb : lb < w.heap.size) (hB : B ≤ w.heap.size) :
    Ap2 w B lb lo w.heap.size L0 mk e eo (.slice none 0 0) [] := by
  obtain ⟨L, hA, h1, _, _⟩ := h.ex
  have hl := hA.len
  refine ⟨⟨fun i hi => ?_, fun i j hi hj hij => ?_⟩, Nat.zero_le _, fun i h => by simp at h, fun g hg => by simp [Value.ownBlock] at hg, fun i hi => ?_, hA.cells, hA.far, hlb, fun k hk g hg => ?_, hap, Nat.le_refl _, hB⟩
  · simp only [List.length_singleton] at hi
    obtain rfl : i = 0 := by omega
    exact World.ownsRow_nil w B eo 1
  · simp only [List.length_singleton] at hi hj; omega
  · have hiL : i < L.length := by omega
    obtain ⟨a1, a2, a3, a4⟩ := hA.at i hiL hi
    have := hA.sep.own i hiL
    rw [h1 i hiL (by omega), a1, a2, a3, a4, (he i hi).1, (he i hi).2] at this
    exact this
  · have hiL : k < L.length := by omega
    have := hA.sep.own k hiL
    rw [(hA.at k hiL hk).1] at this
    exact (this.lt g hg).2

/-- phase 2, within: list k is grown by j so far, and is 'cur' -/
structure Ap2c (w : World) (B lb lo H : Nat) (L0 : List RowS) (mk : Nat → Nat → Value) (e eo : TypeId) (gs : Value) (G : List RowS) (cur : Value) (j : Nat) : Prop where
  main : Ap2 w B lb lo H L0 mk e eo gs G
  lt : G.length < L0.length
  own : w.ownsRow B e 1 cur (L0[G.length].n + j) (Marks mk G.length (L0[G.length].n + j))
  place : cur.ownBlock = L0[G.length].v.ownBlock ∨ ∃ g, cur.ownBlock = some g ∧ H ≤ g
  apG : ∀ i (h : i < G.length), G[i].v.ownBlock = none ∨ G[i].v.ownBlock ≠ cur.ownBlock
  apS : gs.ownBlock = none ∨ gs.ownBlock ≠ cur.ownBlock

theorem Ap2.open {w : World} {B lb lo H : Nat} {L0 : List RowS} {mk : Nat → Nat → Value} {e eo : TypeId} {gs : Value} {G : List RowS} (h : Ap2 w B lb lo H L0 mk e eo gs G) (hlt : G.length < L0.length) : Ap2c w B lb lo H L0 mk e eo gs G L0[G.length].v 0 := by
  refine ⟨h, hlt, by simpa using h.reads G.length hlt, .inl rfl, fun i hi => ?_, ?_⟩
  · rcases (h.each i hi (by omega)).2.2.2.2 with hp | ⟨g, hp, hg⟩
    · rw [hp]; exact h.apart0 i G.length (by omega) hlt (by omega)
    · cases hq : L0[G.length].v.ownBlock with
      | none => exact .inr (by rw [hp]; simp)
      | some q =>
        have := h.old _ hlt q hq
        refine .inr ?_
        rw [hp]
        intro e
        simp only [Option.some.injEq] at e
        omega
  · cases hq : gs.ownBlock with
    | none => exact .inl rfl
    | some q =>
      have h1 := h.gsb q hq
      refine .inr ?_
      intro e
      have := h.old _ hlt q e.symm
      omega

/-- a world that keeps all that phase 2 holds, but for one row that is apart of the rest -/
theorem Ap2.move {w w' : World} {B lb lo H : Nat} {L0 : List RowS} {mk : Nat → Nat → Value} {e eo : TypeId} {gs : Value} {G : List RowS} (h : Ap2 w B lb lo H L0 mk e eo gs G) {row : Option Nat} (hg : w.grownBy w' row)
    (h1 : ∀ i (hi : i < G.length), G[i].v.ownBlock = none ∨ G[i].v.ownBlock ≠ row) (h2 : gs.ownBlock = none ∨ gs.ownBlock ≠ row) (h3 : row ≠ some lb) (hr : ∀ i (h : i < L0.length), w'.ownsRow B e 1 L0[i].v L0[i].n (Marks mk i L0[i].n)) :
    Ap2 w' B lb lo H L0 mk e eo gs G := by
  refine ⟨h.sep.kept hg (fun i hi => ?_), h.le, h.each, h.gsb, hr, fun k hk => hg.cell (h.cells k hk) (fun e => h3 e.symm), h.far, h.lbH, h.old, h.apart0, Nat.le_trans h.heap hg.size, h.base⟩
  cases i with
  | zero => exact h2
  | succ i => exact h1 i (by simpa using hi)

theorem Ap2c.grow {w w' : World} {B lb lo H : Nat} {L0 : List RowS} {mk : Nat → Nat → Value} {e eo : TypeId} {gs : Value} {G : List RowS} {cur cur' : Value} {j : Nat} (h : Ap2c w B lb lo H L0 mk e eo gs G cur j)
    (hlt : G.length < L0.length) (hA : Appended w w' B e 1 cur cur' (L0[G.length].n + j) 1 (Marks mk G.length (L0[G.length].n + j)) [mk G.length (L0[G.length].n + j)]) : Ap2c w' B lb lo H L0 mk e eo gs G cur' (j + 1) := by
  have hnew : ∀ v : Value, (∀ g, v.ownBlock = some g → g < w.heap.size) → (v.ownBlock = none ∨ v.ownBlock ≠ cur.ownBlock) → (v.ownBlock = none ∨ v.ownBlock ≠ cur'.ownBlock) := by
    intro v hv hne
    rcases hne with h0 | h0
    · exact .inl h0
    · rcases hA.place with hp | ⟨g, hp, hg, _⟩
      · exact .inr (by rw [hp]; exact h0)
      · cases hq : v.ownBlock with
        | none => exact .inl rfl
        | some q =>
          refine .inr ?_
          rw [hp]
          intro e
          simp only [Option.some.injEq] at e
          have := hv q hq
          omega
  have hGb : ∀ i (hi : i < G.length) g, G[i].v.ownBlock = some g → g < w.heap.size := fun i hi g hg => by
    have := h.main.sep.own (i + 1) (by simpa using hi)
    exact (this.lt g (by simpa using hg)).2
  have hSb : ∀ g, gs.ownBlock = some g → g < w.heap.size := fun g hg => by
    have := h.main.sep.own 0 (by simp)
    exact (this.lt g (by simpa using hg)).2
  have hrow : cur.ownBlock ≠ some lb := by
    rcases h.place with hp | ⟨g, hp, hg⟩
    · rw [hp]; exact h.main.far _ hlt
    · rw [hp]; intro e; simp only [Option.some.injEq] at e; have := h.main.lbH; omega
  refine ⟨h.main.move hA.grown h.apG h.apS hrow (fun i hi => ?_), hlt, ?_, ?_, fun i hi => hnew _ (hGb i hi) (h.apG i hi), hnew _ hSb h.apS⟩
  · refine reads_on hA h.own (h.main.reads i hi) (by decide) ?_
    by_cases hik : i = G.length
    · subst hik; exact .inr ⟨by omega, rfl⟩
    · refine .inl ?_
      rcases h.place with hp | ⟨g, hp, hg⟩
      · rw [hp]; exact h.main.apart0 i G.length hi hlt hik
      · cases hq : L0[i].v.ownBlock with
        | none => exact .inl rfl
        | some q =>
          refine .inr ?_
          rw [hp]
          intro e
          simp only [Option.some.injEq] at e
          have := h.main.old i hi q hq
          omega
  · have := hA.own
    rw [← Marks_succ] at this
    exact this
  · rcases hA.place with hp | ⟨g, hp, hg, _⟩
    · rw [hp]; exact h.place
    · exact .inr ⟨g, hp, Nat.le_trans h.main.heap hg⟩

theorem Ap2c.shut {w w' : World} {B lb lo H : Nat} {L0 : List RowS} {mk : Nat → Nat → Value} {e eo : TypeId} {gs gs' : Value} {G : List RowS} {cur : Value} (h : Ap2c w B lb lo H L0 mk e eo gs G cur 64)
    (hlt : G.length < L0.length) (hA : Appended w w' B eo 1 gs gs' G.length 1 (G.map (·.v)) [cur]) :
    Ap2 w' B lb lo H L0 mk e eo gs' (G ++ [⟨cur, e, 1, L0[G.length].n + 64, Marks mk G.length (L0[G.length].n + 64)⟩]) := by
  have hcurb : ∀ g, cur.ownBlock = some g → g < w.heap.size := fun g hg => (h.own.lt g hg).2
  have hGb : ∀ i (hi : i < G.length) g, G[i].v.ownBlock = some g → g < w.heap.size := fun i hi g hg => by
    have := h.main.sep.own (i + 1) (by simpa using hi)
    exact (this.lt g (by simpa using hg)).2
  have hSapG : ∀ i (hi : i < G.length), G[i].v.ownBlock = none ∨ G[i].v.ownBlock ≠ gs.ownBlock := fun i hi => by
    have := h.main.sep.apart (i + 1) 0 (by simpa using hi) (by simp) (by omega)
    simpa [RowS.apart] using this
  have hcurS : cur.ownBlock = none ∨ cur.ownBlock ≠ gs.ownBlock := by
    rcases h.apS with h0 | h0
    · cases hq : cur.ownBlock with
      | none => exact .inl rfl
      | some q => exact .inr (by rw [h0]; simp)
    · exact .inr (fun e => h0 e.symm)
  have hnew : ∀ v : Value, (∀ g, v.ownBlock = some g → g < w.heap.size) → (v.ownBlock = none ∨ v.ownBlock ≠ gs.ownBlock) → (v.ownBlock = none ∨ v.ownBlock ≠ gs'.ownBlock) := by
    intro v hv hne
    rcases hne with h0 | h0
    · exact .inl h0
    · rcases hA.place with hp | ⟨g, hp, hg, _⟩
      · exact .inr (by rw [hp]; exact h0)
      · cases hq : v.ownBlock with
        | none => exact .inl rfl
        | some q =>
          refine .inr ?_
          rw [hp]
          intro e
          simp only [Option.some.injEq] at e
          have := hv q hq
          omega
  have hfl : ∀ v : Value, v.ownBlock = none ∨ v.ownBlock ≠ gs'.ownBlock → gs'.ownBlock = none ∨ gs'.ownBlock ≠ v.ownBlock := by
    intro v hv
    cases hq : gs'.ownBlock with
    | none => exact .inl rfl
    | some q =>
      rcases hv with h0 | h0
      · exact .inr (by rw [h0]; simp)
      · exact .inr (fun e => h0 (by rw [hq]; exact e.symm))
  have hgslb : gs.ownBlock ≠ some lb := by
    intro e
    have := h.main.gsb lb e
    have := h.main.lbH
    omega
  have hLG : ∀ i (hi : i < L0.length), L0[i].v.ownBlock = none ∨ L0[i].v.ownBlock ≠ gs.ownBlock := by
    intro i hi
    cases hq : L0[i].v.ownBlock with
    | none => exact .inl rfl
    | some q =>
      refine .inr ?_
      intro e
      have h1 := h.main.old i hi q hq
      have h2 := h.main.gsb q e.symm
      omega
  have hlen : (G ++ [(⟨cur, e, 1, L0[G.length].n + 64, Marks mk G.length (L0[G.length].n + 64)⟩ : RowS)]).length = G.length + 1 := by simp
  refine ⟨⟨fun i hi => ?_, fun i j hi hj hij => ?_⟩, by rw [hlen]; omega, fun i hi h0 => ?_, fun g hg => ?_, fun i hi => (h.main.reads i hi).kept hA.grown (hLG i hi), fun k hk => hA.grown.cell (h.main.cells k hk) (fun e => hgslb e.symm), h.main.far, h.main.lbH, h.main.old, h.main.apart0, Nat.le_trans h.main.heap hA.grown.size, h.main.base⟩
  · cases i with
    | zero =>
      have := hA.own
      simpa using this
    | succ i =>
      simp only [List.length_cons, hlen] at hi
      simp only [List.getElem_cons_succ]
      by_cases h1 : i < G.length
      · rw [List.getElem_append_left h1]
        have := h.main.sep.own (i + 1) (by simpa using h1)
        simp only [List.getElem_cons_succ] at this
        exact this.kept hA.grown (hSapG i h1)
      · rw [List.getElem_append_right (by omega)]
        have : i = G.length := by omega
        subst this
        simpa using h.own.kept hA.grown hcurS
  · have hb : ∀ i (hi : i < G.length + 1), ((G ++ [(⟨cur, e, 1, L0[G.length].n + 64, Marks mk G.length (L0[G.length].n + 64)⟩ : RowS)])[i]'(by rw [hlen]; exact hi)).v.ownBlock = none ∨ ((G ++ [(⟨cur, e, 1, L0[G.length].n + 64, Marks mk G.length (L0[G.length].n + 64)⟩ : RowS)])[i]'(by rw [hlen]; exact hi)).v.ownBlock ≠ gs'.ownBlock := by
      intro i hi
      by_cases h1 : i < G.length
      · simp only [List.getElem_append_left h1]; exact hnew _ (hGb i h1) (hSapG i h1)
      · have : i = G.length := by omega
        subst this
        simpa using hnew _ hcurb hcurS
    cases i with
    | zero =>
      cases j with
      | zero => omega
      | succ j =>
        simp only [List.length_cons, hlen] at hj
        exact hfl _ (hb j (by omega))
    | succ i =>
      simp only [List.length_cons, hlen] at hi
      cases j with
      | zero => exact hb i (by omega)
      | succ j =>
        simp only [List.length_cons, hlen] at hj
        simp only [List.getElem_cons_succ]
        by_cases h1 : i < G.length <;> by_cases h2 : j < G.length
        · rw [List.getElem_append_left h1, List.getElem_append_left h2]
          have := h.main.sep.apart (i + 1) (j + 1) (by simpa using h1) (by simpa using h2) (by omega)
          simpa using this
        · rw [List.getElem_append_left h1, List.getElem_append_right (by omega)]
          have : j = G.length := by omega
          subst this
          simpa [RowS.apart] using h.apG i h1
        · rw [List.getElem_append_left h2, List.getElem_append_right (by omega)]
          have : i = G.length := by omega
          subst this
          refine RowS.apart_symm ?_
          simpa [RowS.apart] using h.apG j h2
        · omega
  · rw [hlen] at hi
    by_cases h1 : i < G.length
    · rw [List.getElem_append_left h1]; exact h.main.each i h1 h0
    · have : i = G.length := by omega
      subst this
      rw [List.getElem_append_right (by omega)]
      simp only [Nat.sub_self, List.getElem_cons_zero]
      exact ⟨by simp, by simp, by simp, by simp, h.place⟩
  · rcases hA.place with hp | ⟨q, hp, hq, _⟩
    · exact h.main.gsb g (by rw [← hp]; exact hg)
    · rw [hp] at hg
      simp only [Option.some.injEq] at hg
      have := h.main.heap
      omega

/-- what only new blocks leave as it was -/
theorem Ap1.kept {w w' : World} {B lb lo : Nat} {L0 : List RowS} {mk : Nat → Nat → Value} {k j : Nat} (h : Ap1 w B lb lo L0 mk k j) (hg : w.grownBy w' none) : Ap1 w' B lb lo L0 mk k j := by
  obtain ⟨L, hA, r⟩ := h.ex
  exact ⟨L, ⟨hA.sep.kept hg (fun i hi => by cases L[i].v.ownBlock <;> simp), hA.shape, fun k hk => hg.cell (hA.cells k hk) (by simp), hA.far⟩, r⟩
theorem Ap2.kept {w w' : World} {B lb lo H : Nat} {L0 : List RowS} {mk : Nat → Nat → Value} {e eo : TypeId} {gs : Value} {G : List RowS} (h : Ap2 w B lb lo H L0 mk e eo gs G) (hg : w.grownBy w' none) : Ap2 w' B lb lo H L0 mk e eo gs G :=
  h.move hg (fun i hi => by cases G[i].v.ownBlock <;> simp) (by cases gs.ownBlock <;> simp) (by simp) (fun i hi => (h.reads i hi).kept hg (by cases L0[i].v.ownBlock <;> simp))
theorem Ap2c.kept {w w' : World} {B lb lo H : Nat} {L0 : List RowS} {mk : Nat → Nat → Value} {e eo : TypeId} {gs : Value} {G : List RowS} {cur : Value} {j : Nat} (h : Ap2c w B lb lo H L0 mk e eo gs G cur j) (hg : w.grownBy w' none) : Ap2c w' B lb lo H L0 mk e eo gs G cur j :=
  ⟨h.main.kept hg, h.lt, h.own.kept hg (by cases cur.ownBlock <;> simp), h.place, h.apG, h.apS⟩
theorem grownBy_drew (w : World) (row : Option Nat) : w.grownBy w.drew row := ⟨rfl, rfl, rfl, Nat.le_refl _, fun _ _ _ => rfl⟩

theorem own_any_shape {w : World} {base : Nat} {e : TypeId} {size : Nat} {v : Value} {n : Nat} {xs : List Value} (h : w.ownsRow base e size v n xs) :
    ∃ ao cap, v = .slice ao n cap ∧ (n = 0 ∨ ∃ g, ao = some ⟨g, 0, none⟩) := by
  obtain ⟨h1, h2⟩ := h
  rcases h2 with ⟨hv, h2⟩ | ⟨g, cap, cur, hv, hg, hh, a, b, c⟩
  · exact ⟨none, 0, by rw [hv, h2], .inl h2⟩
  · exact ⟨_, cap, hv, .inr ⟨g, rfl⟩⟩

/-- two lists, of which a new block holds the headers -/
theorem ap_two {w : World} {B n2 n3 : Nat} {e eo : TypeId} {v2 v3 : Value} {x2 x3 : List Value} (h2 : w.ownsRow B e 1 v2 n2 x2) (h3 : w.ownsRow B e 1 v3 n3 x3) (hne : v2.ownBlock = none ∨ v2.ownBlock ≠ v3.ownBlock) :
    Ap (w.alloc (.cells #[v2, v3] eo)) B w.heap.size 0 [⟨v2, e, 1, n2, x2⟩, ⟨v3, e, 1, n3, x3⟩] [⟨v2, e, 1, n2, x2⟩, ⟨v3, e, 1, n3, x3⟩] := by
  refine ⟨⟨fun i hi => ?_, fun i j hi hj hij => ?_⟩, rfl, fun k hk => ?_, fun k hk => ?_⟩
  · match i, hi with
    | 0, _ => exact h2.alloc _
    | 1, _ => exact h3.alloc _
  · match i, j, hi, hj with
    | 0, 0, _, _ => exact absurd rfl hij
    | 1, 1, _, _ => exact absurd rfl hij
    | 0, 1, _, _ => exact hne
    | 1, 0, _, _ => exact RowS.apart_symm (a := ⟨v2, e, 1, n2, x2⟩) (b := ⟨v3, e, 1, n3, x3⟩) hne
  · match k, hk with
    | 0, _ => simp
    | 1, _ => simp
  · match k, hk with
    | 0, _ => intro h; have := (h2.lt _ h).2; omega
    | 1, _ => intro h; have := (h3.lt _ h).2; omega

end Go.Proofs.YtmjholcpajfldaaGreatDoor
