/- LittleSums: its argument opened, the walk met. -/
import Derived.Test.YtdhicfolchpmhaaFrame
import Derived.Test.YtdhicfolchpmhaaWalkD
namespace Go.Proofs.Ytdhicfolchpmhaa
open Go.ChangeShapes Go.WideShapes Go.ChangeAt Go.RowKit
set_option linter.unusedVariables false
set_option linter.unusedSimpArgs false

section
variable {H : Type} {enc : TypeId × Value → H} {w : World}

theorem weightsAll_mem {P : Program} {e : TypeId} {l : List (DataW H)} {d : DataW H} (h : d ∈ l) : ∀ n ∈ d.weights P e, n ∈ DataW.weightsAll P e l := by
  induction l with
  | nil => cases h
  | cons x r ih =>
    intro n hn
    simp only [DataW.weightsAll, List.mem_append]
    rcases List.mem_cons.1 h with rfl | h'
    · exact .inl hn
    · exact .inr (ih h' n hn)

theorem pick_list {α : Type} (Q : Nat → α → Prop) : ∀ n, (∀ i, i < n → ∃ r, Q i r) → ∃ l : List α, l.length = n ∧ ∀ i (h : i < l.length), Q i l[i]
  | 0, _ => ⟨[], rfl, fun i h => by simp at h⟩
  | n + 1, h => by
    obtain ⟨l, h1, h2⟩ := pick_list Q n (fun i hi => h i (by omega))
    obtain ⟨r, hr⟩ := h n (by omega)
    refine ⟨l ++ [r], by simp [h1], fun i hi => ?_⟩
    by_cases hin : i < l.length
    · rw [List.getElem_append_left hin]; exact h2 i hin
    · have : i = n := by simp at hi; omega
      subst this
      rw [List.getElem_append_right (by omega)]
      simpa using hr

/-- the three facts of one integer field -/
theorem fld_int {P : Program} {k : IntKind} {t : TypeId} {n : Nat} {v : Value} {y : DataW H × List MemPlace} (ht : P.underlying t = some (.int k)) (h : DataW.trod enc P w 0 (fun _ => true) true n t [v] = some y) :
    ∃ x, v = .int k x ∧ (Lit.int k x).wf = true := by
  obtain ⟨x, h1, _, h2⟩ := DataW.trod_int ht h
  simp only [List.cons.injEq, and_true] at h1
  exact ⟨x, h1, h2⟩
theorem fld_bool {P : Program} {t : TypeId} {n : Nat} {v : Value} {y : DataW H × List MemPlace} (ht : P.underlying t = some .bool) (h : DataW.trod enc P w 0 (fun _ => true) true n t [v] = some y) :
    ∃ x, v = .bool x := by
  obtain ⟨x, h1, _⟩ := DataW.trod_bool ht h
  simp only [List.cons.injEq, and_true] at h1
  exact ⟨x, h1⟩
theorem fld_ints {P : Program} {k : IntKind} {t e : TypeId} {n : Nat} {v : Value} {y : DataW H × List MemPlace} (ht : P.underlying t = some (.slice e)) (he : P.underlying e = some (.int k)) (hc : P.cellsOf e = 1)
    (h : DataW.trod enc P w 0 (fun _ => true) true n t [v] = some y) :
    ∃ (ao : Option Addr) (l rest : List Int) (cap : Nat), v = .slice ao l.length cap ∧ Ints k w ao l ∧ l.length + rest.length = cap ∧ cap ≤ maxLen ∧ ((y.1 = .nil ∧ cap = 0) ∨ y.1 = .slice (lits k l) (lits k rest)) := by
  rcases DataW.trod_slice ht h with ⟨hcs, hx⟩ | ⟨a, len, cap, elems, rest, m, _, hcs, hx, _, hl, hm, hel, heach, hsp, _⟩
  · simp only [List.cons.injEq, and_true] at hcs
    subst hcs
    exact ⟨none, [], [], 0, rfl, Ints.nil _ _ _, rfl, by simp [maxLen], .inl ⟨by rw [hx], rfl⟩⟩
  · simp only [List.cons.injEq, and_true] at hcs
    subst hcs
    obtain ⟨l, rest, h1, h2, h3, h4, h5⟩ := open_ints_at (d := y.1) (p := y.2) (a := some a) (len := len) (cap := cap) ht he hc ⟨n, h⟩
    subst h1
    exact ⟨some a, l, rest, cap, rfl, h2, h3, h4, h5⟩

theorem fld {P : Program} {fs : Array Field} {cs : List Value} {xs : List (DataW H × List MemPlace)} {n : Nat}
    (hf : ∀ (i : Nat) (f : Field), fs[i]? = some f → DataW.trod enc P w 0 (fun _ => true) true n f.type ((cs.drop f.offset).take (P.cellsOf f.type)) = xs[i]?) (hx : xs.length = fs.size)
    (i : Nat) (f : Field) (hi : fs[i]? = some f) (c : Nat) (hc : P.cellsOf f.type = c) (l : List Value) (hl : (cs.drop f.offset).take c = l) (T : TypeId) (hT : f.type = T) :
    ∃ y, xs[i]? = some y ∧ DataW.trod enc P w 0 (fun _ => true) true n T l = some y := by
  have h := hf i f hi
  rw [hc, hl, hT] at h
  have hlt : i < xs.length := by rw [hx]; exact (Array.getElem?_eq_some_iff.1 hi).1
  exact ⟨xs[i], List.getElem?_eq_getElem hlt, by rw [h]; exact List.getElem?_eq_getElem hlt⟩

/-- what a slice of integers weighs -/
theorem ints_weight {P : Program} {k : IntKind} {t e : TypeId} {l rest : List Int} {cap : Nat} {d : DataW H} (ht : P.underlying t = some (.slice e)) (hc : l.length + rest.length = cap) (hd : (d = .nil ∧ cap = 0) ∨ d = .slice (lits k l) (lits k rest))
    (hw : ∀ n ∈ d.weights P t, n ≤ reachBytes) : cap * P.bytesOf e ≤ 140737488351232 := by
  rcases hd with ⟨rfl, rfl⟩ | rfl
  · simp
  · have := hw ((l.length + rest.length) * P.bytesOf e) (by simp [DataW.weights, ht, lits])
    rw [hc] at this
    exact this
end

theorem bytes5 : Try.prog.bytesOf 5 = 1 := by kernel_rfl
theorem bytes30 : Try.prog.bytesOf 30 = 48 := by kernel_rfl
theorem cells30 : Try.prog.cellsOf 30 = 5 := by kernel_rfl
theorem cells5 : Try.prog.cellsOf 5 = 1 := by kernel_rfl

set_option maxRecDepth 100000 in
theorem sums_top (w : World) {H : Type} {enc : TypeId × Value → H} {base : Nat} {p : List MemPlace} (v : Value) (d : DataW H) (hval : Value.okWide Try.prog w .any base 28 v) (h : DataW.Trod enc Try.prog w 0 (fun _ => true) true 28 v d p)
    (hw : ∀ n ∈ d.weights Try.prog 28, n ≤ reachBytes) :
    Calls Try.prog 5 #[v] w fun e w' => e = .returned (.bool true) ∧ Below w.heap.size w w' := by
  obtain ⟨a, len, cap, rfl⟩ := okWide_slice Try.underlying28 hval
  obtain ⟨b, off, n, elems, rest, hao, hel, hcap, hmax, hd, heach⟩ := open_rows Try.underlying28 cells30 (by decide) h
  by_cases h0 : len = 0
  · subst h0; exact sums_empty w a cap
  rcases hao with h1 | rfl
  · exact absurd h1 h0
  have hds : d = .slice (elems.map (·.1)) (rest.map (·.1)) := by
    rcases hd with ⟨_, h1⟩ | h1
    · omega
    · exact h1
  subst hds
  have hlen : len * 48 ≤ 140737488351232 := by
    have := hw ((elems.map (·.1)).length * 48 + (rest.map (·.1)).length * 48) (by
      rw [← Nat.add_mul, ← bytes30]
      simp [DataW.weights, Try.underlying28])
    simp only [List.length_map, reachBytes] at this
    omega
  have each : ∀ i, i < len → ∃ r : SumRow, r.Ok w b (off + i * 5) := by
    intro i hi
    obtain ⟨cs, y, hcs, hcell, hy, ht⟩ := heach i hi
    obtain ⟨xs, m, _, hx, hl5, hxs, hf⟩ := DataW.trod_struct Try.underlying30 ht
    match cs, hcs with
    | [c0, c1, c2, c3, c4], _ =>
      obtain ⟨y0, z0, t0⟩ := fld hf hxs 0 _ rfl 1 (by kernel_rfl) [c0] rfl 4 rfl
      obtain ⟨y1, z1, t1⟩ := fld hf hxs 1 _ rfl 1 (by kernel_rfl) [c1] rfl 23 rfl
      obtain ⟨y2, z2, t2⟩ := fld hf hxs 2 _ rfl 1 (by kernel_rfl) [c2] rfl 24 rfl
      obtain ⟨y3, z3, t3⟩ := fld hf hxs 3 _ rfl 1 (by kernel_rfl) [c3] rfl 24 rfl
      obtain ⟨y4, z4, t4⟩ := fld hf hxs 4 _ rfl 1 (by kernel_rfl) [c4] rfl 3 rfl
      obtain ⟨bj, rfl⟩ := fld_bool Try.underlying4 t0
      obtain ⟨ao, l, rst, cp, rfl, hI, hc1, hc2, hd1⟩ := fld_ints Try.underlying23 Try.underlying5 cells5 t1
      obtain ⟨xa, rfl, wa⟩ := fld_int Try.underlying24 t2
      obtain ⟨xb, rfl, wb⟩ := fld_int Try.underlying24 t3
      obtain ⟨xn, rfl, wn⟩ := fld_int Try.underlying3 t4
      have hsize : cp * Try.prog.bytesOf 5 ≤ 140737488351232 := by
        refine ints_weight Try.underlying23 hc1 hd1 (fun q hq => hw q ?_)
        have hm : y.1 ∈ elems.map (·.1) := List.mem_map_of_mem (List.mem_of_getElem? hy)
        have h2 : q ∈ y.1.weights Try.prog 30 := by
          rw [hx]
          simp only [DataW.weights, Try.underlying30]
          exact DataW.weights_mem_each (j := 1) (t := 23) rfl (by simp [z1]) q hq
        have h3 := weightsAll_mem hm q h2
        simp only [DataW.weights, Try.underlying28, List.mem_cons, List.mem_append]
        exact .inr (.inl h3)
      rw [bytes5] at hsize
      exact ⟨⟨bj, ao, cp, l, xa, xb, xn⟩, by simpa using hcell 0 (by decide), by simpa using hcell 1 (by decide), by simpa using hcell 2 (by decide), by simpa using hcell 3 (by decide), by simpa using hcell 4 (by decide), hI, (by show l.length ≤ 140737488351232; omega), wf_u32.1 wa, wf_u32.1 wb, wf_i64.1 wn⟩
  obtain ⟨rows, hrl, hrr⟩ := pick_list (fun i (r : SumRow) => r.Ok w b (off + i * 5)) len each
  exact sums_walk w b off len cap rows hrl.symm (by omega) hrr
end Go.Proofs.Ytdhicfolchpmhaa
