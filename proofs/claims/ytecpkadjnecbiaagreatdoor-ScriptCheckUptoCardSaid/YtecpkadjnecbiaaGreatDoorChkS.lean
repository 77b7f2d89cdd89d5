/- The arguments opened. No condition. -/
import Derived.Test.YtecpkadjnecbiaaGreatDoorProg
import Derived.Test.YtecpkadjnecbiaaGreatDoorChkR
import Derived.Test.YtecpkadjnecbiaaGreatDoorFrame
namespace Go.Proofs.YtecpkadjnecbiaaGreatDoor
open Go.RowKit
set_option linter.unusedVariables false
set_option linter.unusedSimpArgs false

open Go.ChangeShapes Go.WideShapes Go.ChangeAt

/-! ### the arguments opened -/
section
variable {H : Type} {enc : TypeId × Value → H} {w : World}
theorem cells_get {base : Nat} {a : Addr} {n : Nat} {cs : List Value} (h : w.cells? base a n = some cs) : cs.length = n ∧ ∀ j, j < n → w.cell? (a.add j) = cs[j]? := by
  unfold World.cells? at h
  split at h
  · have hl := mapM_some_length h
    rw [List.length_range] at hl
    refine ⟨hl, fun j hj => ?_⟩
    have := mapM_some_get h j j (by simp [hj])
    exact this
  · simp at h
theorem add_plain' (b o j : Nat) : (⟨b, o, none⟩ : Addr).add j = ⟨b, o + j, none⟩ := by
  unfold Addr.add
  split
  · rename_i h; subst h; rfl
  · rfl
/-- A slice that came in, row by row; the fuel falls. -/
theorem rows_open {P : Program} {t e : TypeId} {c fuel : Nat} {v : Value} {y : DataW H × List MemPlace} (ht : P.underlying t = some (.slice e)) (hc : P.cellsOf e = c) (hpos : 0 < c)
    (h : DataW.trod enc P w 0 (fun _ => true) true fuel t [v] = some y) :
    ∃ (a : Option Addr) (b off n cap : Nat) (elems : List (DataW H × List MemPlace)), v = .slice a elems.length cap ∧ (elems.length = 0 ∨ a = some ⟨b, off, none⟩) ∧ n < fuel ∧ Rows.uptoBulkAll (elems.map (·.1)) + 1 ≤ Rows.uptoBulk y.1 ∧
      ∀ i (hi : i < elems.length), ∃ cs : List Value, cs.length = c ∧ (∀ j, j < c → w.cell? ⟨b, off + i * c + j, none⟩ = cs[j]?) ∧ DataW.trod enc P w 0 (fun _ => true) true n e cs = some elems[i] := by
  have hf0 : 0 < fuel := by
    rcases Nat.eq_zero_or_pos fuel with rfl | q
    · simp [DataW.trod] at h
    · exact q
  rcases DataW.trod_slice ht h with ⟨hcs, hx⟩ | ⟨x, l, c', elems, rest, n, hfu, hcs, hx, _, hl, hm, hel, heach, hsp, _⟩
  · simp only [List.cons.injEq, and_true] at hcs
    subst hcs
    refine ⟨none, 0, 0, 0, 0, [], rfl, .inl rfl, hf0, ?_, fun i hi => by simp at hi⟩
    rw [hx]
    simp [Rows.uptoBulk, Rows.uptoBulkAll]
  · simp only [List.cons.injEq, and_true] at hcs
    subst hcs
    have hb : Rows.uptoBulkAll (elems.map (·.1)) + 1 ≤ Rows.uptoBulk y.1 := by rw [hx]; simp only [Rows.uptoBulk]; omega
    have each : ∀ i (hi : i < elems.length), ∃ cs : List Value, cs.length = c ∧ (∀ j, j < c → w.cell? ((x.add (i * c)).add j) = cs[j]?) ∧ DataW.trod enc P w 0 (fun _ => true) true n e cs = some elems[i] := by
      intro i hi
      have h1 := heach i (by omega)
      rw [List.getElem?_eq_getElem hi, Option.bind_eq_some_iff] at h1
      obtain ⟨cs, h2, h3⟩ := h1
      rw [hc] at h2
      obtain ⟨h4, h5⟩ := cells_get h2
      exact ⟨cs, h4, h5, h3⟩
    by_cases h0 : elems.length = 0
    · exact ⟨some x, 0, 0, n, c', elems, by rw [hel], .inl h0, by omega, hb, fun i hi => by omega⟩
    · obtain ⟨b, off, spot⟩ := x
      have hspot : spot = none := by
        obtain ⟨cs, h1, h2, _⟩ := each 0 (by omega)
        have := h2 0 hpos
        rw [List.getElem?_eq_getElem (by omega)] at this
        simpa [Addr.add] using World.cell?_spot this
      subst hspot
      refine ⟨some ⟨b, off, none⟩, b, off, n, c', elems, by rw [hel], .inr rfl, by omega, hb, fun i hi => ?_⟩
      obtain ⟨cs, h1, h2, h3⟩ := each i hi
      refine ⟨cs, h1, fun j hj => ?_, h3⟩
      have := h2 j hj
      rwa [add_plain', add_plain'] at this
theorem pick_sum {α β : Type} (Q : Nat → α → Prop) (μ : α → Nat) (ν : β → Nat) : ∀ (es : List β) (k : Nat), (∀ i (h : i < es.length), ∃ r, Q (k + i) r ∧ μ r + 1 ≤ ν es[i]) → ∃ l : List α, l.length = es.length ∧ (∀ i (h : i < l.length), Q (k + i) l[i]) ∧ (l.map (fun a => μ a + 1)).sum ≤ (es.map ν).sum
  | [], k, _ => ⟨[], rfl, fun i h => by simp at h, Nat.le_refl _⟩
  | e :: es, k, h => by
    obtain ⟨r, h1, h2⟩ := h 0 (by simp)
    obtain ⟨l, h3, h4, h5⟩ := pick_sum Q μ ν es (k + 1) (fun i hi => by
      have := h (i + 1) (by simpa using hi)
      rw [show k + (i + 1) = k + 1 + i by omega] at this
      exact this)
    refine ⟨r :: l, by simp [h3], fun i hi => ?_, by simp only [List.map_cons, List.sum_cons]; simp only [List.getElem_cons_zero] at h2; omega⟩
    cases i with
    | zero => exact h1
    | succ i =>
      have := h4 i (by simpa using hi)
      rw [show k + 1 + i = k + (i + 1) by omega] at this
      exact this
theorem bulk_sum : ∀ l : List (DataW H), Rows.uptoBulkAll l = (l.map Rows.uptoBulk).sum
  | [] => rfl
  | d :: l => by simp only [Rows.uptoBulkAll, List.map_cons, List.sum_cons, bulk_sum l]
/-- a list of records opened -/
theorem rows_list {P : Program} {α : Type} {t e : TypeId} {c fuel : Nat} {v : Value} {y : DataW H × List MemPlace} (ht : P.underlying t = some (.slice e)) (hc : P.cellsOf e = c) (hpos : 0 < c) (R : α → Nat → Nat → Prop) (μ : α → Nat)
    (each : ∀ (n : Nat) (cs : List Value) (z : DataW H × List MemPlace) (b q : Nat), n < fuel → cs.length = c → (∀ j, j < c → w.cell? ⟨b, q + j, none⟩ = cs[j]?) → DataW.trod enc P w 0 (fun _ => true) true n e cs = some z → ∃ a, R a b q ∧ μ a + 1 ≤ Rows.uptoBulk z.1)
    (h : DataW.trod enc P w 0 (fun _ => true) true fuel t [v] = some y) : ∃ l : List α, SlR w none e c R l v ∧ (l.map (fun a => μ a + 1)).sum + 1 ≤ Rows.uptoBulk y.1 := by
  obtain ⟨a, b, off, n, cap, elems, rfl, ha, hn, hb, hE⟩ := rows_open ht hc hpos h
  obtain ⟨l, h1, h2, h3⟩ := pick_sum (fun i r => R r b (off + i * c)) μ (fun z : DataW H × List MemPlace => Rows.uptoBulk z.1) elems 0 (fun i hi => by
    obtain ⟨cs, e1, e2, e3⟩ := hE i hi
    obtain ⟨r, e4, e5⟩ := each n cs _ b (off + i * c) hn e1 e2 e3
    exact ⟨r, by rw [Nat.zero_add]; exact e4, e5⟩)
  refine ⟨l, ⟨a, b, off, cap, by rw [h1], by rw [h1]; exact ha.imp (fun q => ⟨q, rfl⟩) (fun q => ⟨q, Zone.any⟩), fun i hi => by have := h2 i hi; rwa [Nat.zero_add] at this⟩, ?_⟩
  rw [bulk_sum, List.map_map] at hb
  have : (elems.map (Rows.uptoBulk ∘ fun x => x.1)).sum = (elems.map (fun z : DataW H × List MemPlace => Rows.uptoBulk z.1)).sum := rfl
  omega

theorem fld_int {P : Program} {k : IntKind} {t : TypeId} {n : Nat} {v : Value} {y : DataW H × List MemPlace} (ht : P.underlying t = some (.int k)) (h : DataW.trod enc P w 0 (fun _ => true) true n t [v] = some y) :
    ∃ x, v = .int k x ∧ (Lit.int k x).wf = true := by
  obtain ⟨x, h1, h2, h3⟩ := DataW.trod_int ht h
  simp only [List.cons.injEq, and_true] at h1
  exact ⟨x, h1, h3⟩
theorem fld_bool {P : Program} {t : TypeId} {n : Nat} {v : Value} {y : DataW H × List MemPlace} (ht : P.underlying t = some .bool) (h : DataW.trod enc P w 0 (fun _ => true) true n t [v] = some y) :
    ∃ x, v = .bool x := by
  obtain ⟨x, h1, _⟩ := DataW.trod_bool ht h
  simp only [List.cons.injEq, and_true] at h1
  exact ⟨x, h1⟩
theorem fld_str {P : Program} {t : TypeId} {n : Nat} {v : Value} {y : DataW H × List MemPlace} (ht : P.underlying t = some .string) (h : DataW.trod enc P w 0 (fun _ => true) true n t [v] = some y) :
    ∃ x, v = .string x ∧ x.size + 1 = Rows.uptoBulk y.1 := by
  obtain ⟨x, h1, h2, h3⟩ := DataW.trod_string ht h
  simp only [List.cons.injEq, and_true] at h1
  refine ⟨x, h1, ?_⟩
  rw [h2]
  simp [Rows.uptoBulk]
theorem fld {P : Program} {fs : Array Field} {cs : List Value} {xs : List (DataW H × List MemPlace)} {n : Nat}
    (hf : ∀ (i : Nat) (f : Field), fs[i]? = some f → DataW.trod enc P w 0 (fun _ => true) true n f.type ((cs.drop f.offset).take (P.cellsOf f.type)) = xs[i]?)
    (i : Nat) (f : Field) (hi : fs[i]? = some f) (l : List Value) (hl : (cs.drop f.offset).take (P.cellsOf f.type) = l) (T : TypeId) (hT : f.type = T) (y : DataW H × List MemPlace) (hy : xs[i]? = some y) :
    DataW.trod enc P w 0 (fun _ => true) true n T l = some y := by
  have h := hf i f hi
  rw [hl, hT, hy] at h
  exact h
end

theorem cells64 : Tryz.prog.cellsOf 64 = 7 := by kernel_rfl
theorem cells60 : Tryz.prog.cellsOf 60 = 8 := by kernel_rfl
theorem cells56 : Tryz.prog.cellsOf 56 = 2 := by kernel_rfl
theorem cells43 : Tryz.prog.cellsOf 43 = 5 := by kernel_rfl
theorem cells36 : Tryz.prog.cellsOf 36 = 5 := by kernel_rfl
theorem cells39 : Tryz.prog.cellsOf 39 = 6 := by kernel_rfl
def U32 (x : Int) : Prop := 0 ≤ x ∧ x < 4294967296
theorem u32_of {x : Int} (h : (Lit.int .u32 x).wf = true) : U32 x := by
  have := wf_u32.1 h
  unfold U32
  omega
def Exs.wt : Exs → Nat
  | .nil => 0
  | .cons h k r => h.name.size + h.sign.size + k.wt + r.wt + 1
def Exs.Rg : Exs → Prop
  | .nil => True
  | .cons h k r => U32 h.word ∧ k.Rg ∧ r.Rg
def Sts.wt : Sts → Nat
  | .nil => 0
  | .cons h x b e r => h.name.size + h.sign.size + x.wt + b.wt + e.wt + r.wt + 1
def Sts.Rg : Sts → Prop
  | .nil => True
  | .cons _ x b e r => x.Rg ∧ b.Rg ∧ e.Rg ∧ r.Rg
theorem Exs.sz_wt : ∀ l : Exs, l.sz ≤ l.wt
  | .nil => Nat.le_refl _
  | .cons h k r => by have := Exs.sz_wt k; have := Exs.sz_wt r; simp only [Exs.sz, Exs.wt]; omega
theorem Sts.sz_wt : ∀ l : Sts, l.sz ≤ l.wt
  | .nil => Nat.le_refl _
  | .cons h x b e r => by have := Exs.sz_wt x; have := Sts.sz_wt b; have := Sts.sz_wt e; have := Sts.sz_wt r; simp only [Sts.sz, Sts.wt]; omega
theorem Exs.wf_of : ∀ l : Exs, l.wt ≤ 1048576 → l.Rg → l.Wf
  | .nil, _, _ => trivial
  | .cons h k r, hw, hr => by
    simp only [Exs.wt] at hw
    exact ⟨⟨hr.1, by omega, by omega⟩, Exs.wf_of k (by omega) hr.2.1, Exs.wf_of r (by omega) hr.2.2⟩
theorem Sts.wf_of : ∀ l : Sts, l.wt ≤ 1048576 → l.Rg → l.Wf
  | .nil, _, _ => trivial
  | .cons h x b e r, hw, hr => by
    simp only [Sts.wt] at hw
    exact ⟨⟨by omega, by omega⟩, Exs.wf_of x (by omega) hr.1, Sts.wf_of b (by omega) hr.2.1, Sts.wf_of e (by omega) hr.2.2.1, Sts.wf_of r (by omega) hr.2.2.2⟩
def Exs.ofL : List (EH × Exs) → Exs
  | [] => .nil
  | a :: l => .cons a.1 a.2 (Exs.ofL l)
theorem Exs.to_of : ∀ l, (Exs.ofL l).toL = l
  | [] => rfl
  | a :: l => by simp [Exs.ofL, Exs.toL, Exs.to_of l]
theorem Exs.wt_of : ∀ l, (Exs.ofL l).wt = (l.map (fun a : EH × Exs => (a.1.name.size + a.1.sign.size + a.2.wt) + 1)).sum
  | [] => rfl
  | a :: l => by simp only [Exs.ofL, Exs.wt, List.map_cons, List.sum_cons, Exs.wt_of l]; omega
theorem Exs.rg_of : ∀ l, (∀ a ∈ l, U32 a.1.word ∧ a.2.Rg) → (Exs.ofL l).Rg
  | [], _ => trivial
  | a :: l, h => ⟨(h a (by simp)).1, (h a (by simp)).2, Exs.rg_of l (fun b hb => h b (by simp [hb]))⟩
def Sts.ofL : List SB → Sts
  | [] => .nil
  | a :: l => .cons a.1 a.2.1 a.2.2.1 a.2.2.2 (Sts.ofL l)
theorem Sts.to_of : ∀ l, (Sts.ofL l).toL = l
  | [] => rfl
  | a :: l => by simp [Sts.ofL, Sts.toL, Sts.to_of l]
theorem Sts.wt_of : ∀ l, (Sts.ofL l).wt = (l.map (fun a : SB => (a.1.name.size + a.1.sign.size + a.2.1.wt + a.2.2.1.wt + a.2.2.2.wt) + 1)).sum
  | [] => rfl
  | a :: l => by simp only [Sts.ofL, Sts.wt, List.map_cons, List.sum_cons, Sts.wt_of l]; omega
theorem Sts.rg_of : ∀ l, (∀ a : SB, a ∈ l → a.2.1.Rg ∧ a.2.2.1.Rg ∧ a.2.2.2.Rg) → (Sts.ofL l).Rg
  | [], _ => trivial
  | a :: l, h => ⟨(h a (by simp)).1, (h a (by simp)).2.1, (h a (by simp)).2.2, Sts.rg_of l (fun b hb => h b (by simp [hb]))⟩
theorem SlR.each {α : Type} {w : World} {o : Option (Nat → Prop)} {t : TypeId} {n : Nat} {R : α → Nat → Nat → Prop} {l : List α} {v : Value} (h : SlR w o t n R l v) (G : α → Prop) (hG : ∀ a b q, R a b q → G a) : ∀ a ∈ l, G a := by
  obtain ⟨ka, kb, koff, kcap, rfl, y2, y3⟩ := h
  intro a ha
  obtain ⟨i, hi, rfl⟩ := List.getElem_of_mem ha
  exact hG _ _ _ (y3 i hi)

section
variable {H : Type} {enc : TypeId × Value → H} {w : World}
set_option maxRecDepth 100000 in
theorem exs_open : ∀ (fuel : Nat) (v : Value) (y : DataW H × List MemPlace), DataW.trod enc Tryz.prog w 0 (fun _ => true) true fuel 58 [v] = some y → ∃ l : Exs, SlE w true none l v ∧ l.wt + 1 ≤ Rows.uptoBulk y.1 ∧ l.Rg := by
  intro fuel
  induction fuel using Nat.strongRecOn with
  | ind fuel ih =>
    intro v y h
    obtain ⟨l, h1, h2⟩ := rows_list Tryz.underlying58 cells64 (by decide) (fun a b q => ExpR w true none a b q ∧ U32 a.1.word ∧ a.2.Rg) (fun a => a.1.name.size + a.1.sign.size + a.2.wt) (fun n cs z b q hn hl hc ht => by
      obtain ⟨xs, m, hm, hx, _, hxs, hf⟩ := DataW.trod_struct Tryz.underlying64 ht
      match cs, hl with
      | [c0, c1, c2, c3, c4, c5, c6], _ =>
        match xs, hxs with
        | [x0, x1, x2, x3, x4, x5, x6], _ =>
          obtain ⟨y0, rfl, -⟩ := fld_int Tryz.underlying3 (fld hf 0 _ rfl [c0] (by kernel_rfl) 3 rfl x0 rfl)
          obtain ⟨y1, rfl, -⟩ := fld_int Tryz.underlying62 (fld hf 1 _ rfl [c1] (by kernel_rfl) 62 rfl x1 rfl)
          obtain ⟨y2, rfl, w2⟩ := fld_int Tryz.underlying34 (fld hf 2 _ rfl [c2] (by kernel_rfl) 34 rfl x2 rfl)
          obtain ⟨y3, rfl, -⟩ := fld_int Tryz.underlying33 (fld hf 3 _ rfl [c3] (by kernel_rfl) 33 rfl x3 rfl)
          obtain ⟨y4, rfl, s4⟩ := fld_str Tryz.underlying9 (fld hf 4 _ rfl [c4] (by kernel_rfl) 9 rfl x4 rfl)
          obtain ⟨y5, rfl, s5⟩ := fld_str Tryz.underlying9 (fld hf 5 _ rfl [c5] (by kernel_rfl) 9 rfl x5 rfl)
          obtain ⟨kids, hk, hs, hg⟩ := ih m (by omega) c6 x6 (fld hf 6 _ rfl [c6] (by kernel_rfl) 58 rfl x6 rfl)
          refine ⟨(⟨y0, y1, y2, y3, y4, y5⟩, kids), ⟨⟨⟨⟨y0, hc 0 (by omega), fun _ => rfl⟩, hc 1 (by omega), hc 2 (by omega), hc 3 (by omega), hc 4 (by omega), hc 5 (by omega)⟩, ⟨c6, hc 6 (by omega), hk⟩⟩, u32_of w2, hg⟩, ?_⟩
          rw [hx]
          simp only [Rows.uptoBulk, Rows.uptoBulkAll, List.map_cons, List.map_nil]
          omega) h
    refine ⟨Exs.ofL l, SlE_iff.2 (by rw [Exs.to_of]; exact h1.same (fun _ _ _ h => h.1)), by rw [Exs.wt_of]; exact h2, Exs.rg_of l (h1.each _ (fun a b q h => h.2))⟩
set_option maxRecDepth 100000 in
theorem sts_open : ∀ (fuel : Nat) (v : Value) (y : DataW H × List MemPlace), DataW.trod enc Tryz.prog w 0 (fun _ => true) true fuel 37 [v] = some y → ∃ l : Sts, SlS w true none l v ∧ l.wt + 1 ≤ Rows.uptoBulk y.1 ∧ l.Rg := by
  intro fuel
  induction fuel using Nat.strongRecOn with
  | ind fuel ih =>
    intro v y h
    obtain ⟨l, h1, h2⟩ := rows_list Tryz.underlying37 cells60 (by decide) (fun (a : SB) b q => StmR w true none a b q ∧ a.2.1.Rg ∧ a.2.2.1.Rg ∧ a.2.2.2.Rg) (fun a : SB => a.1.name.size + a.1.sign.size + a.2.1.wt + a.2.2.1.wt + a.2.2.2.wt) (fun n cs z b q hn hl hc ht => by
      obtain ⟨xs, m, hm, hx, _, hxs, hf⟩ := DataW.trod_struct Tryz.underlying60 ht
      match cs, hl with
      | [c0, c1, c2, c3, c4, c5, c6, c7], _ =>
        match xs, hxs with
        | [x0, x1, x2, x3, x4, x5, x6, x7], _ =>
          obtain ⟨y0, rfl, -⟩ := fld_int Tryz.underlying3 (fld hf 0 _ rfl [c0] (by kernel_rfl) 3 rfl x0 rfl)
          obtain ⟨y1, rfl, -⟩ := fld_int Tryz.underlying57 (fld hf 1 _ rfl [c1] (by kernel_rfl) 57 rfl x1 rfl)
          obtain ⟨y2, rfl, s2⟩ := fld_str Tryz.underlying9 (fld hf 2 _ rfl [c2] (by kernel_rfl) 9 rfl x2 rfl)
          obtain ⟨y3, rfl, -⟩ := fld_int Tryz.underlying33 (fld hf 3 _ rfl [c3] (by kernel_rfl) 33 rfl x3 rfl)
          obtain ⟨y4, rfl, s4⟩ := fld_str Tryz.underlying9 (fld hf 4 _ rfl [c4] (by kernel_rfl) 9 rfl x4 rfl)
          obtain ⟨ex, hk5, hs5, hg5⟩ := exs_open m c5 x5 (fld hf 5 _ rfl [c5] (by kernel_rfl) 58 rfl x5 rfl)
          obtain ⟨body, hk6, hs6, hg6⟩ := ih m (by omega) c6 x6 (fld hf 6 _ rfl [c6] (by kernel_rfl) 37 rfl x6 rfl)
          obtain ⟨els, hk7, hs7, hg7⟩ := ih m (by omega) c7 x7 (fld hf 7 _ rfl [c7] (by kernel_rfl) 37 rfl x7 rfl)
          refine ⟨(⟨y0, y1, y2, y3, y4⟩, ex, body, els), ⟨⟨⟨⟨y0, hc 0 (by omega), fun _ => rfl⟩, hc 1 (by omega), hc 2 (by omega), hc 3 (by omega), hc 4 (by omega)⟩, ⟨c5, hc 5 (by omega), hk5⟩, ⟨c6, hc 6 (by omega), hk6⟩, ⟨c7, hc 7 (by omega), hk7⟩⟩, hg5, hg6, hg7⟩, ?_⟩
          rw [hx]
          simp only [Rows.uptoBulk, Rows.uptoBulkAll, List.map_cons, List.map_nil]
          omega) h
    refine ⟨Sts.ofL l, SlS_iff.2 (by rw [Sts.to_of]; exact h1.same (fun _ _ _ h => h.1)), by rw [Sts.wt_of]; exact h2, Sts.rg_of l (h1.each _ (fun a b q h => h.2))⟩
theorem sum_len {α : Type} (μ : α → Nat) : ∀ l : List α, l.length ≤ (l.map (fun a => μ a + 1)).sum
  | [] => Nat.le_refl _
  | a :: l => by have := sum_len μ l; simp only [List.map_cons, List.sum_cons, List.length_cons]; omega
theorem sum_mem {α : Type} (μ : α → Nat) : ∀ (l : List α) (a : α), a ∈ l → μ a + 1 ≤ (l.map (fun a => μ a + 1)).sum
  | b :: l, a, h => by
    simp only [List.map_cons, List.sum_cons]
    rcases List.mem_cons.1 h with rfl | h'
    · omega
    · have := sum_mem μ l a h'; omega
def ptot (l : List PW) : Nat := (l.map (fun a : PW => a.1.size + 1)).sum
theorem ptot_len (l : List PW) : l.length ≤ ptot l := sum_len (fun a : PW => a.1.size) l
theorem ptot_mem (l : List PW) (a : PW) (h : a ∈ l) : a.1.size + 1 ≤ ptot l := sum_mem (fun a : PW => a.1.size) l a h
set_option maxRecDepth 100000 in
theorem pars_open (fuel : Nat) (v : Value) (y : DataW H × List MemPlace) (h : DataW.trod enc Tryz.prog w 0 (fun _ => true) true fuel 32 [v] = some y) : ∃ l : List PW, SlPz w none l v ∧ ptot l + 1 ≤ Rows.uptoBulk y.1 := by
  obtain ⟨l, h1, h2⟩ := rows_list Tryz.underlying32 cells56 (by decide) (ParR w) (fun a => a.1.size) (fun n cs z b q hn hl hc ht => by
    obtain ⟨xs, m, hm, hx, _, hxs, hf⟩ := DataW.trod_struct Tryz.underlying56 ht
    match cs, hl with
    | [c0, c1], _ =>
      match xs, hxs with
      | [x0, x1], _ =>
        obtain ⟨y0, rfl, s0⟩ := fld_str Tryz.underlying9 (fld hf 0 _ rfl [c0] (by kernel_rfl) 9 rfl x0 rfl)
        obtain ⟨y1, rfl, -⟩ := fld_int Tryz.underlying33 (fld hf 1 _ rfl [c1] (by kernel_rfl) 33 rfl x1 rfl)
        refine ⟨(y0, y1), ⟨hc 0 (by omega), hc 1 (by omega)⟩, ?_⟩
        rw [hx]
        simp only [Rows.uptoBulk, Rows.uptoBulkAll, List.map_cons, List.map_nil]
        omega) h
  exact ⟨l, h1, h2⟩
set_option maxRecDepth 100000 in
theorem glos_open (fuel : Nat) (v : Value) (y : DataW H × List MemPlace) (h : DataW.trod enc Tryz.prog w 0 (fun _ => true) true fuel 22 [v] = some y) : ∃ l : List GH, SlG w true none l v ∧ l.length + 1 ≤ Rows.uptoBulk y.1 ∧ ∀ a ∈ l, a.name.size + 1 ≤ Rows.uptoBulk y.1 ∧ U32 a.word := by
  obtain ⟨l, h1, h2⟩ := rows_list Tryz.underlying22 cells43 (by decide) (fun a b q => GloR w true a b q ∧ U32 a.word) (fun a => a.name.size) (fun n cs z b q hn hl hc ht => by
    obtain ⟨xs, m, hm, hx, _, hxs, hf⟩ := DataW.trod_struct Tryz.underlying43 ht
    match cs, hl with
    | [c0, c1, c2, c3, c4], _ =>
      match xs, hxs with
      | [x0, x1, x2, x3, x4], _ =>
        obtain ⟨y0, rfl, -⟩ := fld_int Tryz.underlying3 (fld hf 0 _ rfl [c0] (by kernel_rfl) 3 rfl x0 rfl)
        obtain ⟨y1, rfl, s1⟩ := fld_str Tryz.underlying9 (fld hf 1 _ rfl [c1] (by kernel_rfl) 9 rfl x1 rfl)
        obtain ⟨y2, rfl, -⟩ := fld_int Tryz.underlying33 (fld hf 2 _ rfl [c2] (by kernel_rfl) 33 rfl x2 rfl)
        obtain ⟨y3, rfl, -⟩ := fld_int Tryz.underlying34 (fld hf 3 _ rfl [c3] (by kernel_rfl) 34 rfl x3 rfl)
        obtain ⟨y4, rfl, w4⟩ := fld_int Tryz.underlying34 (fld hf 4 _ rfl [c4] (by kernel_rfl) 34 rfl x4 rfl)
        refine ⟨⟨y0, y1, y2, y3, y4⟩, ⟨⟨⟨y0, hc 0 (by omega), fun _ => rfl⟩, hc 1 (by omega), hc 2 (by omega), hc 3 (by omega), hc 4 (by omega)⟩, u32_of w4⟩, ?_⟩
        rw [hx]
        simp only [Rows.uptoBulk, Rows.uptoBulkAll, List.map_cons, List.map_nil]
        omega) h
  exact ⟨l, h1.same (fun _ _ _ h => h.1), by have := sum_len (fun a : GH => a.name.size) l; omega, fun a ha => ⟨by have := sum_mem (fun a : GH => a.name.size) l a ha; omega, h1.each (fun a : GH => U32 a.word) (fun a b q h => h.2) a ha⟩⟩
set_option maxRecDepth 100000 in
theorem hoss_open (fuel : Nat) (v : Value) (y : DataW H × List MemPlace) (h : DataW.trod enc Tryz.prog w 0 (fun _ => true) true fuel 23 [v] = some y) : ∃ l : List HH, SlH w true none l v ∧ l.length + 1 ≤ Rows.uptoBulk y.1 ∧ ∀ a ∈ l, a.name.size + ptot a.params + 1 ≤ Rows.uptoBulk y.1 := by
  obtain ⟨l, h1, h2⟩ := rows_list Tryz.underlying23 cells36 (by decide) (HosR w true none) (fun a => a.name.size + ptot a.params) (fun n cs z b q hn hl hc ht => by
    obtain ⟨xs, m, hm, hx, _, hxs, hf⟩ := DataW.trod_struct Tryz.underlying36 ht
    match cs, hl with
    | [c0, c1, c2, c3, c4], _ =>
      match xs, hxs with
      | [x0, x1, x2, x3, x4], _ =>
        obtain ⟨y0, rfl, -⟩ := fld_int Tryz.underlying3 (fld hf 0 _ rfl [c0] (by kernel_rfl) 3 rfl x0 rfl)
        obtain ⟨y1, rfl, s1⟩ := fld_str Tryz.underlying9 (fld hf 1 _ rfl [c1] (by kernel_rfl) 9 rfl x1 rfl)
        obtain ⟨ps, hp, hs⟩ := pars_open m c2 x2 (fld hf 2 _ rfl [c2] (by kernel_rfl) 32 rfl x2 rfl)
        obtain ⟨y3, rfl, -⟩ := fld_int Tryz.underlying33 (fld hf 3 _ rfl [c3] (by kernel_rfl) 33 rfl x3 rfl)
        obtain ⟨y4, rfl, -⟩ := fld_int Tryz.underlying34 (fld hf 4 _ rfl [c4] (by kernel_rfl) 34 rfl x4 rfl)
        refine ⟨⟨y0, y1, ps, y3, y4⟩, ⟨⟨y0, hc 0 (by omega), fun _ => rfl⟩, hc 1 (by omega), ⟨c2, hc 2 (by omega), hp⟩, hc 3 (by omega), hc 4 (by omega)⟩, ?_⟩
        rw [hx]
        simp only [Rows.uptoBulk, Rows.uptoBulkAll, List.map_cons, List.map_nil]
        omega) h
  exact ⟨l, h1, by have := sum_len (fun a : HH => a.name.size + ptot a.params) l; omega, fun a ha => by have := sum_mem (fun a : HH => a.name.size + ptot a.params) l a ha; omega⟩
set_option maxRecDepth 100000 in
theorem funs_open (fuel : Nat) (v : Value) (y : DataW H × List MemPlace) (h : DataW.trod enc Tryz.prog w 0 (fun _ => true) true fuel 24 [v] = some y) : ∃ l : List FH, SlF w true none l v ∧ l.length + 1 ≤ Rows.uptoBulk y.1 ∧ ∀ a ∈ l, a.name.size + ptot a.params + a.body.wt + 1 ≤ Rows.uptoBulk y.1 ∧ a.body.Rg := by
  obtain ⟨l, h1, h2⟩ := rows_list Tryz.underlying24 cells39 (by decide) (fun a b q => FunR w true none a b q ∧ a.body.Rg) (fun a => a.name.size + ptot a.params + a.body.wt) (fun n cs z b q hn hl hc ht => by
    obtain ⟨xs, m, hm, hx, _, hxs, hf⟩ := DataW.trod_struct Tryz.underlying39 ht
    match cs, hl with
    | [c0, c1, c2, c3, c4, c5], _ =>
      match xs, hxs with
      | [x0, x1, x2, x3, x4, x5], _ =>
        obtain ⟨y0, rfl, -⟩ := fld_int Tryz.underlying3 (fld hf 0 _ rfl [c0] (by kernel_rfl) 3 rfl x0 rfl)
        obtain ⟨y1, rfl, s1⟩ := fld_str Tryz.underlying9 (fld hf 1 _ rfl [c1] (by kernel_rfl) 9 rfl x1 rfl)
        obtain ⟨ps, hp, hs⟩ := pars_open m c2 x2 (fld hf 2 _ rfl [c2] (by kernel_rfl) 32 rfl x2 rfl)
        obtain ⟨y3, rfl, -⟩ := fld_int Tryz.underlying33 (fld hf 3 _ rfl [c3] (by kernel_rfl) 33 rfl x3 rfl)
        obtain ⟨y4, rfl⟩ := fld_bool Tryz.underlying4 (fld hf 4 _ rfl [c4] (by kernel_rfl) 4 rfl x4 rfl)
        obtain ⟨bd, hb, hbs, hbg⟩ := sts_open m c5 x5 (fld hf 5 _ rfl [c5] (by kernel_rfl) 37 rfl x5 rfl)
        refine ⟨⟨y0, y1, ps, y3, y4, bd⟩, ⟨⟨⟨y0, hc 0 (by omega), fun _ => rfl⟩, hc 1 (by omega), ⟨c2, hc 2 (by omega), hp⟩, hc 3 (by omega), hc 4 (by omega), ⟨c5, hc 5 (by omega), hb⟩⟩, hbg⟩, ?_⟩
        rw [hx]
        simp only [Rows.uptoBulk, Rows.uptoBulkAll, List.map_cons, List.map_nil]
        omega) h
  exact ⟨l, h1.same (fun _ _ _ h => h.1), by have := sum_len (fun a : FH => a.name.size + ptot a.params + a.body.wt) l; omega, fun a ha => ⟨by have := sum_mem (fun a : FH => a.name.size + ptot a.params + a.body.wt) l a ha; omega, h1.each (fun a : FH => a.body.Rg) (fun a b q h => h.2) a ha⟩⟩
set_option maxRecDepth 100000 in
theorem unit_open {base : Nat} {v : Value} {d : DataW H} {p : List MemPlace} (hval : Value.okWide Tryz.prog w .any base 26 v) (h : DataW.Trod enc Tryz.prog w 0 (fun _ => true) true 26 v d p) (hs : Rows.uptoBulk d ≤ 1048576) : ∃ u : UT, UIn w true none u v ∧ u.Ok ∧ u.Wf := by
  simp only [Value.okWide, Tryz.underlying26] at hval
  obtain ⟨cs, rfl, hsz, -⟩ := hval
  obtain ⟨fuel, h⟩ := h
  obtain ⟨xs, m, hm, hx, hl, hxs, hf⟩ := DataW.trod_struct Tryz.underlying26 h
  have hc3 : cs.size = 3 := hsz.trans (by kernel_rfl)
  obtain ⟨cl⟩ := cs
  have hl3 : cl.length = 3 := hc3
  simp only [Value.cells] at hf
  match cl, hl3 with
  | [c0, c1, c2], _ =>
    match xs, hxs with
    | [x0, x1, x2], _ =>
      obtain ⟨gs, g1, g2, g3⟩ := glos_open m c0 x0 (fld hf 0 _ rfl [c0] (by kernel_rfl) 22 rfl x0 rfl)
      obtain ⟨hs', h1, h2, h3⟩ := hoss_open m c1 x1 (fld hf 1 _ rfl [c1] (by kernel_rfl) 23 rfl x1 rfl)
      obtain ⟨fs, f1, f2, f3⟩ := funs_open m c2 x2 (fld hf 2 _ rfl [c2] (by kernel_rfl) 24 rfl x2 rfl)
      simp only [Prod.mk.injEq] at hx
      rw [hx.1] at hs
      simp only [Rows.uptoBulk, Rows.uptoBulkAll, List.map_cons, List.map_nil] at hs
      refine ⟨⟨gs, hs', fs⟩, ⟨c0, c1, c2, rfl, g1, h1, f1⟩, ⟨by show gs.length ≤ _; omega, by show hs'.length ≤ _; omega, by show fs.length ≤ _; omega, fun x hx => by have := (h3 x hx); have := ptot_len x.params; omega, fun x hx => by have := (f3 x hx).1; have := ptot_len x.params; omega, fun x hx => by have := (f3 x hx).1; have := x.body.sz_wt; omega⟩, ?_⟩
      exact ⟨fun x hx => ⟨by have := (g3 x hx).1; omega, (g3 x hx).2⟩, fun x hx => ⟨by have := h3 x hx; omega, fun a ha => by have := h3 x hx; have := ptot_mem x.params a ha; omega⟩, fun x hx => ⟨by have := (f3 x hx).1; omega, fun a ha => by have := (f3 x hx).1; have := ptot_mem x.params a ha; omega, Sts.wf_of _ (by have := (f3 x hx).1; omega) (f3 x hx).2⟩⟩
end

end Go.Proofs.YtecpkadjnecbiaaGreatDoor
