/- Walks and plain laws, merged: FrL. No condition. -/
import Derived.Test.YtlgneiaenanfaaaGreatDoorKq25
namespace Go.Proofs.YtlgneiaenanfaaaGreatDoor
open Go.RowKit
set_option linter.unusedVariables false
set_option linter.unusedSimpArgs false
set_option maxRecDepth 100000
set_option maxHeartbeats 64000000
section
set_option maxRecDepth 100000
open Go
structure T1 (s : ByteArray) (i : Nat) (neg : Bool) : Prop where
 le : i ≤ s.size
 tx : bI s = if neg then 45 :: (bI s).drop i else (bI s).drop i
 nm : neg = false → ∀ r, (bI s).drop i ≠ 45 :: r
 ii : i = if neg then 1 else 0
theorem T1.inf {s : ByteArray} {i : Nat} {neg : Bool} (h : T1 s i neg) {r : List Int} (hr : (bI s).drop i = 105 :: r) : scanR (bI s) = wordR [105, 110, 102] ((bI s).drop i) i := by
 have h1 := h.tx
 have h2 := h.ii
 cases neg
 ·simp only [Bool.false_eq_true, if_false] at h1 h2
  rw [h2] at hr ⊢
  rw [List.drop_zero] at hr ⊢
  rw [hr]
  rfl
 ·simp only [if_true] at h1 h2
  rw [h2] at hr h1 ⊢
  rw [hr] at h1 ⊢
  rw [h1]
  rfl
theorem T1.nan {s : ByteArray} {i : Nat} (h : T1 s i false) {r : List Int} (hr : (bI s).drop i = 110 :: r) : scanR (bI s) = wordR [110, 97, 110] ((bI s).drop i) i := by
 have h2 := h.ii
 simp only [Bool.false_eq_true, if_false] at h2
 subst h2
 rw [List.drop_zero] at hr ⊢
 rw [hr]
 rfl
theorem T1.num {s : ByteArray} {i : Nat} {neg : Bool} (h : T1 s i neg) (h1 : ∀ r, (bI s).drop i ≠ 105 :: r) (h2 : neg = false → ∀ r, (bI s).drop i ≠ 110 :: r) : scanR (bI s) = numR ((bI s).drop i) i := by
 have h3 := h.tx
 have h4 := h.ii
 have h5 := h.nm
 cases neg
 ·simp only [Bool.false_eq_true, if_false] at h4
  subst h4
  rw [List.drop_zero] at h1 h2 h5 ⊢
  replace h2 := h2 rfl
  replace h5 := h5 rfl
  clear h3 h
  generalize bI s = l at *
  unfold scanR
  split
  ·exact absurd rfl (h5 _)
  ·exact absurd rfl (h5 _)
  ·exact absurd rfl (h1 _)
  ·exact absurd rfl (h2 _)
  ·rfl
 ·simp only [if_true] at h3 h4
  subst h4
  generalize hl : (bI s).drop 1 = l at *
  rw [h3]
  cases l with
  | nil => rfl
  | cons c r =>
   have : c ≠ 105 := fun e => h1 r (by rw [e])
   unfold scanR
   split
   ·rename_i heq; injection heq with _ heq; injection heq with h6 _; exact absurd h6 this
   ·rename_i heq; injection heq with _ heq; rw [heq]
   ·rename_i heq; injection heq with h6 _; exact absurd h6 (by decide)
   ·rename_i heq; injection heq with h6 _; exact absurd h6 (by decide)
   ·rename_i hn1 hn2 hn3 hn4; exact absurd rfl (hn2 _)
structure T2 (s : ByteArray) (i : Nat) (neg h : Bool) : Prop where
 le : i ≤ s.size
 tx : bI s = if neg then 45 :: (if h then 48 :: 120 :: (bI s).drop i else (bI s).drop i) else (if h then 48 :: 120 :: (bI s).drop i else (bI s).drop i)
 eq : scanR (bI s) = if rowR (pD h) ((bI s).drop i) = 0 then some i else tailR h (((bI s).drop i).drop (rowR (pD h) ((bI s).drop i))) (i + rowR (pD h) ((bI s).drop i))
theorem T1.hex {s : ByteArray} {i : Nat} {neg : Bool} (h : T1 s i neg) (hn : scanR (bI s) = numR ((bI s).drop i) i) {r : List Int} (hr : (bI s).drop i = 48 :: 120 :: r) (h2 : i + 2 ≤ s.size) : T2 s (i + 2) neg true := by
 have e : (bI s).drop (i + 2) = r := by rw [← List.drop_drop, hr]; rfl
 refine ⟨h2, ?_, ?_⟩
 ·rw [e]
  have h3 := h.tx
  rw [hr] at h3
  exact h3
 ·rw [hn, hr, e]
  rfl
theorem T1.dec {s : ByteArray} {i : Nat} {neg : Bool} (h : T1 s i neg) (hn : scanR (bI s) = numR ((bI s).drop i) i) (hr : ∀ r, (bI s).drop i ≠ 48 :: 120 :: r) : T2 s i neg false := by
 refine ⟨h.le, h.tx, ?_⟩
 rw [hn]
 generalize (bI s).drop i = l at *
 unfold numR
 split
 ·exact absurd rfl (hr _)
 ·rfl
structure T3 (s : ByteArray) (i : Nat) (neg h : Bool) (I : List Int) (dot : Bool) (F : List Int) : Prop where
 le : i ≤ s.size
 tx : bI s = if neg then 45 :: (if h then 48 :: 120 :: (I ++ (if dot then 46 :: (F ++ (bI s).drop i) else (bI s).drop i)) else I ++ (if dot then 46 :: (F ++ (bI s).drop i) else (bI s).drop i)) else (if h then 48 :: 120 :: (I ++ (if dot then 46 :: (F ++ (bI s).drop i) else (bI s).drop i)) else I ++ (if dot then 46 :: (F ++ (bI s).drop i) else (bI s).drop i))
 eq : scanR (bI s) = expR h ((bI s).drop i) i
 nI : I ≠ []
 pI : ∀ c ∈ I, pD h c = true
 nF : dot = true → F ≠ []
 zF : dot = false → F = []
 pF : ∀ c ∈ F, pD h c = true
theorem row_take (p : Int → Bool) (l : List Int) : l.takeWhile p = l.take (rowR p l) := by
 exact List.prefix_iff_eq_take.1 (List.takeWhile_prefix p)
structure T2b (s : ByteArray) (i k : Nat) (neg h : Bool) (I : List Int) : Prop where
 le : k ≤ s.size
 tx : bI s = if neg then 45 :: (if h then 48 :: 120 :: (I ++ (bI s).drop k) else I ++ (bI s).drop k) else (if h then 48 :: 120 :: (I ++ (bI s).drop k) else I ++ (bI s).drop k)
 eq : scanR (bI s) = tailR h ((bI s).drop k) k
 nI : I ≠ []
 pI : ∀ c ∈ I, pD h c = true
theorem T2.row {s : ByteArray} {i k : Nat} {neg h : Bool} (t : T2 s i neg h) (hk : k = i + rowR (pD h) ((bI s).drop i)) (hne : k ≠ i) : T2b s i k neg h (((bI s).drop i).take (k - i)) ∧ ∀ c ∈ ((bI s).drop i).take (k - i), pD h c = true := by
 have h1 := rowR_le (pD h) ((bI s).drop i)
 rw [List.length_drop, bI_len] at h1
 have h2 := row_take (pD h) ((bI s).drop i)
 have h3 : k - i = rowR (pD h) ((bI s).drop i) := by omega
 have h4 := row_mem (pD h) ((bI s).drop i)
 rw [h2, ← h3] at h4
 have h5 : ((bI s).drop i).take (k - i) ++ (bI s).drop k = (bI s).drop i := by
  rw [show (bI s).drop k = ((bI s).drop i).drop (k - i) by rw [List.drop_drop]; congr 1; omega]
  exact List.take_append_drop _ _
 have hle : k ≤ s.size := by have := t.le; omega
 refine ⟨⟨hle, by rw [h5]; exact t.tx, ?_, ?_, h4⟩, h4⟩
 ·rw [t.eq, if_neg (by omega), ← h3, List.drop_drop, show i + (k - i) = k by omega]
 ·intro hc
  have := congrArg List.length hc
  rw [List.length_take, List.length_drop, bI_len, List.length_nil] at this
  omega
theorem T2b.nodot {s : ByteArray} {i k : Nat} {neg h : Bool} {I : List Int} (t : T2b s i k neg h I) (hd : ∀ r, (bI s).drop k ≠ 46 :: r) : T3 s k neg h I false [] := by
 refine ⟨t.le, t.tx, ?_, t.nI, t.pI, (fun h => by cases h), fun _ => rfl, fun c hc => by cases hc⟩
 rw [t.eq, tailR_eq]
 cases hl : (bI s).drop k with
 | nil => rfl
 | cons c r =>
  show (if c = 46 then _ else _) = _
  rw [if_neg (fun e => hd r (by rw [hl, e]))]
theorem T2b.dot {s : ByteArray} {i k j : Nat} {neg h : Bool} {I r : List Int} (t : T2b s i k neg h I) (hd : (bI s).drop k = 46 :: r) (hr : (bI s).drop (k + 1) = r) (hj : j = k + 1 + rowR (pD h) r) :
  (j = k + 1 → scanR (bI s) = some (k + 1)) ∧ (j ≠ k + 1 → T3 s j neg h I true (((bI s).drop (k + 1)).take (j - (k + 1))) ∧ ∀ c ∈ ((bI s).drop (k + 1)).take (j - (k + 1)), pD h c = true) := by
 have h0 := t.eq
 rw [hd, tailR_eq] at h0
 have h0' : scanR (bI s) = if rowR (pD h) r = 0 then some (k + 1) else expR h (r.drop (rowR (pD h) r)) (k + 1 + rowR (pD h) r) := h0
 have hk1 : k + 1 ≤ s.size := (at_k hd).1
 have h1 := rowR_le (pD h) r
 rw [← hr, List.length_drop, bI_len, hr] at h1
 refine ⟨fun e => by rw [h0', if_pos (by omega)], fun hne => ?_⟩
 have h3 : j - (k + 1) = rowR (pD h) r := by omega
 have h2 := row_take (pD h) r
 have h4 := row_mem (pD h) r
 rw [h2, ← h3, ← hr] at h4
 have h5 : ((bI s).drop (k + 1)).take (j - (k + 1)) ++ (bI s).drop j = r := by
  rw [show (bI s).drop j = ((bI s).drop (k + 1)).drop (j - (k + 1)) by rw [List.drop_drop]; congr 1; omega, List.take_append_drop, hr]
 refine ⟨⟨by omega, ?_, ?_, t.nI, t.pI, fun _ hc => ?_, (fun h => by cases h), h4⟩, h4⟩
 ·have h6 := t.tx
  rw [hd] at h6
  simp only [if_true]
  rw [h5]
  exact h6
 ·rw [h0', if_neg (by omega), ← h3, ← hr, List.drop_drop, show k + 1 + (j - (k + 1)) = j by omega]
 ·have := congrArg List.length hc
  rw [List.length_take, List.length_drop, bI_len, List.length_nil] at this
  omega
theorem T3.fig {s : ByteArray} {i : Nat} {neg : Bool} {I F : List Int} {dot : Bool} (t : T3 s i neg false I dot F) (he : (bI s).drop i = []) : scanR (bI s) = none ∧ ∃ g : Fig, g.Ok ∧ bI s = g.txt ∧ g.neg = neg ∧ g.hex = false ∧ g.I = I ∧ g.F = F ∧ g.sg = [] ∧ g.E = [] := by
 refine ⟨by rw [t.eq, he]; rfl, ⟨neg, false, I, dot, F, false, 101, [], []⟩, ⟨t.nI, t.pI, t.nF, t.zF, t.pF, (fun h => by cases h), Or.inr ⟨Or.inl rfl, rfl⟩, (fun h => by cases h), (fun c hc => by cases hc), (fun _ => ⟨rfl, rfl⟩), Or.inl rfl⟩, ?_, rfl, rfl, rfl, rfl, rfl, rfl⟩
 have h := t.tx
 rw [he] at h
 exact h
theorem T3.figx {s : ByteArray} {i : Nat} {neg h : Bool} {I F : List Int} {dot : Bool} (t : T3 s i neg h I dot F) {c : Int} {r sg E : List Int} (hd : (bI s).drop i = c :: r) (hc : (c = 112 ∧ h = true) ∨ ((c = 101 ∨ c = 69) ∧ h = false)) (hr : r = sg ++ E) (hs : sg = [] ∨ sg = [43] ∨ sg = [45]) (hE : ∀ c ∈ E, isD c = true) (hn : E ≠ []) : ∃ g : Fig, g.Ok ∧ bI s = g.txt ∧ g.neg = neg ∧ g.hex = h ∧ g.I = I ∧ g.F = F ∧ g.sg = sg ∧ g.E = E := by
 refine ⟨⟨neg, h, I, dot, F, true, c, sg, E⟩, ⟨t.nI, t.pI, t.nF, t.zF, t.pF, fun _ => rfl, hc, fun _ => hn, hE, (fun h => by cases h), hs⟩, ?_, rfl, rfl, rfl, rfl, rfl, rfl⟩
 have h1 := t.tx
 rw [hd, hr] at h1
 exact h1
theorem T3.hexend {s : ByteArray} {i : Nat} {neg : Bool} {I F : List Int} {dot : Bool} (t : T3 s i neg true I dot F) (he : ∀ r, (bI s).drop i ≠ 112 :: r) : scanR (bI s) = some i := by
 rw [t.eq]
 cases hl : (bI s).drop i with
 | nil => rfl
 | cons c r =>
  show (if c = 112 then _ else _) = _
  rw [if_neg (fun e => he r (by rw [hl, e]))]
theorem T3.hexpow {s : ByteArray} {i : Nat} {neg : Bool} {I F r : List Int} {dot : Bool} (t : T3 s i neg true I dot F) (he : (bI s).drop i = 112 :: r) (hr : (bI s).drop (i + 1) = r) : scanR (bI s) = powR ((bI s).drop (i + 1)) (i + 1) := by
 rw [t.eq, he, hr]
 rfl
theorem T3.decend {s : ByteArray} {i : Nat} {neg : Bool} {I F r : List Int} {dot : Bool} (t : T3 s i neg false I dot F) {c : Int} (he : (bI s).drop i = c :: r) (h1 : c ≠ 101) (h2 : c ≠ 69) : scanR (bI s) = some i := by
 rw [t.eq, he]
 show (if c = 101 ∨ c = 69 then _ else _) = _
 rw [if_neg (by omega)]
theorem T3.decpow {s : ByteArray} {i : Nat} {neg : Bool} {I F r : List Int} {dot : Bool} (t : T3 s i neg false I dot F) {c : Int} (he : (bI s).drop i = c :: r) (hr : (bI s).drop (i + 1) = r) (hc : c = 101 ∨ c = 69) : scanR (bI s) = powR ((bI s).drop (i + 1)) (i + 1) := by
 rw [t.eq, he, hr]
 show (if c = 101 ∨ c = 69 then _ else _) = _
 rw [if_pos hc]
structure FM (w wx : World) (k : Int) (m : Bool) (d : Value) (b p : Int) : Prop where
 b2 : wx.heap[w.heap.size]? = some (.cells #[.int .i64 0, .bool false, .slice none 0 0, .int .i64 0, .int .i64 0] 55 (0, 0))
 b5 : wx.heap[w.heap.size + 1]? = some (.cells #[.int .i64 k, .bool m, d, .int .i64 b, .int .i64 p] 55 (0, 0))
 be : Below w.heap.size w wx
 sz : w.heap.size + 2 ≤ wx.heap.size
theorem FM.next {w wx w' : World} {k : Int} {m : Bool} {d : Value} {b p : Int} (h : FM w wx k m d b p) (hb : Below wx.heap.size wx w') : FM w w' k m d b p :=
 ⟨by rw [hb.block _ (by have := h.sz; omega)]; exact h.b2, by rw [hb.block _ (by have := h.sz; omega)]; exact h.b5, h.be.trans (hb.mono (by have := h.sz; omega)), Nat.le_trans h.sz hb.size⟩
theorem FM.cell5 {w wx : World} {k : Int} {m : Bool} {d : Value} {b p : Int} (h : FM w wx k m d b p) (j : Nat) (x : Value) (cs : Array Value) (hc : (wx.setCell ⟨w.heap.size + 1, j, none⟩ x).heap[w.heap.size + 1]? = some (.cells cs 55 (0, 0))) : (wx.setCell ⟨w.heap.size + 1, j, none⟩ x).heap[w.heap.size]? = some (.cells #[.int .i64 0, .bool false, .slice none 0 0, .int .i64 0, .int .i64 0] 55 (0, 0)) ∧ Below w.heap.size w (wx.setCell ⟨w.heap.size + 1, j, none⟩ x) ∧ w.heap.size + 2 ≤ (wx.setCell ⟨w.heap.size + 1, j, none⟩ x).heap.size := by
 refine ⟨by rw [Below.heap_setCell wx ⟨w.heap.size + 1, j, none⟩ x w.heap.size (by simp)]; exact h.b2, Below.setCell h.be (by simp) _, ?_⟩
 have h1 : Below w.heap.size wx (wx.setCell ⟨w.heap.size + 1, j, none⟩ x) := Below.setCell (Below.refl _ _) (by simp) _
 exact Nat.le_trans h.sz h1.size
theorem FM.kind {w wx : World} {k : Int} {m : Bool} {d : Value} {b p : Int} (h : FM w wx k m d b p) (x : Int) : FM w (wx.setCell ⟨w.heap.size + 1, 0, none⟩ (.int .i64 x)) x m d b p := by
 have h1 := heap_setCell_same wx (w.heap.size + 1) 0 _ 55 (.int .i64 x) h.b5
 obtain ⟨a1, a2, a3⟩ := h.cell5 0 _ _ h1
 exact ⟨a1, h1, a2, a3⟩
theorem FM.minus {w wx : World} {k : Int} {m : Bool} {d : Value} {b p : Int} (h : FM w wx k m d b p) (x : Bool) : FM w (wx.setCell ⟨w.heap.size + 1, 1, none⟩ (.bool x)) k x d b p := by
 have h1 := heap_setCell_same wx (w.heap.size + 1) 1 _ 55 (.bool x) h.b5
 obtain ⟨a1, a2, a3⟩ := h.cell5 1 _ _ h1
 exact ⟨a1, h1, a2, a3⟩
theorem FM.digs {w wx : World} {k : Int} {m : Bool} {d : Value} {b p : Int} (h : FM w wx k m d b p) (x : Value) : FM w (wx.setCell ⟨w.heap.size + 1, 2, none⟩ x) k m x b p := by
 have h1 := heap_setCell_same wx (w.heap.size + 1) 2 _ 55 x h.b5
 obtain ⟨a1, a2, a3⟩ := h.cell5 2 _ _ h1
 exact ⟨a1, h1, a2, a3⟩
theorem FM.base {w wx : World} {k : Int} {m : Bool} {d : Value} {b p : Int} (h : FM w wx k m d b p) (x : Int) : FM w (wx.setCell ⟨w.heap.size + 1, 3, none⟩ (.int .i64 x)) k m d x p := by
 have h1 := heap_setCell_same wx (w.heap.size + 1) 3 _ 55 (.int .i64 x) h.b5
 obtain ⟨a1, a2, a3⟩ := h.cell5 3 _ _ h1
 exact ⟨a1, h1, a2, a3⟩
theorem FM.pow {w wx : World} {k : Int} {m : Bool} {d : Value} {b p : Int} (h : FM w wx k m d b p) (x : Int) : FM w (wx.setCell ⟨w.heap.size + 1, 4, none⟩ (.int .i64 x)) k m d b x := by
 have h1 := heap_setCell_same wx (w.heap.size + 1) 4 _ 55 (.int .i64 x) h.b5
 obtain ⟨a1, a2, a3⟩ := h.cell5 4 _ _ h1
 exact ⟨a1, h1, a2, a3⟩
theorem Nt.set5 {w : World} {v : Value} {N B : Nat} {cs : Array Value} {fr : Nat × Nat} (h : Nt w v N) (hb : w.heap[B]? = some (.cells cs 55 fr)) (j : Nat) (x : Value) : Nt (w.setCell ⟨B, j, none⟩ x) v N := by
 obtain ⟨h1, h2⟩ := h
 refine ⟨h1, ?_⟩
 rcases h2 with h2 | ⟨g, cap, cur, hv, hg, hh, r⟩
 ·exact .inl h2
 ·have hne : g ≠ B := by
   rintro rfl
   rw [hb] at hh
   simp at hh
  exact .inr ⟨g, cap, cur, hv, hg, by rw [Below.heap_setCell w ⟨B, j, none⟩ x g hne]; exact hh, r⟩
def ScN (s : ByteArray) (w' : World) (k : Int) (m : Bool) (d : Value) (b p : Int) : Prop :=
 (k = 3 ∧ m = true ∧ bI s = [45, 105, 110, 102]) ∨ (k = 3 ∧ m = false ∧ bI s = [105, 110, 102]) ∨ (k = 2 ∧ bI s = [110, 97, 110]) ∨ (k = 1 ∧ ∃ g : Fig, g.Ok ∧ bI s = g.txt ∧ m = g.neg ∧ b = (g.B : Int) ∧ p = g.p 1000000 ∧ Nt w' d g.M)
def ScR (s : ByteArray) (w : World) (e : Ending) (w' : World) : Prop := Below w.heap.size w w' ∧ ∃ (k : Int) (m : Bool) (ao : Option Addr) (n c : Nat) (b p : Int),
 ((∃ a : Nat, scanR (bI s) = some a ∧ e = .returned (.tuple #[.agg #[.int .i64 k, .bool m, .slice ao n c, .int .i64 b, .int .i64 p], .int .i64 (a : Int), .int .i64 40])) ∨
 (scanR (bI s) = none ∧ e = .returned (.tuple #[.agg #[.int .i64 k, .bool m, .slice ao n c, .int .i64 b, .int .i64 p], .int .i64 0, .int .i64 0]) ∧ ScN s w' k m (.slice ao n c) b p))
theorem fig_num {s : ByteArray} {w' : World} {g : Fig} {neg h : Bool} {I F : List Int} {d : Value} {p : Int} (hg : g.Ok) (ht : bI s = g.txt) (h1 : g.neg = neg) (h2 : g.hex = h) (h3 : g.I = I) (h4 : g.F = F) (hN : Nt w' d (gat (CV h) (I ++ F) 0)) (hp : p = -(((if h then 4 else 1) * F.length : Nat) : Int) + (if g.sg = [45] then -(satE 1000000 g.E 0 : Int) else (satE 1000000 g.E 0 : Int))) : ScN s w' 1 neg d (if h then 2 else 10) p := by
 refine .inr (.inr (.inr ⟨rfl, g, hg, ht, h1.symm, ?_, ?_, ?_⟩))
 ·unfold Fig.B; rw [h2]; cases h <;> rfl
 ·unfold Fig.p Fig.q; rw [h2, h4, hp]
 ·unfold Fig.M Fig.D Fig.C
  rw [h2, h3, h4]
  exact hN
theorem frame195 (a : Act) (hd : a.defers = []) (hs : a.tmps.size = 195) : ∃ u : Nat → Value, (∀ i, u i = a.tmps.getD i undef) ∧ a = { tmps := #[u 0, u 1, u 2, u 3, u 4, u 5, u 6, u 7, u 8, u 9, u 10, u 11, u 12, u 13, u 14, u 15, u 16, u 17, u 18, u 19, u 20, u 21, u 22, u 23, u 24, u 25, u 26, u 27, u 28, u 29, u 30, u 31, u 32, u 33, u 34, u 35, u 36, u 37, u 38, u 39, u 40, u 41, u 42, u 43, u 44, u 45, u 46, u 47, u 48, u 49, u 50, u 51, u 52, u 53, u 54, u 55, u 56, u 57, u 58, u 59, u 60, u 61, u 62, u 63, u 64, u 65, u 66, u 67, u 68, u 69, u 70, u 71, u 72, u 73, u 74, u 75, u 76, u 77, u 78, u 79, u 80, u 81, u 82, u 83, u 84, u 85, u 86, u 87, u 88, u 89, u 90, u 91, u 92, u 93, u 94, u 95, u 96, u 97, u 98, u 99, u 100, u 101, u 102, u 103, u 104, u 105, u 106, u 107, u 108, u 109, u 110, u 111, u 112, u 113, u 114, u 115, u 116, u 117, u 118, u 119, u 120, u 121, u 122, u 123, u 124, u 125, u 126, u 127, u 128, u 129, u 130, u 131, u 132, u 133, u 134, u 135, u 136, u 137, u 138, u 139, u 140, u 141, u 142, u 143, u 144, u 145, u 146, u 147, u 148, u 149, u 150, u 151, u 152, u 153, u 154, u 155, u 156, u 157, u 158, u 159, u 160, u 161, u 162, u 163, u 164, u 165, u 166, u 167, u 168, u 169, u 170, u 171, u 172, u 173, u 174, u 175, u 176, u 177, u 178, u 179, u 180, u 181, u 182, u 183, u 184, u 185, u 186, u 187, u 188, u 189, u 190, u 191, u 192, u 193, u 194], defers := [] } := by
 refine ⟨fun i => a.tmps.getD i undef, fun _ => rfl, ?_⟩
 obtain ⟨t, d⟩ := a
 simp only at hd hs
 subst hd
 congr 1
 have e : t = ((List.range 195).map fun i => t.getD i undef).toArray := by
  apply Array.ext
  ·simp [hs]
  ·intro i h1 h2
   simp [Array.getD, h1]
 exact e.trans (by kernel_rfl)
theorem Nt.fig {w : World} {B : Nat} {a0 a1 a2 a3 a4 v : Value} {N : Nat} (hN : Nt w v N) (h : w.heap[B]? = some (.cells #[a0, a1, a2, a3, a4] 55 (0, 0))) (b0 b1 b2 b3 b4 : Value) : Nt (((((w.setCell ⟨B, 0, none⟩ b0).setCell ⟨B, 1, none⟩ b1).setCell ⟨B, 2, none⟩ b2).setCell ⟨B, 3, none⟩ b3).setCell ⟨B, 4, none⟩ b4) v N := by
 have h0 := heap_setCell_same _ B 0 _ 55 b0 h
 have h1 := heap_setCell_same _ B 1 _ 55 b1 h0
 have h2 := heap_setCell_same _ B 2 _ 55 b2 h1
 have h3 := heap_setCell_same _ B 3 _ 55 b3 h2
 exact ((((hN.set5 h 0 b0).set5 h0 1 b1).set5 h1 2 b2).set5 h2 3 b3).set5 h3 4 b4
theorem T3.Flen {s : ByteArray} {i : Nat} {neg h : Bool} {I F : List Int} {dot : Bool} (t : T3 s i neg h I dot F) : F.length ≤ s.size := by
 have h1 := congrArg List.length t.tx
 rw [bI_len] at h1
 cases dot
 ·rw [t.zF rfl]; exact Nat.zero_le _
 ·rw [h1]
  cases neg <;> cases h <;> simp <;> omega
theorem T1.plain {s : ByteArray} (h : ∀ r, bI s ≠ 45 :: r) : T1 s 0 false := ⟨Nat.zero_le _, rfl, fun _ r => h r, rfl⟩
theorem sc_inf {s : ByteArray} {i : Nat} {neg : Bool} {w' : World} {d : Value} {b p : Int} (h : T1 s i neg) (hl : (bI s).drop i = [105, 110, 102]) : ScN s w' 3 neg d b p := by
 have ht := h.tx
 rw [hl] at ht
 cases neg
 ·exact .inr (.inl ⟨rfl, rfl, ht⟩)
 ·exact .inl ⟨rfl, rfl, ht⟩
theorem scan32 (s : ByteArray) (hs : s.size ≤ 64) (w : World) : Calls Tryz.prog 32 #[.string s] w (ScR s w) := by
 obtain ⟨w0, hw0⟩ : ∃ w0, w0 = (w.alloc (.cells #[.int .i64 0, .bool false, .slice none 0 0, .int .i64 0, .int .i64 0] 55)).alloc (.cells #[.int .i64 1, .bool false, .slice none 0 0, .int .i64 10, .int .i64 0] 55) := ⟨_, rfl⟩
 obtain ⟨b0', b1', hB0, hz0⟩ := two_boxes w (.cells #[.int .i64 0, .bool false, .slice none 0 0, .int .i64 0, .int .i64 0] 55) (.cells #[.int .i64 1, .bool false, .slice none 0 0, .int .i64 10, .int .i64 0] 55)
 rw [← hw0] at b0' b1' hB0 hz0
 have hF := hid (show FM w w0 1 false (.slice none 0 0) 10 0 from ⟨b0', b1', hB0, by omega⟩)
 clear b0' b1'
 replace hw0 := hid hw0
 replace hB0 := hid hB0
 go_enter Tryz.func32, Tryz.ntmps32
 refine wp_seq_k fun K1 h1 => ?_
 have h1' := hid h1
 clear h1
 go_wp2_with fail
 refine h1'.out _ _ ?_
 clear h1'
 refine wp_seq_k fun K1 h1 => ?_
 have h1' := hid h1
 clear h1
 go_wp2_with fail
 refine h1'.out _ _ ?_
 clear h1'
 refine wp_seq_k fun K1 h1 => ?_
 have h1' := hid h1
 clear h1
 go_wp2_with fail
 refine h1'.out _ _ ?_
 clear h1'
 rw [← hw0.out]
 refine cut_seq (fun a' w' => ∃ (i : Nat) (neg : Bool), Hid (T1 s i neg) ∧ Hid (FM w w' 1 neg (.slice none 0 0) 10 0) ∧ a'.defers = [] ∧ a'.tmps.size = 195 ∧ a'.tmps.getD 0 undef = .string s ∧ a'.tmps.getD 2 undef = .pointer (some ⟨w.heap.size, 0, none⟩) ∧ a'.tmps.getD 5 undef = .pointer (some ⟨w.heap.size + 1, 0, none⟩) ∧ a'.tmps.getD 6 undef = .int .i64 (i : Int)) ?h1 ?h2
 case h1 =>
  intro K hK
  have hK' := hid hK
  clear hK
  obtain ⟨⟨x0, x1, x2, x3, x4⟩, y0, y1, y2, y3, y4⟩ := fig_cells hF.out.b5
  obtain ⟨⟨q0, q1, q2, q3, q4⟩, g0, g1, g2, g3, g4⟩ := fig_cells hF.out.b2
  by_cases hlt : 0 < s.size
  ·obtain ⟨c, hc⟩ : ∃ c : Int, c = (s[0].toNat : Int) := ⟨_, rfl⟩
   have hci : (s[0].toNat : Int) = c := hc.symm
   have hL := bI_drop s 0 hlt
   rw [← hc, List.drop_zero] at hL
   by_cases h45 : c = 45
   ·have hT := hid (show T1 s 1 true from ⟨hlt, by rw [h45] at hL; exact hL, (fun h => by cases h), rfl⟩)
    have hF2 := hid (hF.out.minus true)
    subst h45
    clear hc hL
    go_wp2_with fail
    exact hK'.out _ _ ⟨1, true, hT, hF2, rfl, rfl, rfl, rfl, rfl, rfl⟩
   ·have hT := hid (T1.plain (s := s) (by
     intro r h
     rw [hL] at h
     injection h with h1 _
     exact h45 h1))
    have e45 : (c == 45) = false := by simpa using h45
    clear hc hL h45
    go_wp2_with fail
    exact hK'.out _ _ ⟨0, false, hT, hF, rfl, rfl, rfl, rfl, rfl, rfl⟩
  ·have hT := hid (T1.plain (s := s) (by
    intro r h
    have h2 := congrArg List.length h
    rw [bI_len, List.length_cons] at h2
    omega))
   go_wp2_with fail
   exact hK'.out _ _ ⟨0, false, hT, hF, rfl, rfl, rfl, rfl, rfl, rfl⟩
 case h2 =>
  rintro a wc ⟨i, neg, hT1, hF1, hd0, hz0, f0, f2, f5, f6⟩
  obtain ⟨u, hu, ha⟩ := frame195 a hd0 hz0
  rw [(hu 0).trans f0, (hu 2).trans f2, (hu 5).trans f5, (hu 6).trans f6] at ha
  clear f0 f2 f5 f6 hu hd0 hz0
  subst ha
  refine cut_seq (fun a' w' => ∃ (i : Nat) (neg : Bool), Hid (T1 s i neg) ∧ Hid (∀ r, (bI s).drop i ≠ 105 :: r) ∧ Hid (FM w w' 1 neg (.slice none 0 0) 10 0) ∧ a'.defers = [] ∧ a'.tmps.size = 195 ∧ a'.tmps.getD 0 undef = .string s ∧ a'.tmps.getD 2 undef = .pointer (some ⟨w.heap.size, 0, none⟩) ∧ a'.tmps.getD 5 undef = .pointer (some ⟨w.heap.size + 1, 0, none⟩) ∧ a'.tmps.getD 6 undef = .int .i64 (i : Int)) ?h1 ?h2
  case h1 =>
   intro K hK
   have hK' := hid hK
   clear hK
   have hi := hT1.out.le
   have hii := hT1.out.ii
   obtain ⟨⟨x0, x1, x2, x3, x4⟩, y0, y1, y2, y3, y4⟩ := fig_cells hF1.out.b5
   obtain ⟨⟨q0, q1, q2, q3, q4⟩, g0, g1, g2, g3, g4⟩ := fig_cells hF1.out.b2
   by_cases h105 : ∃ r, (bI s).drop i = 105 :: r
   ·obtain ⟨r, hL⟩ := h105
    obtain ⟨hlt, hci, _⟩ := at_k hL
    replace hii := hid hii
    replace hL := hid hL
    have hwd := hid (word66 s ⟨#[105, 110, 102]⟩ (by omega) (by decide) i hi wc)
    rw [show bI ⟨#[105, 110, 102]⟩ = [105, 110, 102] from rfl] at hwd
    have hsc := hid (hT1.out.inf (r := r) hL.out)
    obtain ⟨o, ho⟩ : ∃ o, o = wordR [105, 110, 102] ((bI s).drop i) i := ⟨_, rfl⟩
    rw [← ho] at hwd hsc
    replace ho := hid ho
    cases o with
    | some at_ =>
     rw [show o2 (some at_) = .tuple #[.int .i64 (at_ : Int), .int .i64 40] from rfl] at hwd
     go_wp2_with (go_at_call 66; refine hwd.out.mono ?_; rintro e w2 ⟨rfl, hb2⟩; have hF2 := hid (hF1.out.next hb2); replace hb2 := hid hb2; clear x0 x1 x2 x3 x4 y0 y1 y2 y3 y4 q0 q1 q2 q3 q4 g0 g1 g2 g3 g4; obtain ⟨⟨x0, x1, x2, x3, x4⟩, y0, y1, y2, y3, y4⟩ := fig_cells hF2.out.b5; obtain ⟨⟨q0, q1, q2, q3, q4⟩, g0, g1, g2, g3, g4⟩ := fig_cells hF2.out.b2)
     have hF3 := hid (hF2.out.kind 3)
     (try simp only [Exit.inBlock, Exit.then])
     have hst := fig_store hF3.out.b2 (.int .i64 3) (.bool neg) (.slice none 0 0) (.int .i64 10) (.int .i64 0)
     refine bodyPost_ret (v := .tuple #[.agg #[.int .i64 3, .bool neg, (.slice none 0 0), .int .i64 10, .int .i64 0], .int .i64 (at_ : Int), .int .i64 40]) ?_ rfl ⟨hst.2 _ _ hF3.out.be (Nat.le_refl _), _, _, _, _, _, _, _, .inl ⟨at_, hsc.out, rfl⟩⟩
     rw [results_cell_tmp2 rfl]
     have hload := run_loadVar_row (P := Tryz.prog) _ w.heap.size 55 55 _ (0, 0) _ hst.1 Tryz.underlying55 rfl (by kernel_rfl)
     simp [asAddr, Result.andThen, hload]
    | none =>
     rw [show o2 none = .tuple #[.int .i64 0, .int .i64 0] from rfl] at hwd
     have hlw := hid (word_none ho.out.symm)
     go_wp2_with (go_at_call 66; refine hwd.out.mono ?_; rintro e w2 ⟨rfl, hb2⟩; have hF2 := hid (hF1.out.next hb2); replace hb2 := hid hb2; clear x0 x1 x2 x3 x4 y0 y1 y2 y3 y4 q0 q1 q2 q3 q4 g0 g1 g2 g3 g4; obtain ⟨⟨x0, x1, x2, x3, x4⟩, y0, y1, y2, y3, y4⟩ := fig_cells hF2.out.b5; obtain ⟨⟨q0, q1, q2, q3, q4⟩, g0, g1, g2, g3, g4⟩ := fig_cells hF2.out.b2)
     have hF3 := hid (hF2.out.kind 3)
     (try simp only [Exit.inBlock, Exit.then])
     have hst := fig_store hF3.out.b2 (.int .i64 3) (.bool neg) (.slice none 0 0) (.int .i64 10) (.int .i64 0)
     refine bodyPost_ret (v := .tuple #[.agg #[.int .i64 3, .bool neg, (.slice none 0 0), .int .i64 10, .int .i64 0], .int .i64 0, .int .i64 0]) ?_ rfl ⟨hst.2 _ _ hF3.out.be (Nat.le_refl _), _, _, _, _, _, _, _, .inr ⟨hsc.out, rfl, sc_inf hT1.out hlw.out⟩⟩
     rw [results_cell_tmp2 rfl]
     have hload := run_loadVar_row (P := Tryz.prog) _ w.heap.size 55 55 _ (0, 0) _ hst.1 Tryz.underlying55 rfl (by kernel_rfl)
     simp [asAddr, Result.andThen, hload]
   ·have hn := hid (show ∀ r, (bI s).drop i ≠ 105 :: r from fun r h => h105 ⟨r, h⟩)
    replace hii := hid hii
    by_cases hlt : i < s.size
    ·obtain ⟨c, hc⟩ : ∃ c : Int, c = (s[i].toNat : Int) := ⟨_, rfl⟩
     have hci : (s[i].toNat : Int) = c := hc.symm
     have e105 : (c == 105) = false := beq_eq_false_iff_ne.2 (fun e => h105 ⟨_, by rw [bI_drop s i hlt, hci, e]⟩)
     clear hc h105
     go_wp2_with fail
     exact hK'.out _ _ ⟨i, neg, hT1, hn, hF1, rfl, rfl, rfl, rfl, rfl, rfl⟩
    ·clear h105
     go_wp2_with fail
     exact hK'.out _ _ ⟨i, neg, hT1, hn, hF1, rfl, rfl, rfl, rfl, rfl, rfl⟩
  case h2 =>
   rintro a wc ⟨i, neg, hT1, hn, hF1, hd0, hz0, f0, f2, f5, f6⟩
   obtain ⟨u, hu, ha⟩ := frame195 a hd0 hz0
   rw [(hu 0).trans f0, (hu 2).trans f2, (hu 5).trans f5, (hu 6).trans f6] at ha
   clear f0 f2 f5 f6 hu hd0 hz0
   subst ha
   refine cut_seq (fun a' w' => ∃ (i : Nat) (neg : Bool), Hid (T1 s i neg) ∧ Hid (scanR (bI s) = numR ((bI s).drop i) i) ∧ Hid (FM w w' 1 neg (.slice none 0 0) 10 0) ∧ a'.defers = [] ∧ a'.tmps.size = 195 ∧ a'.tmps.getD 0 undef = .string s ∧ a'.tmps.getD 2 undef = .pointer (some ⟨w.heap.size, 0, none⟩) ∧ a'.tmps.getD 5 undef = .pointer (some ⟨w.heap.size + 1, 0, none⟩) ∧ a'.tmps.getD 6 undef = .int .i64 (i : Int)) ?h1 ?h2
   case h1 =>
    intro K hK
    have hK' := hid hK
    clear hK
    have hi := hT1.out.le
    have hii := hT1.out.ii
    obtain ⟨⟨x0, x1, x2, x3, x4⟩, y0, y1, y2, y3, y4⟩ := fig_cells hF1.out.b5
    obtain ⟨⟨q0, q1, q2, q3, q4⟩, g0, g1, g2, g3, g4⟩ := fig_cells hF1.out.b2
    by_cases h110 : neg = false ∧ ∃ r, (bI s).drop i = 110 :: r
    ·obtain ⟨hneg, r, hL⟩ := h110
     subst hneg
     have hib : ((i : Int) == 0) = true := beq_iff_eq.2 (by simp at hii; omega)
     obtain ⟨hlt, hci, _⟩ := at_k hL
     replace hii := hid hii
     replace hL := hid hL
     have hwd := hid (word66 s ⟨#[110, 97, 110]⟩ (by omega) (by decide) i hi wc)
     rw [show bI ⟨#[110, 97, 110]⟩ = [110, 97, 110] from rfl] at hwd
     have hsc := hid (hT1.out.nan (r := r) hL.out)
     obtain ⟨o, ho⟩ : ∃ o, o = wordR [110, 97, 110] ((bI s).drop i) i := ⟨_, rfl⟩
     rw [← ho] at hwd hsc
     replace ho := hid ho
     cases o with
     | some at_ =>
      rw [show o2 (some at_) = .tuple #[.int .i64 (at_ : Int), .int .i64 40] from rfl] at hwd
      go_wp2_with (go_at_call 66; refine hwd.out.mono ?_; rintro e w2 ⟨rfl, hb2⟩; have hF2 := hid (hF1.out.next hb2); replace hb2 := hid hb2; clear x0 x1 x2 x3 x4 y0 y1 y2 y3 y4 q0 q1 q2 q3 q4 g0 g1 g2 g3 g4; obtain ⟨⟨x0, x1, x2, x3, x4⟩, y0, y1, y2, y3, y4⟩ := fig_cells hF2.out.b5; obtain ⟨⟨q0, q1, q2, q3, q4⟩, g0, g1, g2, g3, g4⟩ := fig_cells hF2.out.b2)
      have hF3 := hid (hF2.out.kind 2)
      (try simp only [Exit.inBlock, Exit.then])
      have hst := fig_store hF3.out.b2 (.int .i64 2) (.bool false) (.slice none 0 0) (.int .i64 10) (.int .i64 0)
      refine bodyPost_ret (v := .tuple #[.agg #[.int .i64 2, .bool false, (.slice none 0 0), .int .i64 10, .int .i64 0], .int .i64 (at_ : Int), .int .i64 40]) ?_ rfl ⟨hst.2 _ _ hF3.out.be (Nat.le_refl _), _, _, _, _, _, _, _, .inl ⟨at_, hsc.out, rfl⟩⟩
      rw [results_cell_tmp2 rfl]
      have hload := run_loadVar_row (P := Tryz.prog) _ w.heap.size 55 55 _ (0, 0) _ hst.1 Tryz.underlying55 rfl (by kernel_rfl)
      simp [asAddr, Result.andThen, hload]
     | none =>
      rw [show o2 none = .tuple #[.int .i64 0, .int .i64 0] from rfl] at hwd
      have hlw := hid (word_none ho.out.symm)
      go_wp2_with (go_at_call 66; refine hwd.out.mono ?_; rintro e w2 ⟨rfl, hb2⟩; have hF2 := hid (hF1.out.next hb2); replace hb2 := hid hb2; clear x0 x1 x2 x3 x4 y0 y1 y2 y3 y4 q0 q1 q2 q3 q4 g0 g1 g2 g3 g4; obtain ⟨⟨x0, x1, x2, x3, x4⟩, y0, y1, y2, y3, y4⟩ := fig_cells hF2.out.b5; obtain ⟨⟨q0, q1, q2, q3, q4⟩, g0, g1, g2, g3, g4⟩ := fig_cells hF2.out.b2)
      have hF3 := hid (hF2.out.kind 2)
      (try simp only [Exit.inBlock, Exit.then])
      have hst := fig_store hF3.out.b2 (.int .i64 2) (.bool false) (.slice none 0 0) (.int .i64 10) (.int .i64 0)
      refine bodyPost_ret (v := .tuple #[.agg #[.int .i64 2, .bool false, (.slice none 0 0), .int .i64 10, .int .i64 0], .int .i64 0, .int .i64 0]) ?_ rfl ⟨hst.2 _ _ hF3.out.be (Nat.le_refl _), _, _, _, _, _, _, _, .inr ⟨hsc.out, rfl, .inr (.inr (.inl ⟨rfl, by have ht := hT1.out.tx; rw [hlw.out] at ht; exact ht⟩))⟩⟩
      rw [results_cell_tmp2 rfl]
      have hload := run_loadVar_row (P := Tryz.prog) _ w.heap.size 55 55 _ (0, 0) _ hst.1 Tryz.underlying55 rfl (by kernel_rfl)
      simp [asAddr, Result.andThen, hload]
    ·have hnum := hid (hT1.out.num hn.out (fun h r hr => h110 ⟨h, r, hr⟩))
     cases neg
     ·have hib : ((i : Int) == 0) = true := beq_iff_eq.2 (by simp at hii; omega)
      replace hii := hid hii
      by_cases hlt : i < s.size
      ·obtain ⟨c, hc⟩ : ∃ c : Int, c = (s[i].toNat : Int) := ⟨_, rfl⟩
       have hci : (s[i].toNat : Int) = c := hc.symm
       have e110 : (c == 110) = false := beq_eq_false_iff_ne.2 (fun e => h110 ⟨rfl, _, by rw [bI_drop s i hlt, hci, e]⟩)
       clear hc h110
       go_wp2_with fail
       exact hK'.out _ _ ⟨i, _, hT1, hnum, hF1, rfl, rfl, rfl, rfl, rfl, rfl⟩
      ·clear h110
       go_wp2_with fail
       exact hK'.out _ _ ⟨i, _, hT1, hnum, hF1, rfl, rfl, rfl, rfl, rfl, rfl⟩
     ·have hib : ((i : Int) == 0) = false := beq_eq_false_iff_ne.2 (by simp at hii; omega)
      replace hii := hid hii
      clear h110
      go_wp2_with fail
      exact hK'.out _ _ ⟨i, _, hT1, hnum, hF1, rfl, rfl, rfl, rfl, rfl, rfl⟩
   case h2 =>
    rintro a wc ⟨i, neg, hT1, hnum, hF1, hd0, hz0, f0, f2, f5, f6⟩
    obtain ⟨u, hu, ha⟩ := frame195 a hd0 hz0
    rw [(hu 0).trans f0, (hu 2).trans f2, (hu 5).trans f5, (hu 6).trans f6] at ha
    clear f0 f2 f5 f6 hu hd0 hz0
    subst ha
    have hi := hT1.out.le
    refine wp_seq_k fun K1 h1 => ?_
    have h1' := hid h1
    clear h1
    go_wp2_with fail
    refine h1'.out _ _ ?_
    clear h1'
    refine cut_seq (fun a' w' => ∃ (i : Nat) (neg h : Bool), Hid (T2 s i neg h) ∧ Hid (FM w w' 1 neg (.slice none 0 0) 10 0) ∧ a'.defers = [] ∧ a'.tmps.size = 195 ∧ a'.tmps.getD 0 undef = .string s ∧ a'.tmps.getD 2 undef = .pointer (some ⟨w.heap.size, 0, none⟩) ∧ a'.tmps.getD 5 undef = .pointer (some ⟨w.heap.size + 1, 0, none⟩) ∧ a'.tmps.getD 6 undef = .int .i64 (i : Int) ∧ a'.tmps.getD 11 undef = .int .i64 (baseV h)) ?h1 ?h2
    case h1 =>
     intro K hK
     have hK' := hid hK
     clear hK
     by_cases hhex : ∃ r, (bI s).drop i = 48 :: 120 :: r
     ·obtain ⟨r, hL⟩ := hhex
      obtain ⟨hlt, hci, hL2⟩ := at_k hL
      obtain ⟨hlt2, hci2, _⟩ := at_k hL2
      have hT2 := hid (hT1.out.hex hnum.out hL (by omega))
      have hti : ((i : Int) + 1).toNat = i + 1 := by omega
      clear hL hL2
      go_wp2_with fail
      exact hK'.out _ _ ⟨i + 2, neg, true, hT2, hF1, rfl, rfl, rfl, rfl, rfl, by go_num, rfl⟩
     ·have hT2 := hid (hT1.out.dec hnum.out (fun r h => hhex ⟨r, h⟩))
      by_cases hlt : i + 1 < s.size
      ·have hlt0 : i < s.size := by omega
       obtain ⟨c, hc⟩ : ∃ c : Int, c = (s[i].toNat : Int) := ⟨_, rfl⟩
       obtain ⟨c2, hc2⟩ : ∃ c2 : Int, c2 = (s[i + 1].toNat : Int) := ⟨_, rfl⟩
       have hci : (s[i].toNat : Int) = c := hc.symm
       have hci2 : (s[i + 1].toNat : Int) = c2 := hc2.symm
       have hti : ((i : Int) + 1).toNat = i + 1 := by omega
       have hlti : (i : Int) + 1 < (s.size : Int) := by omega
       by_cases h48 : c = 48
       ·have e48 : (c2 == 120) = false := beq_eq_false_iff_ne.2 (fun e => hhex ⟨_, by rw [bI_drop s i hlt0, hci, h48, bI_drop s (i + 1) hlt, hci2, e]⟩)
        have e481 : (c == 48) = true := beq_iff_eq.2 h48
        clear hc hc2 hhex h48
        go_wp2_with fail
        exact hK'.out _ _ ⟨i, neg, false, hT2, hF1, rfl, rfl, rfl, rfl, rfl, rfl, rfl⟩
       ·have e481 : (c == 48) = false := beq_eq_false_iff_ne.2 h48
        clear hc hc2 hhex h48
        go_wp2_with fail
        exact hK'.out _ _ ⟨i, neg, false, hT2, hF1, rfl, rfl, rfl, rfl, rfl, rfl, rfl⟩
      ·have hlti : ¬ (i : Int) + 1 < (s.size : Int) := by omega
       clear hhex
       go_wp2_with fail
       exact hK'.out _ _ ⟨i, neg, false, hT2, hF1, rfl, rfl, rfl, rfl, rfl, rfl, rfl⟩
    case h2 =>
     rintro a wc ⟨i, neg, h, hT2, hF2, hd0, hz0, f0, f2, f5, f6, f11⟩
     obtain ⟨u, hu, ha⟩ := frame195 a hd0 hz0
     rw [(hu 0).trans f0, (hu 2).trans f2, (hu 5).trans f5, (hu 6).trans f6, (hu 11).trans f11] at ha
     clear f0 f2 f5 f6 f11 hu hd0 hz0
     subst ha
     have hi := hT2.out.le
     have hrow := hid (row67 h s (by omega) i hi wc)
     obtain ⟨k, hk⟩ : ∃ k, k = i + rowR (pD h) ((bI s).drop i) := ⟨_, rfl⟩
     rw [← hk] at hrow
     have hkl : k ≤ s.size := by
      have h1 := rowR_le (pD h) ((bI s).drop i)
      rw [List.length_drop, bI_len] at h1
      omega
     replace hk := hid hk
     generalize hbv : baseV h = bv at *
     replace hbv := hid hbv
     refine wp_seq_k fun K1 h9 => ?_
     have h9' := hid h9
     clear h9
     go_wp2_with (go_at_call 67; refine hrow.out.mono ?_; rintro e w2 ⟨rfl, rfl⟩)
     refine h9'.out _ _ ?_
     clear h9'
     obtain ⟨⟨x0, x1, x2, x3, x4⟩, y0, y1, y2, y3, y4⟩ := fig_cells hF2.out.b5
     obtain ⟨⟨q0, q1, q2, q3, q4⟩, g0, g1, g2, g3, g4⟩ := fig_cells hF2.out.b2
     by_cases hki : k = i
     ·have hsc := hid (show scanR (bI s) = some i by rw [hT2.out.eq, if_pos (by have := hk.out; omega)])
      have hkb : ((k : Int) == (i : Int)) = true := beq_iff_eq.2 (by omega)
      replace hki := hid hki
      go_wp2_with fail
      (try simp only [Exit.inBlock, Exit.then])
      have hst := fig_store hF2.out.b2 (.int .i64 1) (.bool neg) (.slice none 0 0) (.int .i64 10) (.int .i64 0)
      refine bodyPost_ret (v := .tuple #[.agg #[.int .i64 1, .bool neg, (.slice none 0 0), .int .i64 10, .int .i64 0], .int .i64 (i : Int), .int .i64 40]) ?_ rfl ⟨hst.2 _ _ hF2.out.be (Nat.le_refl _), _, _, _, _, _, _, _, .inl ⟨i, hsc.out, rfl⟩⟩
      rw [results_cell_tmp2 rfl]
      have hload := run_loadVar_row (P := Tryz.prog) _ w.heap.size 55 55 _ (0, 0) _ hst.1 Tryz.underlying55 rfl (by kernel_rfl)
      simp [asAddr, Result.andThen, hload]
     have hkb : ((k : Int) == (i : Int)) = false := beq_eq_false_iff_ne.2 (by omega)
     obtain ⟨hT2b, hpI⟩ := hT2.out.row hk.out hki
     have hik : i ≤ k := by have := hk.out; omega
     refine wp_seq_k fun K1 h9 => ?_
     have h9' := hid h9
     clear h9
     go_wp2_with fail
     refine h9'.out _ _ ?_
     clear h9'
     obtain ⟨I, hI⟩ : ∃ I, I = ((bI s).drop i).take (k - i) := ⟨_, rfl⟩
     have hga := hid (gather68 h s hs i k 0 0 hik hkl (by decide) (by decide) hpI (.slice none 0 0) wc (Nt.nil wc))
     rw [← hI] at hT2b hpI hga
     rw [hbv.out] at hga
     replace hT2b := hid hT2b
     replace hpI := hid hpI
     replace hI := hid hI
     replace hki := hid hki
     refine wp_seq_k fun K1 h9 => ?_
     have h9' := hid h9
     clear h9
     go_wp2_with (go_at_call 68; refine hga.out.mono ?_; rintro e w2 ⟨v2, rfl, hN2, hb2⟩; obtain ⟨ao, n, c, rfl⟩ := hN2.sh; have hF3 := hid (hF2.out.next hb2); replace hN2 := hid hN2; replace hb2 := hid hb2; clear x0 x1 x2 x3 x4 y0 y1 y2 y3 y4 q0 q1 q2 q3 q4 g0 g1 g2 g3 g4; obtain ⟨⟨x0, x1, x2, x3, x4⟩, y0, y1, y2, y3, y4⟩ := fig_cells hF3.out.b5; obtain ⟨⟨q0, q1, q2, q3, q4⟩, g0, g1, g2, g3, g4⟩ := fig_cells hF3.out.b2)
     refine h9'.out _ _ ?_
     clear h9'
     have hF4 := hid (hF3.out.digs (.slice ao n c))
     have hN4 := hid (hN2.out.set5 hF3.out.b5 2 (.slice ao n c))
     clear x0 x1 x2 x3 x4 y0 y1 y2 y3 y4 q0 q1 q2 q3 q4 g0 g1 g2 g3 g4
     refine wp_seq_k fun K1 h9 => ?_
     have h9' := hid h9
     clear h9
     go_wp2_with fail
     refine h9'.out _ _ ?_
     clear h9'
     refine cut_seq (fun a' w' => ∃ (i : Nat) (neg h : Bool) (I : List Int) (dot : Bool) (F : List Int) (ao : Option Addr) (n c : Nat), Hid (T3 s i neg h I dot F) ∧ Hid (FM w w' 1 neg (.slice ao n c) 10 (-((F.length : Nat) : Int))) ∧ Hid (Nt w' (.slice ao n c) (gat (CV h) (I ++ F) 0)) ∧ a'.defers = [] ∧ a'.tmps.size = 195 ∧ a'.tmps.getD 0 undef = .string s ∧ a'.tmps.getD 2 undef = .pointer (some ⟨w.heap.size, 0, none⟩) ∧ a'.tmps.getD 5 undef = .pointer (some ⟨w.heap.size + 1, 0, none⟩) ∧ a'.tmps.getD 6 undef = .int .i64 (i : Int) ∧ a'.tmps.getD 11 undef = .int .i64 (baseV h)) ?h1 ?h2
     case h1 =>
      intro K hK
      have hK' := hid hK
      clear hK
      obtain ⟨⟨x0, x1, x2, x3, x4⟩, y0, y1, y2, y3, y4⟩ := fig_cells hF4.out.b5
      obtain ⟨⟨q0, q1, q2, q3, q4⟩, g0, g1, g2, g3, g4⟩ := fig_cells hF4.out.b2
      by_cases h46 : ∃ r, (bI s).drop k = 46 :: r
      ·obtain ⟨r, hL⟩ := h46
       obtain ⟨hlt, hci, hL2⟩ := at_k hL
       obtain ⟨j, hj⟩ : ∃ j, j = k + 1 + rowR (pD h) r := ⟨_, rfl⟩
       have hdot := hid (hT2b.out.dot hL hL2 hj)
       have hrow2 := hid (fun wx => row67 h s (by omega) (k + 1) hlt wx)
       rw [hL2, ← hj, hbv.out, show ((k + 1 : Nat) : Int) = (k : Int) + 1 from rfl] at hrow2
       have hjl : j ≤ s.size := by
        have h1 := rowR_le (pD h) r
        rw [← hL2, List.length_drop, bI_len, hL2] at h1
        omega
       have hjk : k + 1 ≤ j := by omega
       replace hj := hid hj
       replace hL := hid hL
       replace hL2 := hid hL2
       by_cases hjk1 : j = k + 1
       ·have hsc := hid (hdot.out.1 hjk1)
        have hjb : ((j : Int) == (k : Int) + 1) = true := beq_iff_eq.2 (by omega)
        have hjr := hid hjk1
        clear hjk1
        go_wp2_with (go_at_call 67; refine (hrow2.out _).mono ?_; rintro e w2 ⟨rfl, rfl⟩)
        (try simp only [Exit.inBlock, Exit.then])
        have hst := fig_store hF4.out.b2 (.int .i64 1) (.bool neg) (.slice ao n c) (.int .i64 10) (.int .i64 0)
        refine bodyPost_ret (v := .tuple #[.agg #[.int .i64 1, .bool neg, (.slice ao n c), .int .i64 10, .int .i64 0], .int .i64 (j : Int), .int .i64 40]) ?_ rfl ⟨hst.2 _ _ hF4.out.be (Nat.le_refl _), _, _, _, _, _, _, _, .inl ⟨j, by rw [hjr.out]; exact hsc.out, rfl⟩⟩
        rw [results_cell_tmp2 rfl]
        have hload := run_loadVar_row (P := Tryz.prog) _ w.heap.size 55 55 _ (0, 0) _ hst.1 Tryz.underlying55 rfl (by kernel_rfl)
        simp [asAddr, Result.andThen, hload]
       ·obtain ⟨hT3, hpF⟩ := hdot.out.2 hjk1
        obtain ⟨F, hFF⟩ : ∃ F, F = ((bI s).drop (k + 1)).take (j - (k + 1)) := ⟨_, rfl⟩
        have hFl : (F.length : Int) = (j : Int) - (k : Int) - 1 := by
         rw [hFF, List.length_take, List.length_drop, bI_len]; omega
        have hIl : gat (CV h) I 0 < 2 ^ (4 * (0 + I.length)) := by
         have h1 := gat_lt (B := CV h) (h := h) rfl I hpI.out
         rw [Nat.zero_add, Nat.pow_mul]
         exact Nat.lt_of_lt_of_le h1 (Nat.pow_le_pow_left (CV_le h) _)
        have hI64 : I.length ≤ 64 := by
         have := hI.out
         rw [this, List.length_take, List.length_drop, bI_len]; omega
        have hga2 := hid (fun w1 h1 => gather68 h s hs (k + 1) j (0 + I.length) (gat (CV h) I 0) hjk hjl (by omega) hIl hpF (.slice ao n c) w1 h1)
        rw [← hFF, hbv.out, show ((k + 1 : Nat) : Int) = (k : Int) + 1 from rfl, ← gat_app] at hga2
        rw [← hFF] at hT3
        have hT3' := hid hT3
        have hjb : ((j : Int) == (k : Int) + 1) = false := beq_eq_false_iff_ne.2 (by omega)
        have hpw : (k : Int) + 1 - (j : Int) = -((F.length : Nat) : Int) := by omega
        have hpwb : -64 ≤ -((F.length : Nat) : Int) := by omega
        replace hFF := hid hFF
        replace hpF := hid hpF
        replace hIl := hid hIl
        replace hFl := hid hFl
        clear hjk1 hT3
        go_wp2_with (first | (go_at_call 67; refine (hrow2.out _).mono ?_; rintro e w2 ⟨rfl, rfl⟩) | (go_at_call 68; refine (hga2.out _ hN4.out).mono ?_; rintro e w2 ⟨v2, rfl, hN5, hb5⟩; obtain ⟨ao5, n5, c5, rfl⟩ := hN5.sh; have hF5 := hid (hF4.out.next hb5); replace hN5 := hid hN5; replace hb5 := hid hb5; clear x0 x1 x2 x3 x4 y0 y1 y2 y3 y4 q0 q1 q2 q3 q4 g0 g1 g2 g3 g4; obtain ⟨⟨x0, x1, x2, x3, x4⟩, y0, y1, y2, y3, y4⟩ := fig_cells hF5.out.b5; obtain ⟨⟨q0, q1, q2, q3, q4⟩, g0, g1, g2, g3, g4⟩ := fig_cells hF5.out.b2))
        have hF6 := hid ((hF5.out.digs (.slice ao5 n5 c5)).pow (-((F.length : Nat) : Int)))
        have hN6 := hid ((hN5.out.set5 hF5.out.b5 2 (.slice ao5 n5 c5)).set5 (hF5.out.digs (.slice ao5 n5 c5)).b5 4 (.int .i64 (-((F.length : Nat) : Int))))
        exact hK'.out _ _ ⟨j, neg, h, I, true, F, ao5, n5, c5, hT3', hF6, hN6, rfl, rfl, rfl, rfl, rfl, rfl, val_int hbv.out.symm⟩
      ·have hT3 := hid (hT2b.out.nodot (fun r hr => h46 ⟨r, hr⟩))
       have hN5 := hid (show Nt _ (.slice ao n c) (gat (CV h) (I ++ []) 0) by rw [List.append_nil]; exact hN4.out)
       by_cases hlt : k < s.size
       ·obtain ⟨c2, hc2⟩ : ∃ c2 : Int, c2 = (s[k].toNat : Int) := ⟨_, rfl⟩
        have hci : (s[k].toNat : Int) = c2 := hc2.symm
        have e46 : (c2 == 46) = false := beq_eq_false_iff_ne.2 (fun e => h46 ⟨_, by rw [bI_drop s k hlt, hci, e]⟩)
        clear hc2 h46
        go_wp2_with fail
        exact hK'.out _ _ ⟨k, neg, h, I, false, [], ao, n, c, hT3, hF4, hN5, rfl, rfl, rfl, rfl, rfl, rfl, val_int hbv.out.symm⟩
       ·clear h46
        go_wp2_with fail
        exact hK'.out _ _ ⟨k, neg, h, I, false, [], ao, n, c, hT3, hF4, hN5, rfl, rfl, rfl, rfl, rfl, rfl, val_int hbv.out.symm⟩
     case h2 =>
      rintro a wc ⟨i, neg, h, I, dot, F, ao, n, c, hT3, hF, hN, hd0, hz0, f0, f2, f5, f6, f11⟩
      obtain ⟨u, hu, ha⟩ := frame195 a hd0 hz0
      rw [(hu 0).trans f0, (hu 2).trans f2, (hu 5).trans f5, (hu 6).trans f6, (hu 11).trans f11] at ha
      clear f0 f2 f5 f6 f11 hu hd0 hz0
      subst ha
      have hFl := hT3.out.Flen
      obtain ⟨pz, hpz⟩ : ∃ pz : Int, pz = -((F.length : Nat) : Int) := ⟨_, rfl⟩
      rw [← hpz] at hF
      have hpz1 : -64 ≤ pz := by omega
      have hpz2 : pz ≤ 0 := by omega
      replace hpz := hid hpz
      have hi := hT3.out.le
      cases h
      ·rw [show baseV false = 10 from rfl]
       obtain ⟨⟨x0, x1, x2, x3, x4⟩, y0, y1, y2, y3, y4⟩ := fig_cells hF.out.b5
       obtain ⟨⟨q0, q1, q2, q3, q4⟩, g0, g1, g2, g3, g4⟩ := fig_cells hF.out.b2
       by_cases hnil : (bI s).drop i = []
       ·have hie := at_end hnil hi
        obtain ⟨hsc0, hfx0⟩ := hT3.out.fig hnil
        have hsc := hid hsc0
        have hfx := hid hfx0
        have hib : ((i : Int) == (s.size : Int)) = true := beq_iff_eq.2 (by omega)
        clear hsc0 hfx0 hnil
        replace hie := hid hie
        go_wp2_with fail
        have hNz := hN.out.fig hF.out.b2 (.int .i64 1) (.bool neg) (.slice ao n c) (.int .i64 10) (.int .i64 pz)
        obtain ⟨g, z1, z2, z3, z4, z5, z6, z7, z8⟩ := hfx.out
        have hnum := fig_num z1 z2 z3 z4 z5 z6 hNz (p := pz) (by rw [hpz.out, z7, z8]; simp [satE])
        (try simp only [Exit.inBlock, Exit.then])
        have hst := fig_store hF.out.b2 (.int .i64 1) (.bool neg) (.slice ao n c) (.int .i64 10) (.int .i64 pz)
        refine bodyPost_ret (v := .tuple #[.agg #[.int .i64 1, .bool neg, (.slice ao n c), .int .i64 10, .int .i64 pz], .int .i64 0, .int .i64 0]) ?_ rfl ⟨hst.2 _ _ hF.out.be (Nat.le_refl _), _, _, _, _, _, _, _, .inr ⟨hsc.out, rfl, hnum⟩⟩
        rw [results_cell_tmp2 rfl]
        have hload := run_loadVar_row (P := Tryz.prog) _ w.heap.size 55 55 _ (0, 0) _ hst.1 Tryz.underlying55 rfl (by kernel_rfl)
        simp [asAddr, Result.andThen, hload]
       ·obtain ⟨c2, r, hL⟩ : ∃ c2 r, (bI s).drop i = c2 :: r := by
         cases hl : (bI s).drop i with
         | nil => exact absurd hl hnil
         | cons a b => exact ⟨a, b, rfl⟩
        obtain ⟨hlt, hci, hL2⟩ := at_k hL
        have hib : ((i : Int) == (s.size : Int)) = false := beq_eq_false_iff_ne.2 (by omega)
        by_cases hc : c2 = 101 ∨ c2 = 69
        ·have hexp := hid (hT3.out.decpow hL hL2 hc)
         have hcc := hid hc
         replace hL := hid hL
         replace hL2 := hid hL2
         clear hnil
         rcases hc with h1 | h1
         ·have e101 : (c2 == 101) = true := beq_iff_eq.2 h1
          have e101b : (c2 != 101) = false := by simpa using h1
          clear h1
          have hpw := hid (fun wx => power69 s hs (i + 1) hlt 1 neg ao n c 10 pz (by omega) wx)
          rw [show ((i + 1 : Nat) : Int) = (i : Int) + 1 from rfl] at hpw
          skip
          go_wp2_with fail
          refine (hpw.out _).mono ?_
          rintro e w2 ⟨hb2, hcase⟩
          have hF3 := hid (hF.out.next hb2)
          have hN3 := hid (hN.out.mono hb2 (Nat.le_refl _))
          replace hb2 := hid hb2
          clear x0 x1 x2 x3 x4 y0 y1 y2 y3 y4 q0 q1 q2 q3 q4 g0 g1 g2 g3 g4
          obtain ⟨⟨x0, x1, x2, x3, x4⟩, y0, y1, y2, y3, y4⟩ := fig_cells hF3.out.b5
          obtain ⟨⟨q0, q1, q2, q3, q4⟩, g0, g1, g2, g3, g4⟩ := fig_cells hF3.out.b2
          rcases hcase with ⟨a, hpa, rfl⟩ | ⟨hpn, sg, E, hr, hsg, hE, hEn, rfl⟩
          ·have hsc := hid (hexp.out.trans hpa)
           replace hpa := hid hpa
           go_wp2_with fail
           (try simp only [Exit.inBlock, Exit.then])
           have hst := fig_store hF3.out.b2 (.int .i64 1) (.bool neg) (.slice ao n c) (.int .i64 10) (.int .i64 pz)
           refine bodyPost_ret (v := .tuple #[.agg #[.int .i64 1, .bool neg, (.slice ao n c), .int .i64 10, .int .i64 pz], .int .i64 (a : Int), .int .i64 40]) ?_ rfl ⟨hst.2 _ _ hF3.out.be (Nat.le_refl _), _, _, _, _, _, _, _, .inl ⟨a, hsc.out, rfl⟩⟩
           rw [results_cell_tmp2 rfl]
           have hload := run_loadVar_row (P := Tryz.prog) _ w.heap.size 55 55 _ (0, 0) _ hst.1 Tryz.underlying55 rfl (by kernel_rfl)
           simp [asAddr, Result.andThen, hload]
          ·have hsc := hid (hexp.out.trans hpn)
           have hfx := hid (hT3.out.figx (sg := sg) (E := E) hL.out (Or.inr ⟨hcc.out, rfl⟩) (by rw [← hL2.out]; exact hr) hsg hE hEn)
           obtain ⟨X, hX⟩ : ∃ X : Int, X = pz + (if sg = [45] then -(satE 1000000 E 0 : Int) else (satE 1000000 E 0 : Int)) := ⟨_, rfl⟩
           rw [← hX]
           replace hX := hid hX
           replace hpn := hid hpn
           replace hr := hid hr
           replace hE := hid hE
           replace hEn := hid hEn
           replace hsg := hid hsg
           go_wp2_with fail
           have hNz := hN3.out.fig hF3.out.b2 (.int .i64 1) (.bool neg) (.slice ao n c) (.int .i64 10) (.int .i64 X)
           obtain ⟨g, z1, z2, z3, z4, z5, z6, z7, z8⟩ := hfx.out
           have hnum := fig_num z1 z2 z3 z4 z5 z6 hNz (p := X) (by rw [hX.out, z7, z8]; rw [hpz.out]; simp)
           (try simp only [Exit.inBlock, Exit.then])
           have hst := fig_store hF3.out.b2 (.int .i64 1) (.bool neg) (.slice ao n c) (.int .i64 10) (.int .i64 X)
           refine bodyPost_ret (v := .tuple #[.agg #[.int .i64 1, .bool neg, (.slice ao n c), .int .i64 10, .int .i64 X], .int .i64 0, .int .i64 0]) ?_ rfl ⟨hst.2 _ _ hF3.out.be (Nat.le_refl _), _, _, _, _, _, _, _, .inr ⟨hsc.out, rfl, hnum⟩⟩
           rw [results_cell_tmp2 rfl]
           have hload := run_loadVar_row (P := Tryz.prog) _ w.heap.size 55 55 _ (0, 0) _ hst.1 Tryz.underlying55 rfl (by kernel_rfl)
           simp [asAddr, Result.andThen, hload]
         ·have e101 : (c2 == 101) = false := by rw [h1]; decide
          have e101b : (c2 != 101) = true := by rw [h1]; decide
          have e69 : (c2 == 69) = true := beq_iff_eq.2 h1
          have e69b : (c2 != 69) = false := by simpa using h1
          clear h1
          have hpw := hid (fun wx => power69 s hs (i + 1) hlt 1 neg ao n c 10 pz (by omega) wx)
          rw [show ((i + 1 : Nat) : Int) = (i : Int) + 1 from rfl] at hpw
          skip
          go_wp2_with fail
          refine (hpw.out _).mono ?_
          rintro e w2 ⟨hb2, hcase⟩
          have hF3 := hid (hF.out.next hb2)
          have hN3 := hid (hN.out.mono hb2 (Nat.le_refl _))
          replace hb2 := hid hb2
          clear x0 x1 x2 x3 x4 y0 y1 y2 y3 y4 q0 q1 q2 q3 q4 g0 g1 g2 g3 g4
          obtain ⟨⟨x0, x1, x2, x3, x4⟩, y0, y1, y2, y3, y4⟩ := fig_cells hF3.out.b5
          obtain ⟨⟨q0, q1, q2, q3, q4⟩, g0, g1, g2, g3, g4⟩ := fig_cells hF3.out.b2
          rcases hcase with ⟨a, hpa, rfl⟩ | ⟨hpn, sg, E, hr, hsg, hE, hEn, rfl⟩
          ·have hsc := hid (hexp.out.trans hpa)
           replace hpa := hid hpa
           go_wp2_with fail
           (try simp only [Exit.inBlock, Exit.then])
           have hst := fig_store hF3.out.b2 (.int .i64 1) (.bool neg) (.slice ao n c) (.int .i64 10) (.int .i64 pz)
           refine bodyPost_ret (v := .tuple #[.agg #[.int .i64 1, .bool neg, (.slice ao n c), .int .i64 10, .int .i64 pz], .int .i64 (a : Int), .int .i64 40]) ?_ rfl ⟨hst.2 _ _ hF3.out.be (Nat.le_refl _), _, _, _, _, _, _, _, .inl ⟨a, hsc.out, rfl⟩⟩
           rw [results_cell_tmp2 rfl]
           have hload := run_loadVar_row (P := Tryz.prog) _ w.heap.size 55 55 _ (0, 0) _ hst.1 Tryz.underlying55 rfl (by kernel_rfl)
           simp [asAddr, Result.andThen, hload]
          ·have hsc := hid (hexp.out.trans hpn)
           have hfx := hid (hT3.out.figx (sg := sg) (E := E) hL.out (Or.inr ⟨hcc.out, rfl⟩) (by rw [← hL2.out]; exact hr) hsg hE hEn)
           obtain ⟨X, hX⟩ : ∃ X : Int, X = pz + (if sg = [45] then -(satE 1000000 E 0 : Int) else (satE 1000000 E 0 : Int)) := ⟨_, rfl⟩
           rw [← hX]
           replace hX := hid hX
           replace hpn := hid hpn
           replace hr := hid hr
           replace hE := hid hE
           replace hEn := hid hEn
           replace hsg := hid hsg
           go_wp2_with fail
           have hNz := hN3.out.fig hF3.out.b2 (.int .i64 1) (.bool neg) (.slice ao n c) (.int .i64 10) (.int .i64 X)
           obtain ⟨g, z1, z2, z3, z4, z5, z6, z7, z8⟩ := hfx.out
           have hnum := fig_num z1 z2 z3 z4 z5 z6 hNz (p := X) (by rw [hX.out, z7, z8]; rw [hpz.out]; simp)
           (try simp only [Exit.inBlock, Exit.then])
           have hst := fig_store hF3.out.b2 (.int .i64 1) (.bool neg) (.slice ao n c) (.int .i64 10) (.int .i64 X)
           refine bodyPost_ret (v := .tuple #[.agg #[.int .i64 1, .bool neg, (.slice ao n c), .int .i64 10, .int .i64 X], .int .i64 0, .int .i64 0]) ?_ rfl ⟨hst.2 _ _ hF3.out.be (Nat.le_refl _), _, _, _, _, _, _, _, .inr ⟨hsc.out, rfl, hnum⟩⟩
           rw [results_cell_tmp2 rfl]
           have hload := run_loadVar_row (P := Tryz.prog) _ w.heap.size 55 55 _ (0, 0) _ hst.1 Tryz.underlying55 rfl (by kernel_rfl)
           simp [asAddr, Result.andThen, hload]
        ·have hsc := hid (hT3.out.decend hL (fun e => hc (Or.inl e)) (fun e => hc (Or.inr e)))
         have e101 : (c2 == 101) = false := beq_eq_false_iff_ne.2 (fun e => hc (Or.inl e))
         have e101b : (c2 != 101) = true := by rw [bne, e101]; rfl
         have e69 : (c2 == 69) = false := beq_eq_false_iff_ne.2 (fun e => hc (Or.inr e))
         have e69b : (c2 != 69) = true := by rw [bne, e69]; rfl
         clear hc hnil hL hL2
         go_wp2_with fail
         (try simp only [Exit.inBlock, Exit.then])
         have hst := fig_store hF.out.b2 (.int .i64 1) (.bool neg) (.slice ao n c) (.int .i64 10) (.int .i64 pz)
         refine bodyPost_ret (v := .tuple #[.agg #[.int .i64 1, .bool neg, (.slice ao n c), .int .i64 10, .int .i64 pz], .int .i64 (i : Int), .int .i64 40]) ?_ rfl ⟨hst.2 _ _ hF.out.be (Nat.le_refl _), _, _, _, _, _, _, _, .inl ⟨i, hsc.out, rfl⟩⟩
         rw [results_cell_tmp2 rfl]
         have hload := run_loadVar_row (P := Tryz.prog) _ w.heap.size 55 55 _ (0, 0) _ hst.1 Tryz.underlying55 rfl (by kernel_rfl)
         simp [asAddr, Result.andThen, hload]
      ·rw [show baseV true = 16 from rfl]
       obtain ⟨⟨x0, x1, x2, x3, x4⟩, y0, y1, y2, y3, y4⟩ := fig_cells hF.out.b5
       obtain ⟨⟨q0, q1, q2, q3, q4⟩, g0, g1, g2, g3, g4⟩ := fig_cells hF.out.b2
       have hF2 := hid ((hF.out.base 2).pow (4 * pz))
       have hN2 := hid ((hN.out.set5 hF.out.b5 3 (.int .i64 2)).set5 (hF.out.base 2).b5 4 (.int .i64 (4 * pz)))
       by_cases h112 : ∃ r, (bI s).drop i = 112 :: r
       ·obtain ⟨r, hL⟩ := h112
        obtain ⟨hlt, hci, hL2⟩ := at_k hL
        have hexp := hid (hT3.out.hexpow hL hL2)
        replace hL := hid hL
        replace hL2 := hid hL2
        have hpw := hid (fun wx => power69 s hs (i + 1) hlt 1 neg ao n c 2 (4 * pz) (by omega) wx)
        rw [show ((i + 1 : Nat) : Int) = (i : Int) + 1 from rfl] at hpw
        skip
        go_wp2_with fail
        refine (hpw.out _).mono ?_
        rintro e w2 ⟨hb2, hcase⟩
        have hF3 := hid (hF2.out.next hb2)
        have hN3 := hid (hN2.out.mono hb2 (Nat.le_refl _))
        replace hb2 := hid hb2
        clear x0 x1 x2 x3 x4 y0 y1 y2 y3 y4 q0 q1 q2 q3 q4 g0 g1 g2 g3 g4
        obtain ⟨⟨x0, x1, x2, x3, x4⟩, y0, y1, y2, y3, y4⟩ := fig_cells hF3.out.b5
        obtain ⟨⟨q0, q1, q2, q3, q4⟩, g0, g1, g2, g3, g4⟩ := fig_cells hF3.out.b2
        rcases hcase with ⟨a, hpa, rfl⟩ | ⟨hpn, sg, E, hr, hsg, hE, hEn, rfl⟩
        ·have hsc := hid (hexp.out.trans hpa)
         replace hpa := hid hpa
         go_wp2_with fail
         (try simp only [Exit.inBlock, Exit.then])
         have hst := fig_store hF3.out.b2 (.int .i64 1) (.bool neg) (.slice ao n c) (.int .i64 2) (.int .i64 (4 * pz))
         refine bodyPost_ret (v := .tuple #[.agg #[.int .i64 1, .bool neg, (.slice ao n c), .int .i64 2, .int .i64 (4 * pz)], .int .i64 (a : Int), .int .i64 40]) ?_ rfl ⟨hst.2 _ _ hF3.out.be (Nat.le_refl _), _, _, _, _, _, _, _, .inl ⟨a, hsc.out, rfl⟩⟩
         rw [results_cell_tmp2 rfl]
         have hload := run_loadVar_row (P := Tryz.prog) _ w.heap.size 55 55 _ (0, 0) _ hst.1 Tryz.underlying55 rfl (by kernel_rfl)
         simp [asAddr, Result.andThen, hload]
        ·have hsc := hid (hexp.out.trans hpn)
         have hfx := hid (hT3.out.figx (sg := sg) (E := E) hL.out (Or.inl ⟨rfl, rfl⟩) (by rw [← hL2.out]; exact hr) hsg hE hEn)
         obtain ⟨X, hX⟩ : ∃ X : Int, X = (4 * pz) + (if sg = [45] then -(satE 1000000 E 0 : Int) else (satE 1000000 E 0 : Int)) := ⟨_, rfl⟩
         rw [← hX]
         replace hX := hid hX
         replace hpn := hid hpn
         replace hr := hid hr
         replace hE := hid hE
         replace hEn := hid hEn
         replace hsg := hid hsg
         go_wp2_with fail
         have hNz := hN3.out.fig hF3.out.b2 (.int .i64 1) (.bool neg) (.slice ao n c) (.int .i64 2) (.int .i64 X)
         obtain ⟨g, z1, z2, z3, z4, z5, z6, z7, z8⟩ := hfx.out
         have hnum := fig_num z1 z2 z3 z4 z5 z6 hNz (p := X) (by rw [hX.out, z7, z8]; rw [hpz.out]; simp; omega)
         (try simp only [Exit.inBlock, Exit.then])
         have hst := fig_store hF3.out.b2 (.int .i64 1) (.bool neg) (.slice ao n c) (.int .i64 2) (.int .i64 X)
         refine bodyPost_ret (v := .tuple #[.agg #[.int .i64 1, .bool neg, (.slice ao n c), .int .i64 2, .int .i64 X], .int .i64 0, .int .i64 0]) ?_ rfl ⟨hst.2 _ _ hF3.out.be (Nat.le_refl _), _, _, _, _, _, _, _, .inr ⟨hsc.out, rfl, hnum⟩⟩
         rw [results_cell_tmp2 rfl]
         have hload := run_loadVar_row (P := Tryz.prog) _ w.heap.size 55 55 _ (0, 0) _ hst.1 Tryz.underlying55 rfl (by kernel_rfl)
         simp [asAddr, Result.andThen, hload]
       ·have hsc := hid (hT3.out.hexend (fun r hr => h112 ⟨r, hr⟩))
        by_cases hlt : i < s.size
        ·obtain ⟨c2, hc2⟩ : ∃ c2 : Int, c2 = (s[i].toNat : Int) := ⟨_, rfl⟩
         have hci : (s[i].toNat : Int) = c2 := hc2.symm
         have e112 : (c2 == 112) = false := beq_eq_false_iff_ne.2 (fun e => h112 ⟨_, by rw [bI_drop s i hlt, hci, e]⟩)
         have e112b : (c2 != 112) = true := by rw [bne, e112]; rfl
         clear hc2 h112
         go_wp2_with fail
         (try simp only [Exit.inBlock, Exit.then])
         have hst := fig_store hF2.out.b2 (.int .i64 1) (.bool neg) (.slice ao n c) (.int .i64 2) (.int .i64 (4 * pz))
         refine bodyPost_ret (v := .tuple #[.agg #[.int .i64 1, .bool neg, (.slice ao n c), .int .i64 2, .int .i64 (4 * pz)], .int .i64 (i : Int), .int .i64 40]) ?_ rfl ⟨hst.2 _ _ hF2.out.be (Nat.le_refl _), _, _, _, _, _, _, _, .inl ⟨i, hsc.out, rfl⟩⟩
         rw [results_cell_tmp2 rfl]
         have hload := run_loadVar_row (P := Tryz.prog) _ w.heap.size 55 55 _ (0, 0) _ hst.1 Tryz.underlying55 rfl (by kernel_rfl)
         simp [asAddr, Result.andThen, hload]
        ·clear h112
         go_wp2_with fail
         (try simp only [Exit.inBlock, Exit.then])
         have hst := fig_store hF2.out.b2 (.int .i64 1) (.bool neg) (.slice ao n c) (.int .i64 2) (.int .i64 (4 * pz))
         refine bodyPost_ret (v := .tuple #[.agg #[.int .i64 1, .bool neg, (.slice ao n c), .int .i64 2, .int .i64 (4 * pz)], .int .i64 (i : Int), .int .i64 40]) ?_ rfl ⟨hst.2 _ _ hF2.out.be (Nat.le_refl _), _, _, _, _, _, _, _, .inl ⟨i, hsc.out, rfl⟩⟩
         rw [results_cell_tmp2 rfl]
         have hload := run_loadVar_row (P := Tryz.prog) _ w.heap.size 55 55 _ (0, 0) _ hst.1 Tryz.underlying55 rfl (by kernel_rfl)
         simp [asAddr, Result.andThen, hload]
end
end Go.Proofs.YtlgneiaenanfaaaGreatDoor
