/- Walks and plain laws, merged: SenS SenT SenU. No condition. -/
import Derived.Test.YtlabadkfkbenoaaGreatDoorKm10
import Derived.Test.YtlabadkfkbenoaaGreatDoorKm01
namespace Go.Proofs.YtlabadkfkbenoaaGreatDoor
open Go.RowKit
set_option linter.unusedVariables false
set_option linter.unusedSimpArgs false
set_option maxRecDepth 100000
set_option maxHeartbeats 64000000
section
open Go.Shelf
/-! ### a world of some blocks alone -/
def onlyW (w : World) (p : Nat → Bool) : World := { w with heap := w.heap.mapIdx fun i o => if p i then o else .map #[] 0 }
theorem cell_only (w : World) (p : Nat → Bool) (a : Addr) : (onlyW w p).cell? a = if p a.block then w.cell? a else none := by
 unfold onlyW World.cell?
 simp only [Array.getElem?_mapIdx]
 cases hp : p a.block with
 | true =>
  cases h : w.heap[a.block]? with
  | none => simp
  | some o => simp
 | false =>
  cases h : w.heap[a.block]? with
  | none => simp
  | some o => simp
abbrev Cells (w w' : World) : Prop := ∀ a u, w.cell? a = some u → w'.cell? a = some u
theorem cells_only (w : World) (p : Nat → Bool) : Cells (onlyW w p) w := fun a u h => by
 rw [cell_only] at h
 split at h
 ·exact h
 ·cases h
theorem cells_move {w w' : World} {p q : Nat → Bool} (h : ∀ a u, p a.block = true → w.cell? a = some u → q a.block = true ∧ w'.cell? a = some u) : Cells (onlyW w p) (onlyW w' q) := fun a u hc => by
 rw [cell_only] at hc ⊢
 split at hc
 ·rename_i hp
  obtain ⟨h1, h2⟩ := h a u hp hc
  rw [if_pos h1]
  exact h2
 ·cases hc
theorem cells_below {w w' : World} (h : Below w.heap.size w w') : Cells w w' := fun _ _ hc => cell_on hc h
theorem HeadE.sub {w w' : World} {h : EH} {b q : Nat} (x : HeadE w false h b q) (hs : Cells w w') : HeadE w' false h b q := by
 obtain ⟨⟨t, y0, y0'⟩, y1, y2, y3, y4, y5⟩ := x
 exact ⟨⟨t, hs _ _ y0, y0'⟩, hs _ _ y1, hs _ _ y2, hs _ _ y3, hs _ _ y4, hs _ _ y5⟩
theorem HeadS.sub {w w' : World} {h : SH} {b q : Nat} (x : HeadS w false h b q) (hs : Cells w w') : HeadS w' false h b q := by
 obtain ⟨⟨t, y0, y0'⟩, y1, y2, y3, y4⟩ := x
 exact ⟨⟨t, hs _ _ y0, y0'⟩, hs _ _ y1, hs _ _ y2, hs _ _ y3, hs _ _ y4⟩
theorem ExsIn.sub {w w' : World} (hs : Cells w w') : ∀ {l : Exs} {b off k : Nat}, ExsIn w false none l b off k → ExsIn w' false none l b off k
 | .nil, _, _, _, _ => trivial
 | .cons h kids rest, b, off, k, ⟨x1, ⟨ka, kb, koff, kcap, y1, y2, y3⟩, x3⟩ =>
  ⟨x1.sub hs, ⟨ka, kb, koff, kcap, hs _ _ y1, y2.imp id (fun z => ⟨z.1, Zone.any⟩), ExsIn.sub hs y3⟩, ExsIn.sub hs x3⟩
theorem SlE.sub {w w' : World} {l : Exs} {v : Value} (h : SlE w false none l v) (hs : Cells w w') : SlE w' false none l v := by
 obtain ⟨ka, kb, koff, kcap, rfl, y2, y3⟩ := h
 exact ⟨ka, kb, koff, kcap, rfl, y2.imp id (fun z => ⟨z.1, Zone.any⟩), y3.sub hs⟩
theorem StsIn.sub {w w' : World} (hs : Cells w w') : ∀ {l : Sts} {b off k : Nat}, StsIn w false none l b off k → StsIn w' false none l b off k
 | .nil, _, _, _, _ => trivial
 | .cons h x body els rest, b, off, k, ⟨x1, ⟨v, z1, z2⟩, ⟨ka, kb, koff, kcap, y1, y2, y3⟩, ⟨ea, eb, eoff, ecap, u1, u2, u3⟩, x3⟩ =>
  ⟨x1.sub hs, ⟨v, hs _ _ z1, z2.sub hs⟩, ⟨ka, kb, koff, kcap, hs _ _ y1, y2.imp id (fun z => ⟨z.1, Zone.any⟩), StsIn.sub hs y3⟩, ⟨ea, eb, eoff, ecap, hs _ _ u1, u2.imp id (fun z => ⟨z.1, Zone.any⟩), StsIn.sub hs u3⟩, StsIn.sub hs x3⟩
theorem SlS.sub {w w' : World} {l : Sts} {v : Value} (h : SlS w false none l v) (hs : Cells w w') : SlS w' false none l v := by
 obtain ⟨ka, kb, koff, kcap, rfl, y2, y3⟩ := h
 exact ⟨ka, kb, koff, kcap, rfl, y2.imp id (fun z => ⟨z.1, Zone.any⟩), y3.sub hs⟩
abbrev newB (n : Nat) : Nat → Bool := fun b => decide (n ≤ b)
abbrev newBg (n g : Nat) : Nat → Bool := fun b => decide (n ≤ b) && b != g
theorem BldI.row {α : Type} {w : World} {B : Nat} {e : TypeId} {n : Nat} {R : Nat → α → List Value → Prop} {l : List α} {g cap m : Nat} (h : BldI w B e n R l (.slice (some ⟨g, 0, none⟩) m cap)) (hm : m = l.length) (k : Nat) (hk : k < l.length) :
  ∃ c, R k l[k] c ∧ ∀ j, j < n → w.cell? ⟨g, k * n + j, none⟩ = c[j]? := by
 subst hm
 obtain ⟨cs, h1, h2, h3⟩ := h
 have hl : ∀ i (h : i < cs.length), cs[i].length = n := fun i h => (h2 i (by omega) h).1
 refine ⟨cs[k], (h2 k hk (by omega)).2, fun j hj => ?_⟩
 have hlt : k * n + j < l.length * n := by
  calc k * n + j < k * n + n := by omega
   _ = (k + 1) * n := by rw [Nat.add_mul]; omega
   _ ≤ l.length * n := Nat.mul_le_mul_right _ (by omega)
 rw [h3.cellAt _ hlt, flatten_at hl k (by omega) j hj]
theorem BldI.shape {α : Type} {w : World} {B : Nat} {e : TypeId} {n : Nat} {R : Nat → α → List Value → Prop} {l : List α} {v : Value} (h : BldI w B e n R l v) : ∃ va vc, v = .slice va l.length vc ∧ (l.length = 0 ∨ ∃ g, va = some ⟨g, 0, none⟩) := by
 obtain ⟨cs, h1, h2, h3⟩ := h
 rcases h3.2 with ⟨rfl, hn⟩ | ⟨g, cap, cur, rfl, _⟩
 ·exact ⟨none, 0, by rw [hn], .inl hn⟩
 ·exact ⟨_, _, rfl, .inr ⟨g, rfl⟩⟩
theorem setCell_other (w : World) (b i : Nat) (u : Value) (a : Addr) (h : a.block ≠ b) : (w.setCell ⟨b, i, none⟩ u).cell? a = w.cell? a :=
 World.cell?_of_block (Below.heap_setCell w ⟨b, i, none⟩ u a.block h)
def XcE (w0 wr : World) (g : Nat) (d : Bool) (a : EH × Exs) (c : List Value) : Prop :=
 ∃ t v, c = [.int .i64 t, .int .u8 a.1.kind, .int .u32 a.1.word, .int .u8 a.1.type, .string a.1.name, .string a.1.sign, v] ∧ if d then SlE (onlyW wr (newBg w0.heap.size g)) false none a.2 v else SlE w0 false none a.2 v
theorem XcE.on {w0 wr w' : World} {g : Nat} {d : Bool} {a : EH × Exs} {c : List Value} (h : XcE w0 wr g d a c) (hs : Cells (onlyW wr (newBg w0.heap.size g)) (onlyW w' (newBg w0.heap.size g))) : XcE w0 w' g d a c := by
 obtain ⟨t, v, hc, hv⟩ := h
 refine ⟨t, v, hc, ?_⟩
 cases d
 ·exact hv
 ·exact hv.sub hs
theorem cells_g_below {w w' : World} {n g : Nat} (h : Below w.heap.size w w') : Cells (onlyW w (newBg n g)) (onlyW w' (newBg n g)) := cells_move fun a u hp hc => ⟨hp, cell_on hc h⟩
theorem cells_g_set {w : World} {n g i : Nat} {u : Value} : Cells (onlyW w (newBg n g)) (onlyW (w.setCell ⟨g, i, none⟩ u) (newBg n g)) := cells_move fun a v hp hc => ⟨hp, by
 rw [setCell_other _ _ _ _ _ (by simp at hp; exact hp.2)]
 exact hc⟩
theorem ExpR.cells {w : World} {a : EH × Exs} {b q : Nat} (h : ExpR w false none a b q) : ∃ c : List Value, c.length = 7 ∧ XcE w w 0 false a c ∧ (∀ u ∈ c, u.oneCell' = true) ∧ ∀ j u, c[j]? = some u → w.cell? ⟨b, q + j, none⟩ = some u := by
 obtain ⟨⟨⟨t, y0, _⟩, y1, y2, y3, y4, y5⟩, ⟨v, y6, hv⟩⟩ := h
 have hv2 := hv
 obtain ⟨ka, kc, rfl⟩ := hv2.shape'
 refine ⟨_, rfl, ⟨t, _, rfl, hv⟩, by simp [Value.oneCell'], fun j u hj => ?_⟩
 match j, hj with
 | 0, hj => simp at hj; subst hj; exact y0
 | 1, hj => simp at hj; subst hj; exact y1
 | 2, hj => simp at hj; subst hj; exact y2
 | 3, hj => simp at hj; subst hj; exact y3
 | 4, hj => simp at hj; subst hj; exact y4
 | 5, hj => simp at hj; subst hj; exact y5
 | 6, hj => simp at hj; subst hj; exact y6
 | j + 7, hj => simp at hj
theorem copied_done {w0 wr : World} {l : Exs} {v : Value} (hg : ∀ g, v.ownBlock = some g → BldI wr w0.heap.size 134 7 (fun _ => XcE w0 wr g true) l.toL v) (hn : v.ownBlock = none → l.len = 0) (hs : ∃ va vc, v = .slice va l.len vc ∧ (l.len = 0 ∨ ∃ g, va = some ⟨g, 0, none⟩)) : SlE (onlyW wr (newB w0.heap.size)) false none l v := by
 obtain ⟨va, vc, rfl, hs⟩ := hs
 rcases hs with h0 | ⟨g, rfl⟩
 ·cases l with
  | nil => exact ⟨va, 0, 0, vc, rfl, .inl ⟨rfl, rfl⟩, trivial⟩
  | cons h k r => simp [Exs.len] at h0
 ·have h := hg g rfl
  refine SlE_iff.2 ⟨_, g, 0, vc, by rw [Exs.toL_len], .inr ⟨rfl, Zone.any⟩, fun i hi => ?_⟩
  obtain ⟨c, ⟨t, v, rfl, hv⟩, hc⟩ := h.row (by rw [Exs.toL_len]) i hi
  have hge := (h.lt g rfl).1
  have hb : ∀ j u, j < 7 → ([Value.int .i64 t, .int .u8 l.toL[i].1.kind, .int .u32 l.toL[i].1.word, .int .u8 l.toL[i].1.type, .string l.toL[i].1.name, .string l.toL[i].1.sign, v] : List Value)[j]? = some u → (onlyW wr (newB w0.heap.size)).cell? ⟨g, 0 + i * 7 + j, none⟩ = some u := fun j u hj hu => by
   rw [cell_only, if_pos (by simpa using hge), Nat.zero_add, hc j hj, hu]
  exact ⟨⟨⟨t, hb 0 _ (by omega) rfl, fun e => by cases e⟩, hb 1 _ (by omega) rfl, hb 2 _ (by omega) rfl, hb 3 _ (by omega) rfl, hb 4 _ (by omega) rfl, hb 5 _ (by omega) rfl⟩,
   ⟨v, hb 6 _ (by omega) rfl, hv.sub (cells_move fun a u hp hc => ⟨by simp at hp ⊢; exact hp.1, hc⟩)⟩⟩
theorem expressions114 : ∀ (n : Nat) (l : Exs) (v : Value) (w : World), l.sz < n → l.sz ≤ 100000000 → SlE w false none l v →
  Calls Tryz.prog 114 #[v] w fun e w' => ∃ v', e = .returned v' ∧ SlE (onlyW w' (newB w.heap.size)) false none l v' ∧ Below w.heap.size w w' := by
 intro n
 induction n with
 | zero => intro l v w hn; omega
 | succ n ih =>
  have IH := hid ih
  clear ih
  intro l v w hn hs hv
  have hl := l.len_le
  have hS := hid (And.intro hn hs)
  have hV := hid hv
  obtain ⟨ka, kc, rfl⟩ := hv.shape'
  obtain ⟨cs, c1, c2, c3, -, c5, c6⟩ := SlR.cells (by omega) (SlE_iff.1 hv) (XcE w w 0 false) (fun a b q h => h.cells)
  have hll : l.toL.length = l.len := Exs.toL_len l
  have cc := hid (clone142 ka l.len kc cs.flatten w c5 (hid c6) (hid c3) (by omega))
  have C12 := hid (And.intro c1 c2)
  have HLL := hid hll
  obtain ⟨len, hlen⟩ : ∃ m, m = l.len := ⟨_, rfl⟩
  rw [← hlen] at cc
  rw [← hlen] at hl
  rw [← hlen]
  have hkb : len ≤ 100000000 := by have := hS.out; omega
  have HL := hid hlen
  clear hn hs hv c1 c2 c3 c5 c6 hll hlen
  go_enter Tryz.func114, Tryz.ntmps114
  go_wp2_with fail
  refine cc.out.mono ?_
  clear cc
  rintro e w1 ⟨v1, rfl, hown, hb1⟩
  have hB1 := hid hb1
  have hBD : Hid (∀ g, BldI w1 w.heap.size 134 7 (fun i => XcE w w1 g (decide (i < 0))) l.toL v1) := hid (fun g => ⟨cs, C12.out.1, fun i h h' => ⟨(C12.out.2 i h h').1, by
   obtain ⟨t, v, hc, hv⟩ := (C12.out.2 i h h').2
   exact ⟨t, v, hc, by simpa using hv⟩⟩, by rw [HLL.out, ← HL.out]; exact hown⟩)
  have hsh := (hBD.out 0).shape
  rw [HLL.out, ← HL.out] at hsh
  obtain ⟨va, vc, rfl, hva⟩ := hsh
  clear hown hb1 C12
  go_wp2_with fail
  go_loopw [10] (fun i wr => ∃ k : Nat, i = .int .i64 k ∧ k ≤ len ∧ (∀ g, (Value.slice va len vc).ownBlock = some g → BldI wr w.heap.size 134 7 (fun i => XcE w wr g (decide (i < k))) l.toL (.slice va len vc)) ∧ Below w.heap.size w wr) (fun i _ => len - (intOf i).toNat)
  case atStart => exact ⟨0, rfl, Nat.zero_le _, fun g _ => hBD.out g, hB1.out⟩
  case round =>
   clear hBD hB1
   obtain ⟨k, rfl, hk, hbd, hb⟩ := hrel
   have HB := hid hb
   have HBD := hid hbd
   clear hbd
   by_cases hlt : k < len
   ·have hva2 : ∃ g, va = some ⟨g, 0, none⟩ := by rcases hva with q | q; (· omega); (· exact q)
    obtain ⟨g, rfl⟩ := hva2
    have hD := HBD.out g rfl
    have hkl : k < l.toL.length := by rw [HLL.out, ← HL.out]; exact hlt
    obtain ⟨c, ⟨t, vk, hc, hvk⟩, hcell⟩ := hD.row (by rw [HLL.out, ← HL.out]) k hkl
    simp only [Nat.lt_irrefl, decide_false, Bool.false_eq_true, if_false] at hvk
    have hsz := Exs.toL_sz l _ (List.getElem_mem hkl)
    have hR2 : Hid (∀ (w2 : World) (u : Value), BldI w2 w.heap.size 134 7 (fun i => XcE w w2 g (decide (i < k))) l.toL (.slice (some ⟨g, 0, none⟩) len vc) → SlE (onlyW (w2.setCell ⟨g, k * 7 + 6, none⟩ u) (newBg w.heap.size g)) false none l.toL[k].2 u → BldI (w2.setCell ⟨g, k * 7 + 6, none⟩ u) w.heap.size 134 7 (fun i => XcE w (w2.setCell ⟨g, k * 7 + 6, none⟩ u) g (decide (i < k + 1))) l.toL (.slice (some ⟨g, 0, none⟩) len vc)) := hid (fun w2 u hD2 hu => by
     refine hD2.store (by rw [HLL.out, ← HL.out]) k hkl 6 (by omega) u (fun i a c hi hx => ?_) (fun c hx => ?_)
     ·have e1 : decide (i < k + 1) = decide (i < k) := by simp; omega
      rw [e1]
      exact hx.on cells_g_set
     ·obtain ⟨t, v, rfl, -⟩ := hx
      exact ⟨t, u, rfl, by simpa using hu⟩)
    obtain ⟨ak, hak⟩ : ∃ a, a = l.toL[k] := ⟨_, rfl⟩
    rw [← hak] at hc hvk hsz hR2
    obtain ⟨⟨b0, b1, b2, b3, b4, b5⟩, kids⟩ := ak
    simp only [] at hc hvk hsz hR2
    subst hc
    obtain ⟨xa, xc, rfl⟩ := hvk.shape'
    have x0 := hcell 0 (by omega)
    have x1 := hcell 1 (by omega)
    have x2 := hcell 2 (by omega)
    have x3 := hcell 3 (by omega)
    have x4 := hcell 4 (by omega)
    have x5 := hcell 5 (by omega)
    have x6 := hcell 6 (by omega)
    have f6 := hD.free (by rw [HLL.out, ← HL.out]) (k * 7 + 6)
    simp at x0 x1 x2 x3 x4 x5 x6
    have hBX := hid ((Below.refl wr.heap.size wr).alloc (Nat.le_refl _) (.cells #[.int .i64 t, .int .u8 b1, .int .u32 b2, .int .u8 b3, .string b4, .string b5, .slice xa kids.len xc] 134))
    have cx := hid (IH.out kids (.slice xa kids.len xc) (wr.alloc (.cells #[.int .i64 t, .int .u8 b1, .int .u32 b2, .int .u8 b3, .string b4, .string b5, .slice xa kids.len xc] 134)) (by have := hS.out; omega) (by have := hS.out; omega) (hvk.mono (hb.trans (hBX.out.mono hb.size))))
    have hgl := (hD.lt g rfl)
    have HG := hid hgl
    clear hcell hvk hsz hb hD hak hkl hgl
    go_wp2_with fail
    refine cx.out.mono ?_
    rintro e w2 ⟨v2, rfl, hv2, hb2⟩
    obtain ⟨ya, yc, rfl⟩ := hv2.shape'
    have HV2 := hid hv2
    have HB2 := hid (hBX.out.trans (hb2.mono hBX.out.size))
    have hD2 := hid ((HBD.out g rfl).on (grown_of_below HB2.out) (.inr (by simp [Value.ownBlock])) (R' := fun i => XcE w w2 g (decide (i < k))) (fun i a c h => h.on (cells_g_below HB2.out)))
    have f6b := hD2.out.free (by rw [HLL.out, ← HL.out]) (k * 7 + 6)
    have x6b := cell_on x6 HB2.out
    clear hv2 hb2 cx
    go_wp2_with fail
    have hD3 := hid (hR2.out w2 (.slice ya kids.len yc) hD2.out (HV2.out.sub (cells_move fun a u hp hc => by
     simp at hp
     have := HG.out
     refine ⟨by simp; omega, ?_⟩
     rw [setCell_other _ _ _ _ _ (by omega)]
     exact hc)))
    exact ⟨⟨k + 1, by go_num, by omega, fun g' hg' => by cases hg'; exact hD3.out, (HB.out.trans (HB2.out.mono HB.out.size)).setCell (by have := HG.out; simpa using this.1) _⟩, by simp only [intOf]; omega⟩
   ·have hk2 : k = len := by omega
    subst k
    go_wp2_with fail
    go_ret
    refine ⟨.slice va len vc, rfl, ?_, HB.out⟩
    refine copied_done (fun g hg => ?_) (fun hn => ?_) ⟨va, vc, by rw [HL.out], by rw [← HL.out]; exact hva⟩
    ·obtain ⟨cs, d1, d2, d3⟩ := HBD.out g hg
     refine ⟨cs, d1, fun i h h' => ⟨(d2 i h h').1, ?_⟩, d3⟩
     have hi : i < len := by have := HLL.out; have := HL.out; omega
     have hd : decide (i < len) = true := by simpa using hi
     have h2 : XcE w wr g (decide (i < len)) l.toL[i] cs[i] := (d2 i h h').2
     rw [hd] at h2
     exact h2
    ·rw [← HL.out]
     rcases hva with h0 | ⟨g, rfl⟩
     ·exact h0
     ·simp [Value.ownBlock] at hn
end
section
open Go.Shelf
def XcS (w0 wr : World) (g : Nat) (d : Bool) (a : SB) (c : List Value) : Prop :=
 ∃ t v5 v6 v7, c = [.int .i64 t, .int .u8 a.1.kind, .string a.1.name, .int .u8 a.1.type, .string a.1.sign, v5, v6, v7] ∧
  if d then SlE (onlyW wr (newBg w0.heap.size g)) false none a.2.1 v5 ∧ SlS (onlyW wr (newBg w0.heap.size g)) false none a.2.2.1 v6 ∧ SlS (onlyW wr (newBg w0.heap.size g)) false none a.2.2.2 v7
  else SlE w0 false none a.2.1 v5 ∧ SlS w0 false none a.2.2.1 v6 ∧ SlS w0 false none a.2.2.2 v7
theorem XcS.on {w0 wr w' : World} {g : Nat} {d : Bool} {a : SB} {c : List Value} (h : XcS w0 wr g d a c) (hs : Cells (onlyW wr (newBg w0.heap.size g)) (onlyW w' (newBg w0.heap.size g))) : XcS w0 w' g d a c := by
 obtain ⟨t, v5, v6, v7, hc, hv⟩ := h
 refine ⟨t, v5, v6, v7, hc, ?_⟩
 cases d
 ·exact hv
 ·exact ⟨hv.1.sub hs, hv.2.1.sub hs, hv.2.2.sub hs⟩
theorem StmR.cells {w : World} {a : SB} {b q : Nat} (h : StmR w false none a b q) : ∃ c : List Value, c.length = 8 ∧ XcS w w 0 false a c ∧ (∀ u ∈ c, u.oneCell' = true) ∧ ∀ j u, c[j]? = some u → w.cell? ⟨b, q + j, none⟩ = some u := by
 obtain ⟨⟨⟨t, y0, _⟩, y1, y2, y3, y4⟩, ⟨v5, y5, h5⟩, ⟨v6, y6, h6⟩, ⟨v7, y7, h7⟩⟩ := h
 have hh := And.intro h5 (And.intro h6 h7)
 obtain ⟨k5, d5, rfl⟩ := h5.shape'
 obtain ⟨k6, d6, rfl⟩ := h6.shape'
 obtain ⟨k7, d7, rfl⟩ := h7.shape'
 refine ⟨_, rfl, ⟨t, _, _, _, rfl, hh⟩, by simp [Value.oneCell'], fun j u hj => ?_⟩
 match j, hj with
 | 0, hj => simp at hj; subst hj; exact y0
 | 1, hj => simp at hj; subst hj; exact y1
 | 2, hj => simp at hj; subst hj; exact y2
 | 3, hj => simp at hj; subst hj; exact y3
 | 4, hj => simp at hj; subst hj; exact y4
 | 5, hj => simp at hj; subst hj; exact y5
 | 6, hj => simp at hj; subst hj; exact y6
 | 7, hj => simp at hj; subst hj; exact y7
 | j + 8, hj => simp at hj
theorem copiedS_done {w0 wr : World} {l : Sts} {v : Value} (hg : ∀ g, v.ownBlock = some g → BldI wr w0.heap.size 109 8 (fun _ => XcS w0 wr g true) l.toL v) (hs : ∃ va vc, v = .slice va l.len vc ∧ (l.len = 0 ∨ ∃ g, va = some ⟨g, 0, none⟩)) : SlS (onlyW wr (newB w0.heap.size)) false none l v := by
 obtain ⟨va, vc, rfl, hs⟩ := hs
 rcases hs with h0 | ⟨g, rfl⟩
 ·cases l with
  | nil => exact ⟨va, 0, 0, vc, rfl, .inl ⟨rfl, rfl⟩, trivial⟩
  | cons h x b e r => simp [Sts.len] at h0
 ·have h := hg g rfl
  refine SlS_iff.2 ⟨_, g, 0, vc, by rw [Sts.toL_len], .inr ⟨rfl, Zone.any⟩, fun i hi => ?_⟩
  obtain ⟨c, ⟨t, v5, v6, v7, rfl, hv5, hv6, hv7⟩, hc⟩ := h.row (by rw [Sts.toL_len]) i hi
  have hge := (h.lt g rfl).1
  have hb : ∀ j u, j < 8 → ([Value.int .i64 t, .int .u8 l.toL[i].1.kind, .string l.toL[i].1.name, .int .u8 l.toL[i].1.type, .string l.toL[i].1.sign, v5, v6, v7] : List Value)[j]? = some u → (onlyW wr (newB w0.heap.size)).cell? ⟨g, 0 + i * 8 + j, none⟩ = some u := fun j u hj hu => by
   rw [cell_only, if_pos (by simpa using hge), Nat.zero_add, hc j hj, hu]
  have hm : Cells (onlyW wr (newBg w0.heap.size g)) (onlyW wr (newB w0.heap.size)) := cells_move fun a u hp hc => ⟨by simp at hp ⊢; exact hp.1, hc⟩
  exact ⟨⟨⟨t, hb 0 _ (by omega) rfl, fun e => by cases e⟩, hb 1 _ (by omega) rfl, hb 2 _ (by omega) rfl, hb 3 _ (by omega) rfl, hb 4 _ (by omega) rfl⟩,
   ⟨v5, hb 5 _ (by omega) rfl, hv5.sub hm⟩, ⟨v6, hb 6 _ (by omega) rfl, hv6.sub hm⟩, ⟨v7, hb 7 _ (by omega) rfl, hv7.sub hm⟩⟩
theorem grown_any {w w' : World} (h : Below w.heap.size w w') (row : Option Nat) : w.grownBy w' row := ⟨h.os, h.tape, h.output, h.size, fun k hk _ => h.block k hk⟩
theorem sts_store3 {w w4 : World} {l : List SB} {g k len vc : Nat} (hD : BldI w4 w.heap.size 109 8 (fun i => XcS w w4 g (decide (i < k))) l (.slice (some ⟨g, 0, none⟩) len vc)) (hm : len = l.length) (hk : k < l.length) (v5 v6 v7 : Value)
  (h5 : SlE (onlyW w4 (newBg w.heap.size g)) false none l[k].2.1 v5) (h6 : SlS (onlyW w4 (newBg w.heap.size g)) false none l[k].2.2.1 v6) (h7 : SlS (onlyW w4 (newBg w.heap.size g)) false none l[k].2.2.2 v7) :
  BldI (((w4.setCell ⟨g, k * 8 + 5, none⟩ v5).setCell ⟨g, k * 8 + 6, none⟩ v6).setCell ⟨g, k * 8 + 7, none⟩ v7) w.heap.size 109 8 (fun i => XcS w (((w4.setCell ⟨g, k * 8 + 5, none⟩ v5).setCell ⟨g, k * 8 + 6, none⟩ v6).setCell ⟨g, k * 8 + 7, none⟩ v7) g (decide (i < k + 1))) l (.slice (some ⟨g, 0, none⟩) len vc) := by
 have s1 := hD.store (R' := fun i a c => (i ≠ k → XcS w (w4.setCell ⟨g, k * 8 + 5, none⟩ v5) g (decide (i < k)) a c) ∧ (i = k → ∃ t u6 u7, c = [.int .i64 t, .int .u8 a.1.kind, .string a.1.name, .int .u8 a.1.type, .string a.1.sign, v5, u6, u7])) hm k hk 5 (by omega) v5
  (fun i a c hi hx => ⟨fun _ => hx.on cells_g_set, fun e => absurd e hi⟩) (fun c hx => by
   obtain ⟨t, u5, u6, u7, rfl, -⟩ := hx
   exact ⟨fun e => absurd rfl e, fun _ => ⟨t, u6, u7, rfl⟩⟩)
 have s2 := s1.store (R' := fun i a c => (i ≠ k → XcS w ((w4.setCell ⟨g, k * 8 + 5, none⟩ v5).setCell ⟨g, k * 8 + 6, none⟩ v6) g (decide (i < k)) a c) ∧ (i = k → ∃ t u7, c = [.int .i64 t, .int .u8 a.1.kind, .string a.1.name, .int .u8 a.1.type, .string a.1.sign, v5, v6, u7])) hm k hk 6 (by omega) v6
  (fun i a c hi hx => ⟨fun _ => (hx.1 hi).on cells_g_set, fun e => absurd e hi⟩) (fun c hx => by
   obtain ⟨t, u6, u7, rfl⟩ := hx.2 rfl
   exact ⟨fun e => absurd rfl e, fun _ => ⟨t, u7, rfl⟩⟩)
 refine s2.store hm k hk 7 (by omega) v7 (fun i a c hi hx => ?_) (fun c hx => ?_)
 ·have e1 : decide (i < k + 1) = decide (i < k) := by simp; omega
  rw [e1]
  exact (hx.1 hi).on cells_g_set
 ·obtain ⟨t, u7, rfl⟩ := hx.2 rfl
  have hm3 : Cells (onlyW w4 (newBg w.heap.size g)) (onlyW (((w4.setCell ⟨g, k * 8 + 5, none⟩ v5).setCell ⟨g, k * 8 + 6, none⟩ v6).setCell ⟨g, k * 8 + 7, none⟩ v7) (newBg w.heap.size g)) := fun a u h => cells_g_set _ _ (cells_g_set _ _ (cells_g_set _ _ h))
  exact ⟨t, v5, v6, v7, rfl, by simpa using ⟨h5.sub hm3, h6.sub hm3, h7.sub hm3⟩⟩
theorem statements72 : ∀ (n : Nat) (l : Sts) (v : Value) (w : World), l.sz < n → l.sz ≤ 100000000 → SlS w false none l v →
  Calls Tryz.prog 72 #[v] w fun e w' => ∃ v', e = .returned v' ∧ SlS (onlyW w' (newB w.heap.size)) false none l v' ∧ Below w.heap.size w w' := by
 intro n
 induction n with
 | zero => intro l v w hn; omega
 | succ n ih =>
  have IH := hid ih
  clear ih
  intro l v w hn hs hv
  have hl := l.len_le
  have hS := hid (And.intro hn hs)
  have hV := hid hv
  obtain ⟨ka, kc, rfl⟩ := hv.shape'
  obtain ⟨cs, c1, c2, c3, -, c5, c6⟩ := SlR.cells (by omega) (SlS_iff.1 hv) (XcS w w 0 false) (fun a b q h => h.cells)
  have hll : l.toL.length = l.len := Sts.toL_len l
  have cc := hid (clone113 ka l.len kc cs.flatten w c5 (hid c6) (hid c3) (by omega))
  have C12 := hid (And.intro c1 c2)
  have HLL := hid hll
  obtain ⟨len, hlen⟩ : ∃ m, m = l.len := ⟨_, rfl⟩
  rw [← hlen] at cc
  rw [← hlen] at hl
  rw [← hlen]
  have hkb : len ≤ 100000000 := by have := hS.out; omega
  have HL := hid hlen
  clear hn hs hv c1 c2 c3 c5 c6 hll hlen
  go_enter Tryz.func72, Tryz.ntmps72
  go_wp2_with fail
  refine cc.out.mono ?_
  clear cc
  rintro e w1 ⟨v1, rfl, hown, hb1⟩
  have hB1 := hid hb1
  have hBD : Hid (∀ g, BldI w1 w.heap.size 109 8 (fun i => XcS w w1 g (decide (i < 0))) l.toL v1) := hid (fun g => ⟨cs, C12.out.1, fun i h h' => ⟨(C12.out.2 i h h').1, by
   obtain ⟨t, u5, u6, u7, hc, hv⟩ := (C12.out.2 i h h').2
   exact ⟨t, u5, u6, u7, hc, by simpa using hv⟩⟩, by rw [HLL.out, ← HL.out]; exact hown⟩)
  have hsh := (hBD.out 0).shape
  rw [HLL.out, ← HL.out] at hsh
  obtain ⟨va, vc, rfl, hva⟩ := hsh
  clear hown hb1 C12
  go_wp2_with fail
  go_loopw [10] (fun i wr => ∃ k : Nat, i = .int .i64 k ∧ k ≤ len ∧ (∀ g, (Value.slice va len vc).ownBlock = some g → BldI wr w.heap.size 109 8 (fun i => XcS w wr g (decide (i < k))) l.toL (.slice va len vc)) ∧ Below w.heap.size w wr) (fun i _ => len - (intOf i).toNat)
  case atStart => exact ⟨0, rfl, Nat.zero_le _, fun g _ => hBD.out g, hB1.out⟩
  case round =>
   clear hBD hB1
   obtain ⟨k, rfl, hk, hbd, hb⟩ := hrel
   have HB := hid hb
   have HBD := hid hbd
   clear hbd
   by_cases hlt : k < len
   ·have hva2 : ∃ g, va = some ⟨g, 0, none⟩ := by rcases hva with q | q; (· omega); (· exact q)
    obtain ⟨g, rfl⟩ := hva2
    have hD := HBD.out g rfl
    have hkl : k < l.toL.length := by rw [HLL.out, ← HL.out]; exact hlt
    have hm : len = l.toL.length := by rw [HLL.out, ← HL.out]
    obtain ⟨c, ⟨t, u5, u6, u7, hc, hvk⟩, hcell⟩ := hD.row hm k hkl
    simp only [Nat.lt_irrefl, decide_false, Bool.false_eq_true, if_false] at hvk
    obtain ⟨h5, h6, h7⟩ := hvk
    have hsz := Sts.toL_sz l _ (List.getElem_mem hkl)
    have hR2 : Hid (∀ (w4 : World) (v5 v6 v7 : Value), BldI w4 w.heap.size 109 8 (fun i => XcS w w4 g (decide (i < k))) l.toL (.slice (some ⟨g, 0, none⟩) len vc) → SlE (onlyW w4 (newBg w.heap.size g)) false none l.toL[k].2.1 v5 → SlS (onlyW w4 (newBg w.heap.size g)) false none l.toL[k].2.2.1 v6 → SlS (onlyW w4 (newBg w.heap.size g)) false none l.toL[k].2.2.2 v7 → BldI (((w4.setCell ⟨g, k * 8 + 5, none⟩ v5).setCell ⟨g, k * 8 + 6, none⟩ v6).setCell ⟨g, k * 8 + 7, none⟩ v7) w.heap.size 109 8 (fun i => XcS w (((w4.setCell ⟨g, k * 8 + 5, none⟩ v5).setCell ⟨g, k * 8 + 6, none⟩ v6).setCell ⟨g, k * 8 + 7, none⟩ v7) g (decide (i < k + 1))) l.toL (.slice (some ⟨g, 0, none⟩) len vc)) := hid (fun w4 v5 v6 v7 hD2 k5 k6 k7 => sts_store3 hD2 hm hkl v5 v6 v7 k5 k6 k7)
    have HM := hid hm
    obtain ⟨ak, hak⟩ : ∃ a, a = l.toL[k] := ⟨_, rfl⟩
    rw [← hak] at hc h5 h6 h7 hsz hR2
    obtain ⟨⟨b0, b1, b2, b3, b4⟩, x, bd, el⟩ := ak
    simp only [] at hc h5 h6 h7 hsz hR2
    subst hc
    obtain ⟨xa, xc, rfl⟩ := h5.shape'
    obtain ⟨ba, bc, rfl⟩ := h6.shape'
    obtain ⟨ea, ec, rfl⟩ := h7.shape'
    have x0 := hcell 0 (by omega)
    have x1 := hcell 1 (by omega)
    have x2 := hcell 2 (by omega)
    have x3 := hcell 3 (by omega)
    have x4 := hcell 4 (by omega)
    have x5 := hcell 5 (by omega)
    have x6 := hcell 6 (by omega)
    have x7 := hcell 7 (by omega)
    simp at x0 x1 x2 x3 x4 x5 x6 x7
    have H5 := hid (h5.mono hb)
    have H6 := hid (h6.mono hb)
    have H7 := hid (h7.mono hb)
    have hSZ := hid (show x.sz < n ∧ x.sz ≤ 100000000 ∧ bd.sz < n ∧ bd.sz ≤ 100000000 ∧ el.sz < n ∧ el.sz ≤ 100000000 by have := hS.out; omega)
    have hBX := hid ((Below.refl wr.heap.size wr).alloc (Nat.le_refl _) (.cells #[.int .i64 t, .int .u8 b1, .string b2, .int .u8 b3, .string b4, .slice xa x.len xc, .slice ba bd.len bc, .slice ea el.len ec] 109))
    have n5 : (wr.alloc (.cells #[.int .i64 t, .int .u8 b1, .string b2, .int .u8 b3, .string b4, .slice xa x.len xc, .slice ba bd.len bc, .slice ea el.len ec] 109)).cell? ⟨wr.heap.size, 5, none⟩ = some (.slice xa x.len xc) := by simp
    have n6 : (wr.alloc (.cells #[.int .i64 t, .int .u8 b1, .string b2, .int .u8 b3, .string b4, .slice xa x.len xc, .slice ba bd.len bc, .slice ea el.len ec] 109)).cell? ⟨wr.heap.size, 6, none⟩ = some (.slice ba bd.len bc) := by simp
    have n7 : (wr.alloc (.cells #[.int .i64 t, .int .u8 b1, .string b2, .int .u8 b3, .string b4, .slice xa x.len xc, .slice ba bd.len bc, .slice ea el.len ec] 109)).cell? ⟨wr.heap.size, 7, none⟩ = some (.slice ea el.len ec) := by simp
    have hgl := (hD.lt g rfl)
    have HG := hid hgl
    have hgn : wr.heap.size ≠ g := by omega
    have X5 := hid x5
    have X6 := hid x6
    have X7 := hid x7
    clear hcell h5 h6 h7 hsz hb hD hak hkl hgl hm
    go_wp2_with fail
    refine wp_region_held_drew (S := (fun w9 => World.grownBy (wr.alloc (.cells #[.int .i64 t, .int .u8 b1, .string b2, .int .u8 b3, .string b4, .slice xa x.len xc, .slice ba bd.len bc, .slice ea el.len ec] 109)) w9 (some g))) (by kernel_rfl) (grownBy_drew _ _) (fun hHeld => ?_)
    refine tk 0 ?_
    refine tk 1 ?_
    refine tk 2 ?_
    refine tk 3 ?_
    refine tk 4 ?_
    refine tk 5 ?_
    refine tk 6 ?_
    refine tk 7 ?_ (hy := by intro w' hSw; have q1 := hSw.cell n5 (by simpa using hgn); go_simp; (try with_reducible rfl))
    refine tk 9 ?_
    refine tk 10 ?_ (hy := by intro w' hSw; have q1 := hSw.cell n6 (by simpa using hgn); go_simp; (try with_reducible rfl))
    refine tk 12 ?_
    refine tk 13 ?_ (hy := by intro w' hSw; have q1 := hSw.cell n7 (by simpa using hgn); go_simp; (try with_reducible rfl))
    have cx := hid (expressions114 (x.sz + 1) x (.slice xa x.len xc) (wr.alloc (.cells #[.int .i64 t, .int .u8 b1, .string b2, .int .u8 b3, .string b4, .slice xa x.len xc, .slice ba bd.len bc, .slice ea el.len ec] 109)).drew (Nat.lt_succ_self _) (by have := hSZ.out; omega) (H5.out.mono hBX.out.drew))
    refine tr 8 fun K hK => ?_
    go_simp
    go_at_call 114
    refine cx.out.mono ?_
    clear cx
    rintro e w2 ⟨v5, rfl, hv5, hb9⟩
    obtain ⟨ya8, yc8, rfl⟩ := hv5.shape'
    have Hhv5 := hid hv5
    have Bw2 := hid ((Below.refl (wr.alloc (.cells #[.int .i64 t, .int .u8 b1, .string b2, .int .u8 b3, .string b4, .slice xa x.len xc, .slice ba bd.len bc, .slice ea el.len ec] 109)).heap.size (wr.alloc (.cells #[.int .i64 t, .int .u8 b1, .string b2, .int .u8 b3, .string b4, .slice xa x.len xc, .slice ba bd.len bc, .slice ea el.len ec] 109))).drew.trans hb9)
    have hk9 := grown_any Bw2.out (some g)
    clear hHeld hv5 hb9
    go_wp2_with fail
    refine hK.out _ _ hk9 (fun hHeld => ?_)
    clear hK K hk9
    try simp only [tpa, tpb, tpc, tpd, tpe]
    have cx := hid (IH.out bd (.slice ba bd.len bc) w2 (by have := hSZ.out; omega) (by have := hSZ.out; omega) (H6.out.mono (hBX.out.trans (Bw2.out.mono hBX.out.size))))
    refine tr 11 fun K hK => ?_
    go_simp
    go_at_call 72
    refine cx.out.mono ?_
    clear cx
    rintro e w3 ⟨v6, rfl, hv6, hb9⟩
    obtain ⟨ya11, yc11, rfl⟩ := hv6.shape'
    have Hhv6 := hid hv6
    have Bw3 := hid (Bw2.out.trans (hb9.mono Bw2.out.size))
    have B34 := hid hb9
    have hk9 := grown_any Bw3.out (some g)
    clear hHeld hv6 hb9
    go_wp2_with fail
    refine hK.out _ _ hk9 (fun hHeld => ?_)
    clear hK K hk9
    try simp only [tpa, tpb, tpc, tpd, tpe]
    have cx := hid (IH.out el (.slice ea el.len ec) w3 (by have := hSZ.out; omega) (by have := hSZ.out; omega) (H7.out.mono (hBX.out.trans (Bw3.out.mono hBX.out.size))))
    refine tr 14 fun K hK => ?_
    go_simp
    go_at_call 72
    refine cx.out.mono ?_
    clear cx
    rintro e w4 ⟨v7, rfl, hv7, hb9⟩
    obtain ⟨ya14, yc14, rfl⟩ := hv7.shape'
    have Hhv7 := hid hv7
    have Bw4 := hid (Bw3.out.trans (hb9.mono Bw3.out.size))
    have B43 := hid hb9
    have hk9 := grown_any Bw4.out (some g)
    clear hHeld hv7 hb9
    go_wp2_with fail
    refine hK.out _ _ hk9 (fun hHeld => ?_)
    clear hK K hk9
    try simp only [tpa, tpb, tpc, tpd, tpe]
    have BW4 := hid (hBX.out.trans (Bw4.out.mono hBX.out.size))
    have hD4 := hid ((HBD.out g rfl).on (grown_of_below BW4.out) (.inr (by simp [Value.ownBlock])) (R' := fun i => XcS w w4 g (decide (i < k))) (fun i a c h => h.on (cells_g_below BW4.out)))
    have y5 := cell_on X5.out BW4.out
    have y6 := cell_on X6.out BW4.out
    have y7 := cell_on X7.out BW4.out
    have f5 := hD4.out.free HM.out (k * 8 + 5)
    have f6 := hD4.out.free HM.out (k * 8 + 6)
    have f7 := hD4.out.free HM.out (k * 8 + 7)
    have G7b := hid (grown_trans (grown_setCell w4 ⟨g, k * 8 + 5, none⟩ (.slice ya8 x.len yc8)) (grown_trans (grown_setCell (w4.setCell ⟨g, k * 8 + 5, none⟩ (.slice ya8 x.len yc8)) ⟨g, k * 8 + 6, none⟩ (.slice ya11 bd.len yc11)) (grown_setCell ((w4.setCell ⟨g, k * 8 + 5, none⟩ (.slice ya8 x.len yc8)).setCell ⟨g, k * 8 + 6, none⟩ (.slice ya11 bd.len yc11)) ⟨g, k * 8 + 7, none⟩ (.slice ya14 el.len yc14))))
    have G4 := hid (grown_any Bw4.out (some g))
    have G5 := hid (grown_trans G4.out (grown_setCell w4 ⟨g, k * 8 + 5, none⟩ (.slice ya8 x.len yc8)))
    have G6 := hid (grown_trans G5.out (grown_setCell (w4.setCell ⟨g, k * 8 + 5, none⟩ (.slice ya8 x.len yc8)) ⟨g, k * 8 + 6, none⟩ (.slice ya11 bd.len yc11)))
    have G7 := hid (grown_trans G6.out (grown_setCell ((w4.setCell ⟨g, k * 8 + 5, none⟩ (.slice ya8 x.len yc8)).setCell ⟨g, k * 8 + 6, none⟩ (.slice ya11 bd.len yc11)) ⟨g, k * 8 + 7, none⟩ (.slice ya14 el.len yc14)))
    refine tk 15 ?_
    refine tk 16 ?_
    refine tr 17 fun K hK => ?_
    go_simp
    have hk9 := G5.out
    clear hHeld
    refine hK.out _ _ hk9 (fun hHeld => ?_)
    clear hK K hk9
    try simp only [tpa, tpb, tpc, tpd, tpe]
    refine tk 18 ?_
    refine tk 19 ?_
    refine tr 20 fun K hK => ?_
    go_simp
    have hk9 := G6.out
    clear hHeld
    refine hK.out _ _ hk9 (fun hHeld => ?_)
    clear hK K hk9
    try simp only [tpa, tpb, tpc, tpd, tpe]
    refine tk 21 ?_
    refine tk 22 ?_
    refine tr 23 fun K hK => ?_
    go_simp
    have hk9 := G7.out
    clear hHeld
    refine hK.out _ _ hk9 (fun hHeld => ?_)
    clear hK K hk9
    try simp only [tpa, tpb, tpc, tpd, tpe]
    refine td ?_
    have hD7 := hid (hR2.out w4 (.slice ya8 x.len yc8) (.slice ya11 bd.len yc11) (.slice ya14 el.len yc14) hD4.out
     (Hhv5.out.sub (cells_move fun a u hp hc => by
      simp at hp
      have := HG.out
      have hb := World.block_lt_of_cell? _ _ hc
      exact ⟨by simp; omega, cell_on hc (B34.out.trans (B43.out.mono B34.out.size))⟩))
     (Hhv6.out.sub (cells_move fun a u hp hc => by
      simp at hp
      have := HG.out
      have h1 := Bw2.out.size
      simp at h1
      exact ⟨by simp; omega, cell_on hc B43.out⟩))
     (Hhv7.out.sub (cells_move fun a u hp hc => by
      simp at hp
      have := HG.out
      have h1 := Bw3.out.size
      simp at h1
      exact ⟨by simp; omega, hc⟩)))
    clear hHeld
    go_wp2_with fail
    exact ⟨⟨k + 1, by go_num, by omega, fun g' hg' => by cases hg'; exact hD7.out, (HB.out.trans ((hBX.out.mono HB.out.size).trans (Bw4.out.mono (by have := HB.out.size; simp; omega)))).grown G7b.out (by have := HB.out.size; have := BW4.out.size; omega) (fun q e => by cases e; exact HG.out.1)⟩, by simp only [intOf]; omega⟩
   ·have hk2 : k = len := by omega
    subst k
    go_wp2_with fail
    go_ret
    refine ⟨.slice va len vc, rfl, ?_, HB.out⟩
    refine copiedS_done (fun g hg => ?_) ⟨va, vc, by rw [HL.out], by rw [← HL.out]; exact hva⟩
    obtain ⟨cs, d1, d2, d3⟩ := HBD.out g hg
    refine ⟨cs, d1, fun i h h' => ⟨(d2 i h h').1, ?_⟩, d3⟩
    have hi : i < len := by have := HLL.out; have := HL.out; omega
    have hd : decide (i < len) = true := by simpa using hi
    have h2 : XcS w wr g (decide (i < len)) l.toL[i] cs[i] := (d2 i h h').2
    rw [hd] at h2
    exact h2
end
section
open Go.Shelf
theorem ParR.sub {w w' : World} {a : PW} {b q : Nat} (h : ParR w a b q) (hs : Cells w w') : ParR w' a b q := ⟨hs _ _ h.c0, hs _ _ h.c1⟩
theorem SlPz.sub {w w' : World} {l : List PW} {v : Value} (h : SlPz w none l v) (hs : Cells w w') : SlPz w' none l v := by
 obtain ⟨ka, kb, koff, kcap, rfl, y2, y3⟩ := h
 exact ⟨ka, kb, koff, kcap, rfl, y2.imp id (fun z => ⟨z.1, Zone.any⟩), fun i hi => (y3 i hi).sub hs⟩
theorem flatten_row {w : World} {B : Nat} {e : TypeId} {n : Nat} {α : Type} {l : List α} {cs : List (List Value)} {g cap m : Nat} (hown : w.ownsRow B e n (.slice (some ⟨g, 0, none⟩) m cap) m cs.flatten) (h1 : cs.length = l.length) (hm : m = l.length) (hl : ∀ i (h : i < cs.length), cs[i].length = n) (k : Nat) (hk : k < l.length) (j : Nat) (hj : j < n) : w.cell? ⟨g, k * n + j, none⟩ = (cs[k]'(by omega))[j]? := by
 subst hm
 have hlt : k * n + j < l.length * n := by
  calc k * n + j < k * n + n := by omega
   _ = (k + 1) * n := by rw [Nat.add_mul]; omega
   _ ≤ l.length * n := Nat.mul_le_mul_right _ (by omega)
 rw [hown.cellAt _ hlt, flatten_at hl k (by omega) j hj]
theorem own_list {α : Type} {w w2 : World} {B : Nat} {e : TypeId} {n : Nat} {R : α → Nat → Nat → Prop} {Rc : α → List Value → Prop} {l : List α} {cs : List (List Value)} {v : Value} {m : Nat} (hown : w.ownsRow B e n v m cs.flatten) (h1 : cs.length = l.length) (hm : m = l.length) (h2 : ∀ i (h : i < l.length) (h' : i < cs.length), cs[i].length = n ∧ Rc l[i] cs[i])
  (hR : ∀ a c g q, B ≤ g → Rc a c → (∀ j, j < n → w.cell? ⟨g, q + j, none⟩ = c[j]?) → R a g q) : SlR w2 none e n R l v := by
 have hl : ∀ i (h : i < cs.length), cs[i].length = n := fun i h => (h2 i (by omega) h).1
 have ho := hown.2
 rcases ho with ⟨rfl, h0⟩ | ⟨g, cap, cur, rfl, hg, _⟩
 ·have hl0 : l.length = 0 := by omega
  exact ⟨none, 0, 0, 0, by rw [hl0], .inl ⟨hl0, rfl⟩, fun i hi => by omega⟩
 ·refine ⟨_, g, 0, cap, by rw [hm], .inr ⟨rfl, Zone.any⟩, fun i hi => ?_⟩
  refine hR _ _ g _ hg (h2 i hi (by omega)).2 (fun j hj => ?_)
  rw [Nat.zero_add]
  exact flatten_row hown h1 hm hl i hi j hj
def XcG (a : GH) (c : List Value) : Prop := ∃ t, c = [.int .i64 t, .string a.name, .int .u8 a.type, .int .u32 a.len, .int .u32 a.word]
theorem GloR.xells {w : World} {a : GH} {b q : Nat} (h : GloR w false a b q) : ∃ c : List Value, c.length = 5 ∧ XcG a c ∧ (∀ u ∈ c, u.oneCell' = true) ∧ ∀ j u, c[j]? = some u → w.cell? ⟨b, q + j, none⟩ = some u := by
 obtain ⟨⟨t, y0, _⟩, y1, y2, y3, y4⟩ := h
 refine ⟨_, rfl, ⟨t, rfl⟩, by simp [Value.oneCell'], fun j u hj => ?_⟩
 match j, hj with
 | 0, hj => simp at hj; subst hj; exact y0
 | 1, hj => simp at hj; subst hj; exact y1
 | 2, hj => simp at hj; subst hj; exact y2
 | 3, hj => simp at hj; subst hj; exact y3
 | 4, hj => simp at hj; subst hj; exact y4
 | j + 5, hj => simp at hj
def XcH (w0 : World) (n1 : Nat) (wr : World) (d : Bool) (a : HH) (c : List Value) : Prop :=
 ∃ t v, c = [.int .i64 t, .string a.name, v, .int .u8 a.type, .int .u32 a.number] ∧ if d then SlPz (onlyW wr (newB n1)) none a.params v else SlPz w0 none a.params v
theorem XcH.on {w0 wr w' : World} {n1 : Nat} {d : Bool} {a : HH} {c : List Value} (h : XcH w0 n1 wr d a c) (hs : Cells (onlyW wr (newB n1)) (onlyW w' (newB n1))) : XcH w0 n1 w' d a c := by
 obtain ⟨t, v, hc, hv⟩ := h
 refine ⟨t, v, hc, ?_⟩
 cases d
 ·exact hv
 ·exact SlPz.sub hv hs
theorem HosR.xells {w : World} {a : HH} {b q : Nat} (h : HosR w false none a b q) : ∃ c : List Value, c.length = 5 ∧ XcH w 0 w false a c ∧ (∀ u ∈ c, u.oneCell' = true) ∧ ∀ j u, c[j]? = some u → w.cell? ⟨b, q + j, none⟩ = some u := by
 obtain ⟨⟨t, y0, _⟩, y1, ⟨v, y2, hv⟩, y3, y4⟩ := h
 have hv2 := hv
 obtain ⟨ka, kc, rfl⟩ := hv2.shape'
 refine ⟨_, rfl, ⟨t, _, rfl, hv⟩, by simp [Value.oneCell'], fun j u hj => ?_⟩
 match j, hj with
 | 0, hj => simp at hj; subst hj; exact y0
 | 1, hj => simp at hj; subst hj; exact y1
 | 2, hj => simp at hj; subst hj; exact y2
 | 3, hj => simp at hj; subst hj; exact y3
 | 4, hj => simp at hj; subst hj; exact y4
 | j + 5, hj => simp at hj
def XcF (w0 : World) (n1 : Nat) (wr : World) (d d' : Bool) (a : FH) (c : List Value) : Prop :=
 ∃ t v x, c = [.int .i64 t, .string a.name, v, .int .u8 a.type, .bool a.opn, x] ∧ (if d then SlPz (onlyW wr (newB n1)) none a.params v else SlPz w0 none a.params v) ∧
  if d' then SlS (onlyW wr (newB n1)) false none a.body x else SlS w0 false none a.body x
theorem XcF.on {w0 wr w' : World} {n1 : Nat} {d d' : Bool} {a : FH} {c : List Value} (h : XcF w0 n1 wr d d' a c) (hs : Cells (onlyW wr (newB n1)) (onlyW w' (newB n1))) : XcF w0 n1 w' d d' a c := by
 obtain ⟨t, v, x, hc, hv, hx⟩ := h
 refine ⟨t, v, x, hc, ?_, ?_⟩
 ·cases d
  ·exact hv
  ·exact SlPz.sub hv hs
 ·cases d'
  ·exact hx
  ·exact SlS.sub hx hs
theorem FunR.xells {w : World} {a : FH} {b q : Nat} (h : FunR w false none a b q) : ∃ c : List Value, c.length = 6 ∧ XcF w 0 w false false a c ∧ (∀ u ∈ c, u.oneCell' = true) ∧ ∀ j u, c[j]? = some u → w.cell? ⟨b, q + j, none⟩ = some u := by
 obtain ⟨⟨t, y0, _⟩, y1, ⟨v, y2, hv⟩, y3, y4, ⟨x, y5, hx⟩⟩ := h
 have hv2 := hv
 have hx2 := hx
 obtain ⟨ka, kc, rfl⟩ := hv2.shape'
 obtain ⟨xa, xc, rfl⟩ := hx2.shape'
 refine ⟨_, rfl, ⟨t, _, _, rfl, hv, hx⟩, by simp [Value.oneCell'], fun j u hj => ?_⟩
 match j, hj with
 | 0, hj => simp at hj; subst hj; exact y0
 | 1, hj => simp at hj; subst hj; exact y1
 | 2, hj => simp at hj; subst hj; exact y2
 | 3, hj => simp at hj; subst hj; exact y3
 | 4, hj => simp at hj; subst hj; exact y4
 | 5, hj => simp at hj; subst hj; exact y5
 | j + 6, hj => simp at hj
theorem params71 (l : List PW) (v : Value) (w : World) (hs : l.length ≤ 100000000) (hv : SlPz w none l v) :
  Calls Tryz.prog 71 #[v] w fun e w' => ∃ v', e = .returned v' ∧ SlPz (onlyW w' (newB w.heap.size)) none l v' ∧ Below w.heap.size w w' := by
 have hv0 := hv
 obtain ⟨ka, kc, rfl⟩ := hv0.shape'
 obtain ⟨cs, c1, c2, c3, -, c5, c6⟩ := SlR.cells (by omega) hv ParC (fun a b q h => h.cells)
 refine (clone71 ka l.length kc cs.flatten w c5 (hid c6) (hid c3) hs).mono ?_
 rintro e w' ⟨v', rfl, hown, hb⟩
 refine ⟨v', rfl, own_list hown c1 rfl c2 (fun a c g q hg hc hcell => ?_), hb⟩
 refine ParR.of hc (fun j hj => ?_)
 rw [cell_only, if_pos (by simpa using hg)]
 exact hcell j hj
theorem GloR.sub {w w' : World} {a : GH} {b q : Nat} (h : GloR w false a b q) (hs : Cells w w') : GloR w' false a b q := by
 obtain ⟨⟨t, y0, y0'⟩, y1, y2, y3, y4⟩ := h
 exact ⟨⟨t, hs _ _ y0, y0'⟩, hs _ _ y1, hs _ _ y2, hs _ _ y3, hs _ _ y4⟩
theorem HosR.sub {w w' : World} {a : HH} {b q : Nat} (h : HosR w false none a b q) (hs : Cells w w') : HosR w' false none a b q := by
 obtain ⟨⟨t, y0, y0'⟩, y1, ⟨v, y2, y2'⟩, y3, y4⟩ := h
 exact ⟨⟨t, hs _ _ y0, y0'⟩, hs _ _ y1, ⟨v, hs _ _ y2, SlPz.sub y2' hs⟩, hs _ _ y3, hs _ _ y4⟩
theorem FunR.sub {w w' : World} {a : FH} {b q : Nat} (h : FunR w false none a b q) (hs : Cells w w') : FunR w' false none a b q := by
 obtain ⟨⟨t, y0, y0'⟩, y1, ⟨v, y2, y2'⟩, y3, y4, ⟨x, y5, y5'⟩⟩ := h
 exact ⟨⟨t, hs _ _ y0, y0'⟩, hs _ _ y1, ⟨v, hs _ _ y2, SlPz.sub y2' hs⟩, hs _ _ y3, hs _ _ y4, ⟨x, hs _ _ y5, SlS.sub y5' hs⟩⟩
theorem SlR.sub {α : Type} {w w' : World} {t : TypeId} {n : Nat} {R R' : α → Nat → Nat → Prop} {l : List α} {v : Value} (h : SlR w none t n R l v) (hR : ∀ a b q, R a b q → R' a b q) : SlR w' none t n R' l v := by
 obtain ⟨ka, kb, koff, kcap, rfl, y2, y3⟩ := h
 exact ⟨ka, kb, koff, kcap, rfl, y2.imp id (fun z => ⟨z.1, Zone.any⟩), fun i hi => hR _ _ _ (y3 i hi)⟩
theorem UIn.sub {w w' : World} {u : UT} {v : Value} (h : UIn w false none u v) (hs : Cells w w') : UIn w' false none u v := by
 obtain ⟨vg, vh, vf, rfl, h1, h2, h3⟩ := h
 exact ⟨vg, vh, vf, rfl, SlR.sub h1 (fun _ _ _ x => x.sub hs), SlR.sub h2 (fun _ _ _ x => x.sub hs), SlR.sub h3 (fun _ _ _ x => x.sub hs)⟩
theorem own_shape2 {w : World} {B : Nat} {e : TypeId} {n m : Nat} {v : Value} {xs : List Value} (h : w.ownsRow B e n v m xs) : ∃ va vc, v = .slice va m vc ∧ (m = 0 ∨ ∃ g, va = some ⟨g, 0, none⟩) := by
 rcases h.2 with ⟨rfl, hn⟩ | ⟨g, cap, cur, rfl, _⟩
 ·exact ⟨none, 0, by rw [hn], .inl hn⟩
 ·exact ⟨_, _, rfl, .inr ⟨g, rfl⟩⟩
theorem cells_b_below {w w' : World} {n : Nat} (h : Below w.heap.size w w') : Cells (onlyW w (newB n)) (onlyW w' (newB n)) := cells_move fun a u hp hc => ⟨hp, cell_on hc h⟩
theorem cells_b_set {w : World} {n g i : Nat} {u : Value} (hg : g < n) : Cells (onlyW w (newB n)) (onlyW (w.setCell ⟨g, i, none⟩ u) (newB n)) := cells_move fun a v hp hc => ⟨hp, by
 rw [setCell_other _ _ _ _ _ (by simp at hp; omega)]
 exact hc⟩
theorem row_ne {w : World} {b1 b2 : Nat} {e1 e2 : TypeId} {s1 s2 n1 n2 : Nat} {v1 v2 : Value} {x1 x2 : List Value} (h1 : w.ownsRow b1 e1 s1 v1 n1 x1) (h2 : w.ownsRow b2 e2 s2 v2 n2 x2) (he : e1 ≠ e2) : v1.ownBlock = none ∨ v1.ownBlock ≠ v2.ownBlock := by
 rcases h1.2 with ⟨rfl, _⟩ | ⟨g, cap, cur, rfl, _, hg, _⟩
 ·exact .inl rfl
 ·rcases h2.2 with ⟨rfl, _⟩ | ⟨g', cap', cur', rfl, _, hg', _⟩
  ·exact .inr (by simp [Value.ownBlock])
  ·refine .inr fun e => ?_
   simp only [Value.ownBlock, Option.some.injEq] at e
   subst e
   rw [hg] at hg'
   simp at hg'
   exact he hg'.2
theorem BldI.ne {α β : Type} {w : World} {B B' : Nat} {e e' : TypeId} {n n' : Nat} {R : Nat → α → List Value → Prop} {R' : Nat → β → List Value → Prop} {l : List α} {l' : List β} {v v' : Value} (h : BldI w B e n R l v) (h' : BldI w B' e' n' R' l' v') (he : e ≠ e') : v.ownBlock = none ∨ v.ownBlock ≠ v'.ownBlock := by
 obtain ⟨_, _, _, h3⟩ := h
 obtain ⟨_, _, _, k3⟩ := h'
 exact row_ne h3 k3 he
theorem BldI.box {α : Type} {w : World} {B : Nat} {e : TypeId} {n : Nat} {R : Nat → α → List Value → Prop} {l : List α} {v : Value} (h : BldI w B e n R l v) {q : Nat} {cs : Array Value} {t : TypeId} (hx : Bx w q cs t) (he : t ≠ e) : some q ≠ v.ownBlock := by
 obtain ⟨_, _, _, h3⟩ := h
 exact hx.not_row h3 he
structure G39 (w : World) (u : UT) (n n1 B : Nat) (box : Array Value) (vg vh vf : Value) (kh kf kb : Nat) (wr : World) : Prop where
 b1 : Bx wr n box 26
 b2 : Bx wr (n + 1) #[.slice none 0 0, .slice none 0 0, .slice none 0 0] 26
 b3 : Bx wr B #[vg, vh, vf] 26
 hs : BldI wr (n + 1 + 1) 101 5 (fun i => XcH w n1 wr (decide (i < kh))) u.hs vh
 fs : BldI wr (n + 1 + 1) 43 6 (fun i => XcF w n1 wr (decide (i < kf)) (decide (i < kb))) u.fs vf
 gs : BldI wr (n + 1 + 1) 105 5 (fun _ => XcG) u.gs vg
 below : Below n w wr
 lt : n + 1 < B
 hlt : ∀ g, vh.ownBlock = some g → g < n1
 flt : ∀ g, vf.ownBlock = some g → g < n1
 n1n : n + 1 + 1 ≤ n1
 n1s : n1 ≤ wr.heap.size
 size : n = w.heap.size
section
variable {w wr w' : World} {u : UT} {n n1 B : Nat} {box : Array Value} {vg vh vf : Value} {kh kf kb : Nat}
theorem G39.on (h : G39 w u n n1 B box vg vh vf kh kf kb wr) (hb : Below wr.heap.size wr w') : G39 w u n n1 B box vg vh vf kh kf kb w' :=
  ⟨h.b1.on (grown_of_below hb) (by simp), h.b2.on (grown_of_below hb) (by simp), h.b3.on (grown_of_below hb) (by simp), h.hs.on (grown_of_below hb) (by cases hq : vh.ownBlock; exact .inl rfl; exact .inr (by simp)) (fun i a c x => x.on (cells_b_below hb)),
   h.fs.on (grown_of_below hb) (by cases hq : vf.ownBlock; exact .inl rfl; exact .inr (by simp)) (fun i a c x => x.on (cells_b_below hb)), h.gs.on (grown_of_below hb) (by cases hq : vg.ownBlock; exact .inl rfl; exact .inr (by simp)) (fun i a c x => x), h.below.trans (hb.mono (by have := h.b1.lt; omega)), h.lt, h.hlt, h.flt, h.n1n, Nat.le_trans h.n1s hb.size, h.size⟩
theorem G39.putH {g cap m : Nat} (h : G39 w u n n1 B box vg (.slice (some ⟨g, 0, none⟩) m cap) vf kh kf kb wr) (hm : m = u.hs.length) (hk : kh < u.hs.length) {v : Value} (hv : SlPz (onlyW wr (newB n1)) none u.hs[kh].params v) :
  G39 w u n n1 B box vg (.slice (some ⟨g, 0, none⟩) m cap) vf (kh + 1) kf kb (wr.setCell ⟨g, kh * 5 + 2, none⟩ v) := by
 have hg := grown_setCell wr ⟨g, kh * 5 + 2, none⟩ v
 have hlt := h.hlt g rfl
 refine ⟨h.b1.on hg (h.hs.box h.b1 (by decide)), h.b2.on hg (h.hs.box h.b2 (by decide)), h.b3.on hg (h.hs.box h.b3 (by decide)), ?_, h.fs.on hg (h.fs.ne h.hs (by decide)) (fun i a c x => x.on (cells_b_set hlt)), h.gs.on hg (h.gs.ne h.hs (by decide)) (fun i a c x => x),
  h.below.grown hg (by have := h.b1.lt; omega) (fun q e => by cases e; have := (h.hs.lt g rfl).1; show n ≤ g; omega), h.lt, h.hlt, h.flt, h.n1n, by simpa [World.setCell] using h.n1s, h.size⟩
 refine h.hs.store hm kh hk 2 (by omega) v (fun i a c hi hx => ?_) (fun c hx => ?_)
 ·have e1 : decide (i < kh + 1) = decide (i < kh) := by simp; omega
  rw [e1]
  exact hx.on (cells_b_set hlt)
 ·obtain ⟨t, v0, rfl, -⟩ := hx
  exact ⟨t, v, rfl, by simpa using SlPz.sub hv (cells_b_set hlt)⟩
theorem G39.putF {g cap m : Nat} (h : G39 w u n n1 B box vg vh (.slice (some ⟨g, 0, none⟩) m cap) kh kf kf wr) (hm : m = u.fs.length) (hk : kf < u.fs.length) {v : Value} (hv : SlPz (onlyW wr (newB n1)) none u.fs[kf].params v) :
  G39 w u n n1 B box vg vh (.slice (some ⟨g, 0, none⟩) m cap) kh (kf + 1) kf (wr.setCell ⟨g, kf * 6 + 2, none⟩ v) := by
 have hg := grown_setCell wr ⟨g, kf * 6 + 2, none⟩ v
 have hlt := h.flt g rfl
 refine ⟨h.b1.on hg (h.fs.box h.b1 (by decide)), h.b2.on hg (h.fs.box h.b2 (by decide)), h.b3.on hg (h.fs.box h.b3 (by decide)), h.hs.on hg (h.hs.ne h.fs (by decide)) (fun i a c x => x.on (cells_b_set hlt)), ?_, h.gs.on hg (h.gs.ne h.fs (by decide)) (fun i a c x => x),
  h.below.grown hg (by have := h.b1.lt; omega) (fun q e => by cases e; have := (h.fs.lt g rfl).1; show n ≤ g; omega), h.lt, h.hlt, h.flt, h.n1n, by simpa [World.setCell] using h.n1s, h.size⟩
 refine h.fs.store hm kf hk 2 (by omega) v (fun i a c hi hx => ?_) (fun c hx => ?_)
 ·have e1 : decide (i < kf + 1) = decide (i < kf) := by simp; omega
  rw [e1]
  exact hx.on (cells_b_set hlt)
 ·obtain ⟨t, v0, x, rfl, -, hx⟩ := hx
  refine ⟨t, v, x, rfl, by simpa using SlPz.sub hv (cells_b_set hlt), ?_⟩
  simp only [Nat.lt_irrefl, decide_false, Bool.false_eq_true, if_false] at hx ⊢
  exact hx
theorem G39.putB {g cap m : Nat} (h : G39 w u n n1 B box vg vh (.slice (some ⟨g, 0, none⟩) m cap) kh (kf + 1) kf wr) (hm : m = u.fs.length) (hk : kf < u.fs.length) {v : Value} (hv : SlS (onlyW wr (newB n1)) false none u.fs[kf].body v) :
  G39 w u n n1 B box vg vh (.slice (some ⟨g, 0, none⟩) m cap) kh (kf + 1) (kf + 1) (wr.setCell ⟨g, kf * 6 + 5, none⟩ v) := by
 have hg := grown_setCell wr ⟨g, kf * 6 + 5, none⟩ v
 have hlt := h.flt g rfl
 refine ⟨h.b1.on hg (h.fs.box h.b1 (by decide)), h.b2.on hg (h.fs.box h.b2 (by decide)), h.b3.on hg (h.fs.box h.b3 (by decide)), h.hs.on hg (h.hs.ne h.fs (by decide)) (fun i a c x => x.on (cells_b_set hlt)), ?_, h.gs.on hg (h.gs.ne h.fs (by decide)) (fun i a c x => x),
  h.below.grown hg (by have := h.b1.lt; omega) (fun q e => by cases e; have := (h.fs.lt g rfl).1; show n ≤ g; omega), h.lt, h.hlt, h.flt, h.n1n, by simpa [World.setCell] using h.n1s, h.size⟩
 refine h.fs.store hm kf hk 5 (by omega) v (fun i a c hi hx => ?_) (fun c hx => ?_)
 ·have e1 : decide (i < kf + 1) = decide (i < kf) := by simp; omega
  have hx2 := hx.on (cells_b_set (i := kf * 6 + 5) (u := v) hlt)
  rw [← e1] at hx2
  rwa [e1, ← e1]
 ·obtain ⟨t, v0, x, rfl, hp, -⟩ := hx
  simp only [Nat.lt_succ_self, decide_true, if_true] at hp ⊢
  exact ⟨t, v0, v, rfl, SlPz.sub hp (cells_b_set hlt), by simpa using SlS.sub hv (cells_b_set hlt)⟩
theorem G39.done (h : G39 w u n n1 B box vg vh vf u.hs.length u.fs.length u.fs.length wr) : UIn (onlyW wr (newB (n + 1 + 1))) false none u (.agg #[vg, vh, vf]) := by
 have hm : Cells (onlyW wr (newB n1)) (onlyW wr (newB (n + 1 + 1))) := cells_move fun a v hp hc => ⟨by simp at hp ⊢; have := h.n1n; omega, hc⟩
 refine ⟨vg, vh, vf, rfl, ?_, ?_, ?_⟩
 ·obtain ⟨cs, d1, d2, d3⟩ := h.gs
  refine own_list d3 d1 rfl d2 (fun a c g q hg hc hcell => ?_)
  obtain ⟨t, rfl⟩ := hc
  have hb : ∀ j v, j < 5 → ([Value.int .i64 t, .string a.name, .int .u8 a.type, .int .u32 a.len, .int .u32 a.word] : List Value)[j]? = some v → (onlyW wr (newB (n + 1 + 1))).cell? ⟨g, q + j, none⟩ = some v := fun j v hj hv => by rw [cell_only, if_pos (by simpa using hg), hcell j hj, hv]
  exact ⟨⟨t, hb 0 _ (by omega) rfl, fun e => by cases e⟩, hb 1 _ (by omega) rfl, hb 2 _ (by omega) rfl, hb 3 _ (by omega) rfl, hb 4 _ (by omega) rfl⟩
 ·obtain ⟨cs, d1, d2, d3⟩ := h.hs
  refine own_list (Rc := XcH w n1 wr true) d3 d1 rfl (fun i hi hi' => ⟨(d2 i hi hi').1, by have h3 := (d2 i hi hi').2; have e : decide (i < u.hs.length) = true := (by simpa using hi); simp only [e] at h3; exact h3⟩) (fun a c g q hg hc hcell => ?_)
  obtain ⟨t, v, rfl, hv⟩ := hc
  have hb : ∀ j u, j < 5 → ([Value.int .i64 t, .string a.name, v, .int .u8 a.type, .int .u32 a.number] : List Value)[j]? = some u → (onlyW wr (newB (n + 1 + 1))).cell? ⟨g, q + j, none⟩ = some u := fun j u hj hv => by rw [cell_only, if_pos (by simpa using hg), hcell j hj, hv]
  exact ⟨⟨t, hb 0 _ (by omega) rfl, fun e => by cases e⟩, hb 1 _ (by omega) rfl, ⟨v, hb 2 _ (by omega) rfl, SlPz.sub hv hm⟩, hb 3 _ (by omega) rfl, hb 4 _ (by omega) rfl⟩
 ·obtain ⟨cs, d1, d2, d3⟩ := h.fs
  refine own_list (Rc := XcF w n1 wr true true) d3 d1 rfl (fun i hi hi' => ⟨(d2 i hi hi').1, by have h3 := (d2 i hi hi').2; have e : decide (i < u.fs.length) = true := (by simpa using hi); simp only [e] at h3; exact h3⟩) (fun a c g q hg hc hcell => ?_)
  obtain ⟨t, v, x, rfl, hv, hx⟩ := hc
  have hb : ∀ j u, j < 6 → ([Value.int .i64 t, .string a.name, v, .int .u8 a.type, .bool a.opn, x] : List Value)[j]? = some u → (onlyW wr (newB (n + 1 + 1))).cell? ⟨g, q + j, none⟩ = some u := fun j u hj hv => by rw [cell_only, if_pos (by simpa using hg), hcell j hj, hv]
  exact ⟨⟨t, hb 0 _ (by omega) rfl, fun e => by cases e⟩, hb 1 _ (by omega) rfl, ⟨v, hb 2 _ (by omega) rfl, SlPz.sub hv hm⟩, hb 3 _ (by omega) rfl, hb 4 _ (by omega) rfl, ⟨x, hb 5 _ (by omega) rfl, SlS.sub hx hm⟩⟩
end
end
end Go.Proofs.YtlabadkfkbenoaaGreatDoor
