/- Walks and plain laws, merged: SenT. No condition. -/
import Derived.Test.YtlabadkfkbenoaaGreatDoorKn01
import Derived.Test.YtlabadkfkbenoaaGreatDoorKn19
namespace Go.Proofs.YtlabadkfkbenoaaGreatDoor
open Go.RowKit
set_option linter.unusedVariables false
set_option linter.unusedSimpArgs false
set_option maxRecDepth 100000
section
open Go.Shelf
/-- cells of a copied statement: d: its lists are copied -/
def XcS (w0 wr : World) (g : Nat) (d : Bool) (a : SB) (c : List Value) : Prop :=
 ∃ t v5 v6 v7, c = [.int .i64 t, .int .u8 a.1.kind, .string a.1.name, .int .u8 a.1.type, .string a.1.sign, v5, v6, v7] ∧
  if d then SlE (onlyW wr (newBg w0.heap.size g)) false none a.2.1 v5 ∧ SlS (onlyW wr (newBg w0.heap.size g)) false none a.2.2.1 v6 ∧ SlS (onlyW wr (newBg w0.heap.size g)) false none a.2.2.2 v7
  else SlE w0 false none a.2.1 v5 ∧ SlS w0 false none a.2.2.1 v6 ∧ SlS w0 false none a.2.2.2 v7
theorem XcS.on {w0 wr w' : World} {g : Nat} {d : Bool} {a : SB} {c : List Value} (h : XcS w0 wr g d a c) (hs : Cells (onlyW wr (newBg w0.heap.size g)) (onlyW w' (newBg w0.heap.size g))) : XcS w0 w' g d a c := by
 obtain ⟨t, v5, v6, v7, hc, hv⟩ := h
 refine ⟨t, v5, v6, v7, hc, ?_⟩
 cases d
 ·exact hv
 ·exact ⟨hv.1.sub hs, hv.2.1.sub hs, hv.2.2.sub hs⟩
theorem StmR.cells {w : World} {a : SB} {b q : Nat} (h : StmR w false none a b q) : ∃ c : List Value, c.length = 8 ∧ XcS w w 0 false a c ∧ (∀ u ∈ c, u.oneCell' = true) ∧ ∀ j u, c[j]? = some u → w.cell? ⟨b, q + j, none⟩ = some u := by
 obtain ⟨⟨⟨t, y0, _⟩, y1, y2, y3, y4⟩, ⟨v5, y5, h5⟩, ⟨v6, y6, h6⟩, ⟨v7, y7, h7⟩⟩ := h
 have hh := And.intro h5 (And.intro h6 h7)
 obtain ⟨k5, d5, rfl⟩ := h5.shape'
 obtain ⟨k6, d6, rfl⟩ := h6.shape'
 obtain ⟨k7, d7, rfl⟩ := h7.shape'
 refine ⟨_, rfl, ⟨t, _, _, _, rfl, hh⟩, by simp [Value.oneCell'], fun j u hj => ?_⟩
 match j, hj with
 | 0, hj => simp at hj; subst hj; exact y0
 | 1, hj => simp at hj; subst hj; exact y1
 | 2, hj => simp at hj; subst hj; exact y2
 | 3, hj => simp at hj; subst hj; exact y3
 | 4, hj => simp at hj; subst hj; exact y4
 | 5, hj => simp at hj; subst hj; exact y5
 | 6, hj => simp at hj; subst hj; exact y6
 | 7, hj => simp at hj; subst hj; exact y7
 | j + 8, hj => simp at hj
theorem copiedS_done {w0 wr : World} {l : Sts} {v : Value} (hg : ∀ g, v.ownBlock = some g → BldI wr w0.heap.size 109 8 (fun _ => XcS w0 wr g true) l.toL v) (hs : ∃ va vc, v = .slice va l.len vc ∧ (l.len = 0 ∨ ∃ g, va = some ⟨g, 0, none⟩)) : SlS (onlyW wr (newB w0.heap.size)) false none l v := by
 obtain ⟨va, vc, rfl, hs⟩ := hs
 rcases hs with h0 | ⟨g, rfl⟩
 ·cases l with
  | nil => exact ⟨va, 0, 0, vc, rfl, .inl ⟨rfl, rfl⟩, trivial⟩
  | cons h x b e r => simp [Sts.len] at h0
 ·have h := hg g rfl
  refine SlS_iff.2 ⟨_, g, 0, vc, by rw [Sts.toL_len], .inr ⟨rfl, Zone.any⟩, fun i hi => ?_⟩
  obtain ⟨c, ⟨t, v5, v6, v7, rfl, hv5, hv6, hv7⟩, hc⟩ := h.row (by rw [Sts.toL_len]) i hi
  have hge := (h.lt g rfl).1
  have hb : ∀ j u, j < 8 → ([Value.int .i64 t, .int .u8 l.toL[i].1.kind, .string l.toL[i].1.name, .int .u8 l.toL[i].1.type, .string l.toL[i].1.sign, v5, v6, v7] : List Value)[j]? = some u → (onlyW wr (newB w0.heap.size)).cell? ⟨g, 0 + i * 8 + j, none⟩ = some u := fun j u hj hu => by
   rw [cell_only, if_pos (by simpa using hge), Nat.zero_add, hc j hj, hu]
  have hm : Cells (onlyW wr (newBg w0.heap.size g)) (onlyW wr (newB w0.heap.size)) := cells_move fun a u hp hc => ⟨by simp at hp ⊢; exact hp.1, hc⟩
  exact ⟨⟨⟨t, hb 0 _ (by omega) rfl, fun e => by cases e⟩, hb 1 _ (by omega) rfl, hb 2 _ (by omega) rfl, hb 3 _ (by omega) rfl, hb 4 _ (by omega) rfl⟩,
   ⟨v5, hb 5 _ (by omega) rfl, hv5.sub hm⟩, ⟨v6, hb 6 _ (by omega) rfl, hv6.sub hm⟩, ⟨v7, hb 7 _ (by omega) rfl, hv7.sub hm⟩⟩
theorem grown_any {w w' : World} (h : Below w.heap.size w w') (row : Option Nat) : w.grownBy w' row := ⟨h.os, h.tape, h.output, h.size, fun k hk _ => h.block k hk⟩
theorem sts_store3 {w w4 : World} {l : List SB} {g k len vc : Nat} (hD : BldI w4 w.heap.size 109 8 (fun i => XcS w w4 g (decide (i < k))) l (.slice (some ⟨g, 0, none⟩) len vc)) (hm : len = l.length) (hk : k < l.length) (v5 v6 v7 : Value)
  (h5 : SlE (onlyW w4 (newBg w.heap.size g)) false none l[k].2.1 v5) (h6 : SlS (onlyW w4 (newBg w.heap.size g)) false none l[k].2.2.1 v6) (h7 : SlS (onlyW w4 (newBg w.heap.size g)) false none l[k].2.2.2 v7) :
  BldI (((w4.setCell ⟨g, k * 8 + 5, none⟩ v5).setCell ⟨g, k * 8 + 6, none⟩ v6).setCell ⟨g, k * 8 + 7, none⟩ v7) w.heap.size 109 8 (fun i => XcS w (((w4.setCell ⟨g, k * 8 + 5, none⟩ v5).setCell ⟨g, k * 8 + 6, none⟩ v6).setCell ⟨g, k * 8 + 7, none⟩ v7) g (decide (i < k + 1))) l (.slice (some ⟨g, 0, none⟩) len vc) := by
 have s1 := hD.store (R' := fun i a c => (i ≠ k → XcS w (w4.setCell ⟨g, k * 8 + 5, none⟩ v5) g (decide (i < k)) a c) ∧ (i = k → ∃ t u6 u7, c = [.int .i64 t, .int .u8 a.1.kind, .string a.1.name, .int .u8 a.1.type, .string a.1.sign, v5, u6, u7])) hm k hk 5 (by omega) v5
  (fun i a c hi hx => ⟨fun _ => hx.on cells_g_set, fun e => absurd e hi⟩) (fun c hx => by
   obtain ⟨t, u5, u6, u7, rfl, -⟩ := hx
   exact ⟨fun e => absurd rfl e, fun _ => ⟨t, u6, u7, rfl⟩⟩)
 have s2 := s1.store (R' := fun i a c => (i ≠ k → XcS w ((w4.setCell ⟨g, k * 8 + 5, none⟩ v5).setCell ⟨g, k * 8 + 6, none⟩ v6) g (decide (i < k)) a c) ∧ (i = k → ∃ t u7, c = [.int .i64 t, .int .u8 a.1.kind, .string a.1.name, .int .u8 a.1.type, .string a.1.sign, v5, v6, u7])) hm k hk 6 (by omega) v6
  (fun i a c hi hx => ⟨fun _ => (hx.1 hi).on cells_g_set, fun e => absurd e hi⟩) (fun c hx => by
   obtain ⟨t, u6, u7, rfl⟩ := hx.2 rfl
   exact ⟨fun e => absurd rfl e, fun _ => ⟨t, u7, rfl⟩⟩)
 refine s2.store hm k hk 7 (by omega) v7 (fun i a c hi hx => ?_) (fun c hx => ?_)
 ·have e1 : decide (i < k + 1) = decide (i < k) := by simp; omega
  rw [e1]
  exact (hx.1 hi).on cells_g_set
 ·obtain ⟨t, u7, rfl⟩ := hx.2 rfl
  have hm3 : Cells (onlyW w4 (newBg w.heap.size g)) (onlyW (((w4.setCell ⟨g, k * 8 + 5, none⟩ v5).setCell ⟨g, k * 8 + 6, none⟩ v6).setCell ⟨g, k * 8 + 7, none⟩ v7) (newBg w.heap.size g)) := fun a u h => cells_g_set _ _ (cells_g_set _ _ (cells_g_set _ _ h))
  exact ⟨t, v5, v6, v7, rfl, by simpa using ⟨h5.sub hm3, h6.sub hm3, h7.sub hm3⟩⟩
set_option maxHeartbeats 16000000 in
theorem statements72 : ∀ (n : Nat) (l : Sts) (v : Value) (w : World), l.sz < n → l.sz ≤ 100000000 → SlS w false none l v →
  Calls Tryz.prog 72 #[v] w fun e w' => ∃ v', e = .returned v' ∧ SlS (onlyW w' (newB w.heap.size)) false none l v' ∧ Below w.heap.size w w' := by
 intro n
 induction n with
 | zero => intro l v w hn; omega
 | succ n ih =>
  have IH := hid ih
  clear ih
  intro l v w hn hs hv
  have hl := l.len_le
  have hS := hid (And.intro hn hs)
  have hV := hid hv
  obtain ⟨ka, kc, rfl⟩ := hv.shape'
  obtain ⟨cs, c1, c2, c3, -, c5, c6⟩ := SlR.cells (by omega) (SlS_iff.1 hv) (XcS w w 0 false) (fun a b q h => h.cells)
  have hll : l.toL.length = l.len := Sts.toL_len l
  have cc := hid (clone113 ka l.len kc cs.flatten w c5 (hid c6) (hid c3) (by omega))
  have C12 := hid (And.intro c1 c2)
  have HLL := hid hll
  obtain ⟨len, hlen⟩ : ∃ m, m = l.len := ⟨_, rfl⟩
  rw [← hlen] at cc
  rw [← hlen] at hl
  rw [← hlen]
  have hkb : len ≤ 100000000 := by have := hS.out; omega
  have HL := hid hlen
  clear hn hs hv c1 c2 c3 c5 c6 hll hlen
  go_enter Tryz.func72, Tryz.ntmps72
  go_wp2_with fail
  refine cc.out.mono ?_
  clear cc
  rintro e w1 ⟨v1, rfl, hown, hb1⟩
  have hB1 := hid hb1
  have hBD : Hid (∀ g, BldI w1 w.heap.size 109 8 (fun i => XcS w w1 g (decide (i < 0))) l.toL v1) := hid (fun g => ⟨cs, C12.out.1, fun i h h' => ⟨(C12.out.2 i h h').1, by
   obtain ⟨t, u5, u6, u7, hc, hv⟩ := (C12.out.2 i h h').2
   exact ⟨t, u5, u6, u7, hc, by simpa using hv⟩⟩, by rw [HLL.out, ← HL.out]; exact hown⟩)
  have hsh := (hBD.out 0).shape
  rw [HLL.out, ← HL.out] at hsh
  obtain ⟨va, vc, rfl, hva⟩ := hsh
  clear hown hb1 C12
  go_wp2_with fail
  go_loopw [10] (fun i wr => ∃ k : Nat, i = .int .i64 k ∧ k ≤ len ∧ (∀ g, (Value.slice va len vc).ownBlock = some g → BldI wr w.heap.size 109 8 (fun i => XcS w wr g (decide (i < k))) l.toL (.slice va len vc)) ∧ Below w.heap.size w wr) (fun i _ => len - (intOf i).toNat)
  case atStart => exact ⟨0, rfl, Nat.zero_le _, fun g _ => hBD.out g, hB1.out⟩
  case round =>
   clear hBD hB1
   obtain ⟨k, rfl, hk, hbd, hb⟩ := hrel
   have HB := hid hb
   have HBD := hid hbd
   clear hbd
   by_cases hlt : k < len
   ·have hva2 : ∃ g, va = some ⟨g, 0, none⟩ := by rcases hva with q | q; (· omega); (· exact q)
    obtain ⟨g, rfl⟩ := hva2
    have hD := HBD.out g rfl
    have hkl : k < l.toL.length := by rw [HLL.out, ← HL.out]; exact hlt
    have hm : len = l.toL.length := by rw [HLL.out, ← HL.out]
    obtain ⟨c, ⟨t, u5, u6, u7, hc, hvk⟩, hcell⟩ := hD.row hm k hkl
    simp only [Nat.lt_irrefl, decide_false, Bool.false_eq_true, if_false] at hvk
    obtain ⟨h5, h6, h7⟩ := hvk
    have hsz := Sts.toL_sz l _ (List.getElem_mem hkl)
    have hR2 : Hid (∀ (w4 : World) (v5 v6 v7 : Value), BldI w4 w.heap.size 109 8 (fun i => XcS w w4 g (decide (i < k))) l.toL (.slice (some ⟨g, 0, none⟩) len vc) → SlE (onlyW w4 (newBg w.heap.size g)) false none l.toL[k].2.1 v5 → SlS (onlyW w4 (newBg w.heap.size g)) false none l.toL[k].2.2.1 v6 → SlS (onlyW w4 (newBg w.heap.size g)) false none l.toL[k].2.2.2 v7 → BldI (((w4.setCell ⟨g, k * 8 + 5, none⟩ v5).setCell ⟨g, k * 8 + 6, none⟩ v6).setCell ⟨g, k * 8 + 7, none⟩ v7) w.heap.size 109 8 (fun i => XcS w (((w4.setCell ⟨g, k * 8 + 5, none⟩ v5).setCell ⟨g, k * 8 + 6, none⟩ v6).setCell ⟨g, k * 8 + 7, none⟩ v7) g (decide (i < k + 1))) l.toL (.slice (some ⟨g, 0, none⟩) len vc)) := hid (fun w4 v5 v6 v7 hD2 k5 k6 k7 => sts_store3 hD2 hm hkl v5 v6 v7 k5 k6 k7)
    have HM := hid hm
    obtain ⟨ak, hak⟩ : ∃ a, a = l.toL[k] := ⟨_, rfl⟩
    rw [← hak] at hc h5 h6 h7 hsz hR2
    obtain ⟨⟨b0, b1, b2, b3, b4⟩, x, bd, el⟩ := ak
    simp only [] at hc h5 h6 h7 hsz hR2
    subst hc
    obtain ⟨xa, xc, rfl⟩ := h5.shape'
    obtain ⟨ba, bc, rfl⟩ := h6.shape'
    obtain ⟨ea, ec, rfl⟩ := h7.shape'
    have x0 := hcell 0 (by omega)
    have x1 := hcell 1 (by omega)
    have x2 := hcell 2 (by omega)
    have x3 := hcell 3 (by omega)
    have x4 := hcell 4 (by omega)
    have x5 := hcell 5 (by omega)
    have x6 := hcell 6 (by omega)
    have x7 := hcell 7 (by omega)
    simp at x0 x1 x2 x3 x4 x5 x6 x7
    have H5 := hid (h5.mono hb)
    have H6 := hid (h6.mono hb)
    have H7 := hid (h7.mono hb)
    have hSZ := hid (show x.sz < n ∧ x.sz ≤ 100000000 ∧ bd.sz < n ∧ bd.sz ≤ 100000000 ∧ el.sz < n ∧ el.sz ≤ 100000000 by have := hS.out; omega)
    have hBX := hid ((Below.refl wr.heap.size wr).alloc (Nat.le_refl _) (.cells #[.int .i64 t, .int .u8 b1, .string b2, .int .u8 b3, .string b4, .slice xa x.len xc, .slice ba bd.len bc, .slice ea el.len ec] 109))
    have n5 : (wr.alloc (.cells #[.int .i64 t, .int .u8 b1, .string b2, .int .u8 b3, .string b4, .slice xa x.len xc, .slice ba bd.len bc, .slice ea el.len ec] 109)).cell? ⟨wr.heap.size, 5, none⟩ = some (.slice xa x.len xc) := by simp
    have n6 : (wr.alloc (.cells #[.int .i64 t, .int .u8 b1, .string b2, .int .u8 b3, .string b4, .slice xa x.len xc, .slice ba bd.len bc, .slice ea el.len ec] 109)).cell? ⟨wr.heap.size, 6, none⟩ = some (.slice ba bd.len bc) := by simp
    have n7 : (wr.alloc (.cells #[.int .i64 t, .int .u8 b1, .string b2, .int .u8 b3, .string b4, .slice xa x.len xc, .slice ba bd.len bc, .slice ea el.len ec] 109)).cell? ⟨wr.heap.size, 7, none⟩ = some (.slice ea el.len ec) := by simp
    have hgl := (hD.lt g rfl)
    have HG := hid hgl
    have hgn : wr.heap.size ≠ g := by omega
    have X5 := hid x5
    have X6 := hid x6
    have X7 := hid x7
    clear hcell h5 h6 h7 hsz hb hD hak hkl hgl hm
    go_wp2_with fail
    refine wp_region_held_drew (S := (fun w9 => World.grownBy (wr.alloc (.cells #[.int .i64 t, .int .u8 b1, .string b2, .int .u8 b3, .string b4, .slice xa x.len xc, .slice ba bd.len bc, .slice ea el.len ec] 109)) w9 (some g))) (by kernel_rfl) (grownBy_drew _ _) (fun hHeld => ?_)
    refine tk 0 ?_ (hy := ?_) (h := ?_)
    rotate_left
    ·intro w' hSw; go_simp; (try with_reducible rfl)
    try simp only [tpa, tpb, tpc, tpd, tpe]
    refine tk 1 ?_ (hy := ?_) (h := ?_)
    rotate_left
    ·intro w' hSw; go_simp; (try with_reducible rfl)
    try simp only [tpa, tpb, tpc, tpd, tpe]
    refine tk 2 ?_ (hy := ?_) (h := ?_)
    rotate_left
    ·intro w' hSw; go_simp; (try with_reducible rfl)
    try simp only [tpa, tpb, tpc, tpd, tpe]
    refine tk 3 ?_ (hy := ?_) (h := ?_)
    rotate_left
    ·intro w' hSw; go_simp; (try with_reducible rfl)
    try simp only [tpa, tpb, tpc, tpd, tpe]
    refine tk 4 ?_ (hy := ?_) (h := ?_)
    rotate_left
    ·intro w' hSw; go_simp; (try with_reducible rfl)
    try simp only [tpa, tpb, tpc, tpd, tpe]
    refine tk 5 ?_ (hy := ?_) (h := ?_)
    rotate_left
    ·intro w' hSw; go_simp; (try with_reducible rfl)
    try simp only [tpa, tpb, tpc, tpd, tpe]
    refine tk 6 ?_ (hy := ?_) (h := ?_)
    rotate_left
    ·intro w' hSw; go_simp; (try with_reducible rfl)
    try simp only [tpa, tpb, tpc, tpd, tpe]
    refine tk 7 ?_ (hy := ?_) (h := ?_)
    rotate_left
    ·intro w' hSw; have q1 := hSw.cell n5 (by simpa using hgn); go_simp; (try with_reducible rfl)
    try simp only [tpa, tpb, tpc, tpd, tpe]
    refine tk 9 ?_ (hy := ?_) (h := ?_)
    rotate_left
    ·intro w' hSw; go_simp; (try with_reducible rfl)
    try simp only [tpa, tpb, tpc, tpd, tpe]
    refine tk 10 ?_ (hy := ?_) (h := ?_)
    rotate_left
    ·intro w' hSw; have q1 := hSw.cell n6 (by simpa using hgn); go_simp; (try with_reducible rfl)
    try simp only [tpa, tpb, tpc, tpd, tpe]
    refine tk 12 ?_ (hy := ?_) (h := ?_)
    rotate_left
    ·intro w' hSw; go_simp; (try with_reducible rfl)
    try simp only [tpa, tpb, tpc, tpd, tpe]
    refine tk 13 ?_ (hy := ?_) (h := ?_)
    rotate_left
    ·intro w' hSw; have q1 := hSw.cell n7 (by simpa using hgn); go_simp; (try with_reducible rfl)
    try simp only [tpa, tpb, tpc, tpd, tpe]
    have cx := hid (expressions114 (x.sz + 1) x (.slice xa x.len xc) (wr.alloc (.cells #[.int .i64 t, .int .u8 b1, .string b2, .int .u8 b3, .string b4, .slice xa x.len xc, .slice ba bd.len bc, .slice ea el.len ec] 109)).drew (Nat.lt_succ_self _) (by have := hSZ.out; omega) (H5.out.mono hBX.out.drew))
    refine tr 8 (h := fun K hK => ?_)
    go_simp
    go_at_call 114
    refine cx.out.mono ?_
    clear cx
    rintro e w2 ⟨v5, rfl, hv5, hb9⟩
    obtain ⟨ya8, yc8, rfl⟩ := hv5.shape'
    have Hhv5 := hid hv5
    have Bw2 := hid ((Below.refl (wr.alloc (.cells #[.int .i64 t, .int .u8 b1, .string b2, .int .u8 b3, .string b4, .slice xa x.len xc, .slice ba bd.len bc, .slice ea el.len ec] 109)).heap.size (wr.alloc (.cells #[.int .i64 t, .int .u8 b1, .string b2, .int .u8 b3, .string b4, .slice xa x.len xc, .slice ba bd.len bc, .slice ea el.len ec] 109))).drew.trans hb9)
    have hk9 := grown_any Bw2.out (some g)
    clear hHeld hv5 hb9
    go_wp2_with fail
    refine hK.out _ _ hk9 (fun hHeld => ?_)
    clear hK K hk9
    try simp only [tpa, tpb, tpc, tpd, tpe]
    have cx := hid (IH.out bd (.slice ba bd.len bc) w2 (by have := hSZ.out; omega) (by have := hSZ.out; omega) (H6.out.mono (hBX.out.trans (Bw2.out.mono hBX.out.size))))
    refine tr 11 (h := fun K hK => ?_)
    go_simp
    go_at_call 72
    refine cx.out.mono ?_
    clear cx
    rintro e w3 ⟨v6, rfl, hv6, hb9⟩
    obtain ⟨ya11, yc11, rfl⟩ := hv6.shape'
    have Hhv6 := hid hv6
    have Bw3 := hid (Bw2.out.trans (hb9.mono Bw2.out.size))
    have B34 := hid hb9
    have hk9 := grown_any Bw3.out (some g)
    clear hHeld hv6 hb9
    go_wp2_with fail
    refine hK.out _ _ hk9 (fun hHeld => ?_)
    clear hK K hk9
    try simp only [tpa, tpb, tpc, tpd, tpe]
    have cx := hid (IH.out el (.slice ea el.len ec) w3 (by have := hSZ.out; omega) (by have := hSZ.out; omega) (H7.out.mono (hBX.out.trans (Bw3.out.mono hBX.out.size))))
    refine tr 14 (h := fun K hK => ?_)
    go_simp
    go_at_call 72
    refine cx.out.mono ?_
    clear cx
    rintro e w4 ⟨v7, rfl, hv7, hb9⟩
    obtain ⟨ya14, yc14, rfl⟩ := hv7.shape'
    have Hhv7 := hid hv7
    have Bw4 := hid (Bw3.out.trans (hb9.mono Bw3.out.size))
    have B43 := hid hb9
    have hk9 := grown_any Bw4.out (some g)
    clear hHeld hv7 hb9
    go_wp2_with fail
    refine hK.out _ _ hk9 (fun hHeld => ?_)
    clear hK K hk9
    try simp only [tpa, tpb, tpc, tpd, tpe]
    have BW4 := hid (hBX.out.trans (Bw4.out.mono hBX.out.size))
    have hD4 := hid ((HBD.out g rfl).on (grown_of_below BW4.out) (.inr (by simp [Value.ownBlock])) (R' := fun i => XcS w w4 g (decide (i < k))) (fun i a c h => h.on (cells_g_below BW4.out)))
    have y5 := cell_on X5.out BW4.out
    have y6 := cell_on X6.out BW4.out
    have y7 := cell_on X7.out BW4.out
    have f5 := hD4.out.free HM.out (k * 8 + 5)
    have f6 := hD4.out.free HM.out (k * 8 + 6)
    have f7 := hD4.out.free HM.out (k * 8 + 7)
    have G7b := hid (grown_trans (grown_setCell w4 ⟨g, k * 8 + 5, none⟩ (.slice ya8 x.len yc8)) (grown_trans (grown_setCell (w4.setCell ⟨g, k * 8 + 5, none⟩ (.slice ya8 x.len yc8)) ⟨g, k * 8 + 6, none⟩ (.slice ya11 bd.len yc11)) (grown_setCell ((w4.setCell ⟨g, k * 8 + 5, none⟩ (.slice ya8 x.len yc8)).setCell ⟨g, k * 8 + 6, none⟩ (.slice ya11 bd.len yc11)) ⟨g, k * 8 + 7, none⟩ (.slice ya14 el.len yc14))))
    have G4 := hid (grown_any Bw4.out (some g))
    have G5 := hid (grown_trans G4.out (grown_setCell w4 ⟨g, k * 8 + 5, none⟩ (.slice ya8 x.len yc8)))
    have G6 := hid (grown_trans G5.out (grown_setCell (w4.setCell ⟨g, k * 8 + 5, none⟩ (.slice ya8 x.len yc8)) ⟨g, k * 8 + 6, none⟩ (.slice ya11 bd.len yc11)))
    have G7 := hid (grown_trans G6.out (grown_setCell ((w4.setCell ⟨g, k * 8 + 5, none⟩ (.slice ya8 x.len yc8)).setCell ⟨g, k * 8 + 6, none⟩ (.slice ya11 bd.len yc11)) ⟨g, k * 8 + 7, none⟩ (.slice ya14 el.len yc14)))
    refine tk 15 ?_ (hy := ?_) (h := ?_)
    rotate_left
    ·intro w' hSw; go_simp; (try with_reducible rfl)
    try simp only [tpa, tpb, tpc, tpd, tpe]
    refine tk 16 ?_ (hy := ?_) (h := ?_)
    rotate_left
    ·intro w' hSw; go_simp; (try with_reducible rfl)
    try simp only [tpa, tpb, tpc, tpd, tpe]
    refine tr 17 (h := fun K hK => ?_)
    go_simp
    have hk9 := G5.out
    clear hHeld
    refine hK.out _ _ hk9 (fun hHeld => ?_)
    clear hK K hk9
    try simp only [tpa, tpb, tpc, tpd, tpe]
    refine tk 18 ?_ (hy := ?_) (h := ?_)
    rotate_left
    ·intro w' hSw; go_simp; (try with_reducible rfl)
    try simp only [tpa, tpb, tpc, tpd, tpe]
    refine tk 19 ?_ (hy := ?_) (h := ?_)
    rotate_left
    ·intro w' hSw; go_simp; (try with_reducible rfl)
    try simp only [tpa, tpb, tpc, tpd, tpe]
    refine tr 20 (h := fun K hK => ?_)
    go_simp
    have hk9 := G6.out
    clear hHeld
    refine hK.out _ _ hk9 (fun hHeld => ?_)
    clear hK K hk9
    try simp only [tpa, tpb, tpc, tpd, tpe]
    refine tk 21 ?_ (hy := ?_) (h := ?_)
    rotate_left
    ·intro w' hSw; go_simp; (try with_reducible rfl)
    try simp only [tpa, tpb, tpc, tpd, tpe]
    refine tk 22 ?_ (hy := ?_) (h := ?_)
    rotate_left
    ·intro w' hSw; go_simp; (try with_reducible rfl)
    try simp only [tpa, tpb, tpc, tpd, tpe]
    refine tr 23 (h := fun K hK => ?_)
    go_simp
    have hk9 := G7.out
    clear hHeld
    refine hK.out _ _ hk9 (fun hHeld => ?_)
    clear hK K hk9
    try simp only [tpa, tpb, tpc, tpd, tpe]
    refine wpAnyH_done (by kernel_rfl) ?_ _
    have hD7 := hid (hR2.out w4 (.slice ya8 x.len yc8) (.slice ya11 bd.len yc11) (.slice ya14 el.len yc14) hD4.out
     (Hhv5.out.sub (cells_move fun a u hp hc => by
      simp at hp
      have := HG.out
      have hb := World.block_lt_of_cell? _ _ hc
      exact ⟨by simp; omega, cell_on hc (B34.out.trans (B43.out.mono B34.out.size))⟩))
     (Hhv6.out.sub (cells_move fun a u hp hc => by
      simp at hp
      have := HG.out
      have h1 := Bw2.out.size
      simp at h1
      exact ⟨by simp; omega, cell_on hc B43.out⟩))
     (Hhv7.out.sub (cells_move fun a u hp hc => by
      simp at hp
      have := HG.out
      have h1 := Bw3.out.size
      simp at h1
      exact ⟨by simp; omega, hc⟩)))
    clear hHeld
    go_wp2_with fail
    exact ⟨⟨k + 1, by go_num, by omega, fun g' hg' => by cases hg'; exact hD7.out, (HB.out.trans ((hBX.out.mono HB.out.size).trans (Bw4.out.mono (by have := HB.out.size; simp; omega)))).grown G7b.out (by have := HB.out.size; have := BW4.out.size; omega) (fun q e => by cases e; exact HG.out.1)⟩, by simp only [intOf]; omega⟩
   ·have hk2 : k = len := by omega
    subst k
    go_wp2_with fail
    go_ret
    refine ⟨.slice va len vc, rfl, ?_, HB.out⟩
    refine copiedS_done (fun g hg => ?_) ⟨va, vc, by rw [HL.out], by rw [← HL.out]; exact hva⟩
    obtain ⟨cs, d1, d2, d3⟩ := HBD.out g hg
    refine ⟨cs, d1, fun i h h' => ⟨(d2 i h h').1, ?_⟩, d3⟩
    have hi : i < len := by have := HLL.out; have := HL.out; omega
    have hd : decide (i < len) = true := by simpa using hi
    have h2 : XcS w wr g (decide (i < len)) l.toL[i] cs[i] := (d2 i h h').2
    rw [hd] at h2
    exact h2
end
end Go.Proofs.YtlabadkfkbenoaaGreatDoor
