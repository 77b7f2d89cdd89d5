/- Walks and plain laws, merged: FgU. No condition. -/
import Derived.Test.YtlgneiaenanfaaaGreatDoorKq18
namespace Go.Proofs.YtlgneiaenanfaaaGreatDoor
open Go.RowKit
set_option linter.unusedVariables false
set_option linter.unusedSimpArgs false
set_option maxRecDepth 100000
set_option maxHeartbeats 64000000
set_option exponentiation.threshold 70000
section
set_option maxRecDepth 100000
theorem wp_scope_two {P : Program} {a : Act} {w : World} {Q : Exit → Act → World → Prop} {c r0 r1 : Code} (J0 J1 : Act → World → Prop) (hf0 : findLabel c 0 = some r0) (hf1 : findLabel c 1 = some r1)
  (first : c.wp P (Exit.outs (fun l a w => (l = 0 ∧ J0 a w) ∨ (l = 1 ∧ J1 a w)) Q) a w) (p0 : ∀ a w, J0 a w → r0.wp P (Exit.outs (fun _ _ _ => False) Q) a w) (p1 : ∀ a w, J1 a w → r1.wp P (Exit.outs (fun _ _ _ => False) Q) a w) : (Code.scope c).wp P Q a w := by
 refine wp_scope_outs _ (fun l => if l = 0 then r0 else r1) ?_ first ?_
 ·rintro l a w (⟨rfl, _⟩ | ⟨rfl, _⟩)
  ·exact hf0
  ·exact hf1
 ·rintro l a w (⟨rfl, h⟩ | ⟨rfl, h⟩)
  ·exact p0 a w h
  ·exact p1 a w h
def Gt (n0 : Nat) (w : World) : Prop := 15 ≤ n0 ∧ Inf w ∧ (∃ g og, g < n0 ∧ w.cell? ⟨9, 0, none⟩ = some (.slice (some ⟨g, og, none⟩) 61 61) ∧ ∀ k, 1 ≤ k → k ≤ 60 → ∃ (D : Nat) (cs : List Nat) (s : ByteArray), w.cell? ⟨g, og + k * 2, none⟩ = some (.int .i64 D) ∧ w.cell? ⟨g, og + k * 2 + 1, none⟩ = some (.string s) ∧ Cheat k D cs ∧ TxD s cs ∧ D ≤ 19) ∧
 ∃ g og, g < n0 ∧ w.cell? ⟨13, 0, none⟩ = some (.slice (some ⟨g, og, none⟩) 9 9) ∧ ∀ (i v : Nat), ptab[i]? = some v → w.cell? ⟨g, og + i, none⟩ = some (.int .i64 (v : Int))
theorem Gt.ct {n0 : Nat} {w : World} (h : Gt n0 w) : Ct w := by
 obtain ⟨_, _, ⟨g, og, _, h1, h2⟩, _⟩ := h
 exact ⟨g, og, h1, h2⟩
theorem Gt.on {n0 : Nat} {w w' : World} (h : Gt n0 w) (hB : Below n0 w w') : Gt n0 w' := by
 obtain ⟨h0, ⟨i1, i2⟩, ⟨g, og, g1, g2, g3⟩, ⟨q, oq, q1, q2, q3⟩⟩ := h
 refine ⟨h0, ⟨?_, ?_⟩, ⟨g, og, g1, by rw [hB.cell (show 9 < n0 by omega)]; exact g2, fun k a b => ?_⟩, ⟨q, oq, q1, by rw [hB.cell (show 13 < n0 by omega)]; exact q2, fun i v e => ?_⟩⟩
 ·obtain ⟨t, i1⟩ := i1
  refine ⟨t, ?_⟩
  unfold Bx at *
  rw [hB.block 7 (by omega)]; exact i1
 ·obtain ⟨t, i2⟩ := i2
  refine ⟨t, ?_⟩
  unfold Bx at *
  rw [hB.block 6 (by omega)]; exact i2
 ·obtain ⟨D, cs, s, a1, a2, a3⟩ := g3 k a b
  exact ⟨D, cs, s, by rw [hB.cell g1]; exact a1, by rw [hB.cell g1]; exact a2, a3⟩
 ·rw [hB.cell q1]; exact q3 i v e
structure FB (B n0 : Nat) (neg : Bool) (N D : Nat) (L : Nat) (p : Int) (w wr : World) (ds : List Nat) (dp : Int) (e : Int) : Prop where
 dec : Dec wr B ds dp neg
 hd : ∃ x r, ds = x :: r ∧ x ≠ 0
 dv : DV ds dp (N * 2 ^ (-e).toNat) (D * 2 ^ e.toNat)
 be : Below n0 w wr
 db : dp ≤ 400 ∧ -9000 ≤ dp
 ln : ds.length ≤ 790
 lz : ds.length ≤ 64 ∨ ∀ x, ds.getLast? = some x → x ≠ 0
theorem dv_move {l : List Nat} {dp : Int} {N D : Nat} {e : Int} {k : Nat} (h : DV l dp (N * 2 ^ (-e).toNat) (D * 2 ^ e.toNat * 2 ^ k)) : DV l dp (N * 2 ^ (-(e + k)).toNat) (D * 2 ^ (e + k).toNat) := by
 have hc : 0 < 2 ^ ((-e).toNat - (-(e + (k : Int))).toNat) := Nat.pow_pos (by decide)
 rw [← DV_scale hc]
 have e1 : N * 2 ^ (-(e + (k : Int))).toNat * 2 ^ ((-e).toNat - (-(e + (k : Int))).toNat) = N * 2 ^ (-e).toNat := by
  rw [Nat.mul_assoc, ← Nat.pow_add]; congr 2; omega
 have e2 : D * 2 ^ (e + (k : Int)).toNat * 2 ^ ((-e).toNat - (-(e + (k : Int))).toNat) = D * 2 ^ e.toNat * 2 ^ k := by
  rw [Nat.mul_assoc, Nat.mul_assoc, ← Nat.pow_add, ← Nat.pow_add]; congr 2; omega
 rw [e1, e2]
 exact h
theorem dv_back {l : List Nat} {dp : Int} {N D : Nat} {e : Int} {k : Nat} (h : DV l dp (N * 2 ^ (-e).toNat * 2 ^ k) (D * 2 ^ e.toNat)) : DV l dp (N * 2 ^ (-(e - k)).toNat) (D * 2 ^ (e - k).toNat) := by
 have hc : 0 < 2 ^ (e.toNat - (e - (k : Int)).toNat) := Nat.pow_pos (by decide)
 rw [← DV_scale hc]
 have e1 : N * 2 ^ (-(e - (k : Int))).toNat * 2 ^ (e.toNat - (e - (k : Int)).toNat) = N * 2 ^ (-e).toNat * 2 ^ k := by
  rw [Nat.mul_assoc, Nat.mul_assoc, ← Nat.pow_add, ← Nat.pow_add]; congr 2; omega
 have e2 : D * 2 ^ (e - (k : Int)).toNat * 2 ^ (e.toNat - (e - (k : Int)).toNat) = D * 2 ^ e.toNat := by
  rw [Nat.mul_assoc, ← Nat.pow_add]; congr 2; omega
 rw [e1, e2]
 exact h
theorem fb_step {N D e d0 L : Nat} {ds1 : List Nat} {dp1 p : Int} (hD : 0 < D) (hv : DV ds1 dp1 N (D * 2 ^ e)) (hl : DG ds1) (h0 : ∃ x r, ds1 = x :: r ∧ x ≠ 0) (hpos : 0 < dp1) (hhi : N < D * 10 ^ d0) (hd0 : (d0 : Int) = L + p) (hL : L ≤ 64) (h310 : d0 ≤ 310)
  (hdiv : ∀ e f : Nat, (e : Int) - p ≤ f → D * 2 ^ e ∣ N * 10 ^ f) :
  ∃ f : Nat, D * 2 ^ e * 2 ^ pn dp1.toNat ∣ N * 10 ^ f ∧ dp1 + f ≤ 800 ∧ e + pn dp1.toNat ≤ 1033 ∧ ∀ ds' dp', DV ds' dp' N (D * 2 ^ e * 2 ^ pn dp1.toNat) → (∃ x r, ds' = x :: r ∧ x ≠ 0) → (∀ x, ds'.getLast? = some x → x ≠ 0) → DG ds' → (0 ≤ dp' ∧ ds'.length ≤ 790 ∧ (dp' ≤ 0 → (e : Int) + pn dp1.toNat - p ≤ 790)) := by
 obtain ⟨k, rfl⟩ : ∃ k : Nat, dp1 = (k : Int) := ⟨dp1.toNat, by omega⟩
 rw [show ((k : Int)).toNat = k by omega]
 have lo := hv.lo h0
 rw [show (1 - (k : Int)).toNat = 0 by omega, Nat.pow_zero, Nat.mul_one, show ((k : Int) - 1).toNat = k - 1 by omega] at lo
 obtain ⟨b1, b2⟩ := fb_right hD lo hhi (by omega) h310
 obtain ⟨n1, n2⟩ := pn_bd k
 have hY : 0 < D * 2 ^ e * 2 ^ pn k := Nat.mul_pos (Nat.mul_pos hD (Nat.pow_pos (by decide))) (Nat.pow_pos (by decide))
 have hdv : D * 2 ^ e * 2 ^ pn k = D * 2 ^ (e + pn k) := by rw [Nat.mul_assoc, ← Nat.pow_add]
 refine ⟨((e : Int) + pn k - p).toNat, ?_, by omega, b1, ?_⟩
 ·rw [hdv]; exact hdiv _ _ (by omega)
 ·intro ds' dp' hv' h0' hlast hl'
  have hne : ds' ≠ [] := by obtain ⟨x, r, e, _⟩ := h0'; rw [e]; simp
  have hdp0 : 0 ≤ dp' := by
   apply Classical.byContradiction
   intro hc
   have h1 := DV.hi hv' hl' hY
   rw [show dp'.toNat = 0 by omega, Nat.pow_zero, Nat.mul_one] at h1
   have h2 : 10 ≤ 10 ^ (-dp').toNat := by
    calc 10 = 10 ^ 1 := rfl
     _ ≤ 10 ^ (-dp').toNat := Nat.pow_le_pow_right (by decide) (by omega)
   have h3 : N * 10 ≤ N * 10 ^ (-dp').toNat := Nat.mul_le_mul_left _ h2
   have h4 : D * 2 ^ e * 2 ^ pn k ≤ D * 2 ^ e * 10 ^ k := Nat.mul_le_mul_left _ (pn_pow k (by omega))
   have e10 : 10 ^ k = 10 ^ (k - 1) * 10 := by rw [← Nat.pow_succ, show (k - 1).succ = k by omega]
   have h5 : D * 2 ^ e * 10 ^ k = D * 2 ^ e * 10 ^ (k - 1) * 10 := by rw [e10, ← Nat.mul_assoc]
   omega
  suffices hs : ds'.length ≤ 790 ∧ (dp' ≤ 0 → (e : Int) + pn k - p ≤ 790) from ⟨hdp0, hs⟩
  have hlen := len_bd hv' hl' hY hlast hne (f := ((e : Int) + pn k - p).toNat) (by rw [hdv]; exact hdiv _ _ (by omega))
  have lo' := hv'.lo h0'
  by_cases h1 : 1 ≤ dp'
  ·rw [show (1 - dp').toNat = 0 by omega, Nat.pow_zero, Nat.mul_one, hdv] at lo'
   have b3 := (fb_right (dp := dp'.toNat) hD (by rw [show dp'.toNat - 1 = (dp' - 1).toNat by omega]; exact lo') hhi (by omega) h310).2
   omega
  ·obtain rfl : dp' = 0 := by omega
   rw [show ((0 : Int) - 1).toNat = 0 by omega, show ((1 : Int) - 0).toNat = 1 by omega, Nat.pow_zero, Nat.mul_one, hdv] at lo'
   have h2 : 2 ^ (e + pn k) < 10 ^ (d0 + 1) := by
    refine Nat.lt_of_mul_lt_mul_left (a := D) ?_
    rw [Nat.pow_succ, ← Nat.mul_assoc]
    omega
   have h3 := Nat.lt_of_le_of_lt (pow3_le (e := e + pn k)) h2
   have h4 := (Nat.pow_lt_pow_iff_right (by decide : 1 < 10)).1 h3
   omega
def LF (B n0 : Nat) (neg : Bool) (N D : Nat) (p : Int) (w : World) (a : Value) (wr : World) : Prop := ∃ (e : Nat) (ds1 : List Nat) (dp1 : Int), a = .int .i64 e ∧ Hid (FB B n0 neg N D 0 0 w wr ds1 dp1 (e : Int) ∧ dp1 ≤ 310 ∧ -331 ≤ dp1 ∧ e ≤ 1033 ∧ (dp1 ≤ 0 → (e : Int) - p ≤ 790))
def LG (B n0 : Nat) (neg : Bool) (N D : Nat) (p : Int) (w : World) (a : Value) (wr : World) : Prop := ∃ (e : Int) (ds1 : List Nat) (dp1 : Int), a = .int .i64 e ∧ Hid (FB B n0 neg N D 0 0 w wr ds1 dp1 e ∧ dp1 ≤ 0 ∧ -331 ≤ dp1 ∧ e ≤ 1033 ∧ -2000 ≤ e ∧ max e 0 - p ≤ 790)
theorem nr_tiny {F n d : Nat} (hd : 0 < d) (h : 2 * n < d) : nr F n d = 0 := by
 refine nr_eq hd ⟨Or.inl rfl, Or.inl ?_⟩
 have v1 : val F 1 = 1 := by
  have := val_mk' F 0 1 (by have : 0 < 2 ^ F := Nat.pow_pos (by decide); omega) (Or.inl rfl)
  simpa using this
 rw [val_zero, Nat.zero_add, Nat.zero_add, v1, Nat.one_mul]
 exact h
def PO (F x INF b m : Nat) (E : Int) : Prop := (m < 2 ^ F ∧ b = m ∧ E = -(x : Int) - 1) ∨ (2 ^ F ≤ m ∧ m < 2 * 2 ^ F ∧ -(x : Int) ≤ E ∧ (b : Int) = (E + x) * ((2 ^ F : Nat) : Int) + m ∧ b < INF)
theorem po_mk {F x INF b m K : Nat} {E : Int} (hK : (K : Int) = E + x) (hb : b = K * 2 ^ F + m) (h1 : 2 ^ F ≤ m) (h2 : m < 2 * 2 ^ F) (hI : (K + 2) * 2 ^ F ≤ INF) : PO F x INF b m E := by
 rw [Nat.add_mul] at hI
 refine Or.inr ⟨h1, h2, by omega, ?_, by omega⟩
 rw [← hK, hb, Int.natCast_add, Int.natCast_mul]
theorem frame243 (a : Act) (hd : a.defers = []) (hs : a.tmps.size = 243) : ∃ u : Nat → Value, (∀ i, u i = a.tmps.getD i undef) ∧ a = { tmps := #[u 0, u 1, u 2, u 3, u 4, u 5, u 6, u 7, u 8, u 9, u 10, u 11, u 12, u 13, u 14, u 15, u 16, u 17, u 18, u 19, u 20, u 21, u 22, u 23, u 24, u 25, u 26, u 27, u 28, u 29, u 30, u 31, u 32, u 33, u 34, u 35, u 36, u 37, u 38, u 39, u 40, u 41, u 42, u 43, u 44, u 45, u 46, u 47, u 48, u 49, u 50, u 51, u 52, u 53, u 54, u 55, u 56, u 57, u 58, u 59, u 60, u 61, u 62, u 63, u 64, u 65, u 66, u 67, u 68, u 69, u 70, u 71, u 72, u 73, u 74, u 75, u 76, u 77, u 78, u 79, u 80, u 81, u 82, u 83, u 84, u 85, u 86, u 87, u 88, u 89, u 90, u 91, u 92, u 93, u 94, u 95, u 96, u 97, u 98, u 99, u 100, u 101, u 102, u 103, u 104, u 105, u 106, u 107, u 108, u 109, u 110, u 111, u 112, u 113, u 114, u 115, u 116, u 117, u 118, u 119, u 120, u 121, u 122, u 123, u 124, u 125, u 126, u 127, u 128, u 129, u 130, u 131, u 132, u 133, u 134, u 135, u 136, u 137, u 138, u 139, u 140, u 141, u 142, u 143, u 144, u 145, u 146, u 147, u 148, u 149, u 150, u 151, u 152, u 153, u 154, u 155, u 156, u 157, u 158, u 159, u 160, u 161, u 162, u 163, u 164, u 165, u 166, u 167, u 168, u 169, u 170, u 171, u 172, u 173, u 174, u 175, u 176, u 177, u 178, u 179, u 180, u 181, u 182, u 183, u 184, u 185, u 186, u 187, u 188, u 189, u 190, u 191, u 192, u 193, u 194, u 195, u 196, u 197, u 198, u 199, u 200, u 201, u 202, u 203, u 204, u 205, u 206, u 207, u 208, u 209, u 210, u 211, u 212, u 213, u 214, u 215, u 216, u 217, u 218, u 219, u 220, u 221, u 222, u 223, u 224, u 225, u 226, u 227, u 228, u 229, u 230, u 231, u 232, u 233, u 234, u 235, u 236, u 237, u 238, u 239, u 240, u 241, u 242], defers := [] } := by
 refine ⟨fun i => a.tmps.getD i undef, fun _ => rfl, ?_⟩
 obtain ⟨t, d⟩ := a
 simp only at hd hs
 subst hd
 congr 1
 have e : t = ((List.range 243).map fun i => t.getD i undef).toArray := by
  apply Array.ext
  ·simp [hs]
  ·intro i h1 h2
   simp [Array.getD, h1]
 exact e.trans (by kernel_rfl)
theorem bits201_64 (B : Nat) (ds : List Nat) (dp : Int) (neg : Bool) (w : World) (hw : Dec w B ds dp neg) (h0 : ∃ x r, ds = x :: r ∧ x ≠ 0) (N D : Nat) (hD0 : 0 < D) (hv : DV ds dp N D) (p : Int) (hp : dp = (ds.length : Int) + p) (hl : ds.length ≤ 64) (hdiv : ∀ e f : Nat, (e : Int) - p ≤ f → D * 2 ^ e ∣ N * 10 ^ f) (hdp : -20000 ≤ dp ∧ dp ≤ 20000) (n0 : Nat) (hn0 : n0 ≤ B) (hgt : Gt n0 w) :
  Calls Tryz.prog 201 #[.pointer (some ⟨B, 0, none⟩), .pointer (some ⟨7, 0, none⟩)] w fun e' w' => (e' = .returned (.tuple #[.int .u64 ((sg64 neg + min (nr 52 (N * 2 ^ 1074) D) 9218868437227405312 : Nat) : Int), .bool (decide (9218868437227405312 ≤ nr 52 (N * 2 ^ 1074) D))])) ∧ Below n0 w w' := by
 obtain ⟨b, hb⟩ : ∃ b, b = nr 52 (N * 2 ^ 1074) D := ⟨_, rfl⟩
 rw [← hb]
 obtain ⟨R, hR⟩ : ∃ R : Ending → Prop, R = fun e' => (e' = .returned (.tuple #[.int .u64 ((sg64 neg + min b 9218868437227405312 : Nat) : Int), .bool (decide (9218868437227405312 ≤ b))])) := ⟨_, rfl⟩
 suffices hx : Calls Tryz.prog 201 #[.pointer (some ⟨B, 0, none⟩), .pointer (some ⟨7, 0, none⟩)] w fun e' w' => R e' ∧ Below n0 w w' from hx.mono fun e w' h => ⟨by have := h.1; rw [hR] at this; exact this, h.2⟩
 replace hR := hid hR
 have c0 := hgt.2.1.1.cell 0
 have c1 := hgt.2.1.1.cell 1
 have c2 := hgt.2.1.1.cell 2
 simp at c0 c1 c2
 have hwD := hid hw
 obtain ⟨cc, hF, hD⟩ := hw
 have d0 := hF.cell 800 (by decide)
 have d1 := hF.cell 801 (by decide)
 have d2 := hF.cell 802 (by decide)
 rw [hD.nd] at d0
 rw [hD.dp] at d1
 rw [hD.ng] at d2
 have hnz : ((ds.length : Int) == 0) = false := by obtain ⟨x, r, e, _⟩ := h0; rw [e]; exact bne_of (by simp; omega)
 have hDG := hid hD.nine
 replace hgt := hid hgt
 replace hb := hid hb
 replace h0 := hid h0
 replace hv := hid hv
 replace hdiv := hid hdiv
 replace hp := hid hp
 clear hF hD
 have hdp1 := hdp.1
 have hdp2 := hdp.2
 go_enter Tryz.func201, Tryz.ntmps201
 go_wp2_with fail
 refine wp_scope_two (fun a' w' => ∃ (m : Nat) (E : Int), Hid (PO 52 1022 9218868437227405312 b m E ∧ w'.cell? ⟨B, 802, none⟩ = some (.bool neg) ∧ Below n0 w w') ∧ a'.defers = [] ∧ a'.tmps.size = 243 ∧ a'.tmps.getD 0 undef = .pointer (some ⟨B, 0, none⟩) ∧ a'.tmps.getD 1 undef = .pointer (some ⟨7, 0, none⟩) ∧ a'.tmps.getD 5 undef = .bool false ∧ a'.tmps.getD 6 undef = .int .i64 E ∧ a'.tmps.getD 7 undef = .int .u64 m) (fun a' w' => Hid (9218868437227405312 ≤ b ∧ w'.cell? ⟨B, 802, none⟩ = some (.bool neg) ∧ Below n0 w w') ∧ a'.defers = [] ∧ a'.tmps.size = 243 ∧ a'.tmps.getD 0 undef = .pointer (some ⟨B, 0, none⟩) ∧ a'.tmps.getD 1 undef = .pointer (some ⟨7, 0, none⟩)) rfl rfl ?first ?p0 ?p1
 case first =>
  by_cases hbig : 310 < dp
  ·have hov : 9218868437227405312 ≤ b := by
    rw [hb.out]
    refine nr_ge hD0 ?_
    have h1 := hv.out.lo h0.out
    rw [show (1 - dp).toNat = 0 by omega, Nat.pow_zero, Nat.mul_one] at h1
    have h2 : val 52 9218868437227405312 = 2 ^ 1024 * 2 ^ 1074 := val_inf64
    have h3 : (2 ^ 1024 : Nat) ≤ 10 ^ 310 := Nat.le_of_ble_eq_true (by kernel_rfl)
    have h4 : (10 : Nat) ^ 310 ≤ 10 ^ (dp - 1).toNat := Nat.pow_le_pow_right (by decide) (by omega)
    rw [h2]
    calc 2 ^ 1024 * 2 ^ 1074 * D ≤ 10 ^ (dp - 1).toNat * 2 ^ 1074 * D := Nat.mul_le_mul_right _ (Nat.mul_le_mul_right _ (Nat.le_trans h3 h4))
     _ = D * 10 ^ (dp - 1).toNat * 2 ^ 1074 := by simp only [Nat.mul_assoc, Nat.mul_left_comm, Nat.mul_comm]
     _ ≤ N * 2 ^ 1074 := Nat.mul_le_mul_right _ h1
   have hfin : Hid (9218868437227405312 ≤ b ∧ w.cell? ⟨B, 802, none⟩ = some (.bool neg) ∧ Below n0 w w) := hid ⟨hov, d2, Below.refl _ _⟩
   clear hov
   go_wp2_with fail
   refine wp_goto ?_
   simp only [Exit.then, Exit.outs]
   exact Or.inr ⟨rfl, hfin, rfl, rfl, rfl, rfl⟩
  by_cases hsm : dp < -330
  ·have hz : b = 0 := by
    rw [hb.out]
    refine nr_tiny hD0 ?_
    have h1 := DV.hi hv.out hDG.out hD0
    rw [show dp.toNat = 0 by omega, Nat.pow_zero, Nat.mul_one] at h1
    have h3 : (2 * 2 ^ 1074 : Nat) ≤ 10 ^ 331 := Nat.le_of_ble_eq_true (by kernel_rfl)
    have h4 : (10 : Nat) ^ 331 ≤ 10 ^ (-dp).toNat := Nat.pow_le_pow_right (by decide) (by omega)
    calc 2 * (N * 2 ^ 1074) = N * (2 * 2 ^ 1074) := by simp only [Nat.mul_assoc, Nat.mul_left_comm, Nat.mul_comm]
     _ ≤ N * 10 ^ (-dp).toNat := Nat.mul_le_mul_left _ (Nat.le_trans h3 h4)
     _ < D := h1
   have hfin : Hid (PO 52 1022 9218868437227405312 b 0 (-1023) ∧ w.cell? ⟨B, 802, none⟩ = some (.bool neg) ∧ Below n0 w w) := hid ⟨Or.inl ⟨by decide, hz, by decide⟩, d2, Below.refl _ _⟩
   clear hz
   go_wp2_with fail
   refine wp_goto ?_
   simp only [Exit.then, Exit.outs]
   exact Or.inl ⟨rfl, 0, _, hfin, rfl, rfl, rfl, rfl, rfl, rfl, rfl⟩
  refine wp_seq_k fun K1 h1 => ?_
  have h1' := hid h1
  clear h1
  go_wp2_with fail
  refine h1'.out _ _ ?_
  clear h1'
  refine wp_seq_k fun K1 h1 => ?_
  have h1' := hid h1
  clear h1
  go_wp2_with fail
  refine h1'.out _ _ ?_
  clear h1'
  refine wp_seq_k fun K1 h1 => ?_
  have h1' := hid h1
  clear h1
  go_wp2_with fail
  refine h1'.out _ _ ?_
  clear h1'
  refine wp_seq_k fun K1 h1 => ?_
  have h1' := hid h1
  clear h1
  go_wp2_with fail
  refine h1'.out _ _ ?_
  clear h1'
  refine wp_seq_k fun K1 h1 => ?_
  have h1' := hid h1
  clear h1
  go_wp2_with fail
  refine h1'.out _ _ ?_
  clear h1'
  refine wp_seq_k fun K1 h1 => ?_
  have h1' := hid h1
  clear h1
  go_wp2_with fail
  refine h1'.out _ _ ?_
  clear h1'
  refine cut_seq (fun a' w' => ∃ (e : Int) (ds1 : List Nat) (dp1 : Int), Hid (FB B n0 neg N D 0 0 w w' ds1 dp1 e ∧ dp1 ≤ 0 ∧ -331 ≤ dp1 ∧ e ≤ 1033 ∧ 0 ≤ e ∧ max e 0 - p ≤ 790) ∧ a'.defers = [] ∧ a'.tmps.size = 243 ∧ a'.tmps.getD 0 undef = .pointer (some ⟨B, 0, none⟩) ∧ a'.tmps.getD 1 undef = .pointer (some ⟨7, 0, none⟩) ∧ a'.tmps.getD 5 undef = .bool false ∧ a'.tmps.getD 6 undef = .int .i64 e ∧ a'.tmps.getD 7 undef = .int .u64 0) ?h1 ?h2
  case h1 =>
   intro K hK
   have hK' := hid hK
   clear hK
   go_wp2_with fail
   go_loopw [6] (fun a wr => LF B n0 neg N D p w a wr) (fun a _ => N / (D * 2 ^ (intOf a).toNat))
   case atStart => exact ⟨0, ds, dp, rfl, hid ⟨⟨hwD.out, h0.out, by simpa using hv.out, Below.refl _ _, ⟨by omega, by omega⟩, by omega, Or.inl hl⟩, by omega, by omega, by omega, fun _ => by have := hp.out; omega⟩⟩
   case round =>
    obtain ⟨e, ds1, dp1, rfl, hV⟩ := hrel
    obtain ⟨c1, hF1, hC1⟩ := hV.out.1.dec
    have x1 := hF1.cell 801 (by decide)
    rw [hC1.dp] at x1
    have hdp31 : dp1 ≤ 310 := hV.out.2.1
    have hdp30 : -331 ≤ dp1 := hV.out.2.2.1
    have he33 : e ≤ 1033 := hV.out.2.2.2.1
    have hnine := hC1.nine
    have hgr := (hgt.out.on hV.out.1.be)
    obtain ⟨_, _, _, ⟨g, og, g1, g2, g3⟩⟩ := hgr
    by_cases hpos : 0 < dp1
    ·have hvv : DV ds1 dp1 N (D * 2 ^ e) := by have := hV.out.1.dv; simpa using this
     have hY : 0 < D * 2 ^ e := Nat.mul_pos hD0 (Nat.pow_pos (by decide))
     have hle : D * 2 ^ e ≤ N := (dv_one hvv hnine hY hV.out.1.hd).1 hpos
     have hdpp : 0 < dp := (dv_one hv.out hDG.out hD0 h0.out).2 (by
      have : D * 1 ≤ D * 2 ^ e := Nat.mul_le_mul_left _ (Nat.pow_pos (by decide))
      omega)
     have hhi : N < D * 10 ^ dp.toNat := by
      have := DV.hi hv.out hDG.out hD0
      rwa [show (-dp).toNat = 0 by omega, Nat.pow_zero, Nat.mul_one] at this
     obtain ⟨f, q1, q2, q3, q4⟩ := fb_step (d0 := dp.toNat) (L := ds.length) hD0 hvv hnine hV.out.1.hd hpos hhi (by have := hp.out; omega) hl (by omega) hdiv.out
     obtain ⟨n, hn⟩ : ∃ n, n = pn dp1.toNat := ⟨_, rfl⟩
     have hnb := pn_bd dp1.toNat
     rw [← hn] at q1 q3 q4 hnb
     have hsh := fun q => shiftR144 B ds1 dp1 neg n (by omega) hV.out.1.hd (wr.drewN q) ⟨c1, hF1.drewN q, hC1⟩ n0 hn0 N (D * 2 ^ e) f hY hvv q1 q2 ⟨by omega, by omega⟩
     have hfin : ∀ q w2, ((∃ ds' dp', Dec w2 B ds' dp' neg ∧ (∃ d r, ds' = d :: r ∧ d ≠ 0) ∧ (∀ x, ds'.getLast? = some x → x ≠ 0) ∧ DV ds' dp' N (D * 2 ^ e * 2 ^ n) ∧ dp' ≤ dp1 ∧ dp1 - 40000 ≤ dp') ∧ Below n0 (wr.drewN q) w2) → ∀ a : Int, a = ((e + n : Nat) : Int) → LF B n0 neg N D p w (.int .i64 a) w2 := by
      rintro q w2 ⟨⟨ds', dp', a1, a2, a3, a4, a5, a6⟩, a7⟩ a rfl
      obtain ⟨cc, _, hcc⟩ := a1
      obtain ⟨b1, b2, b3⟩ := q4 ds' dp' a4 a2 a3 hcc.nine
      refine ⟨e + n, ds', dp', rfl, hid ⟨⟨⟨cc, ‹_›, hcc⟩, a2, ?_, (below_drewN hV.out.1.be q).trans a7, ⟨by omega, by omega⟩, b2, Or.inr a3⟩, by omega, by omega, q3, fun h => by have := b3 h; omega⟩⟩
      have := dv_move (e := (e : Int)) (k := n) (N := N) (D := D) (l := ds') (dp := dp') (by simpa using a4)
      simpa using this
     have hmes : N / (D * 2 ^ (e + n)) < N / (D * 2 ^ e) := by
      have := fb_less hY hle hnb.1
      rwa [Nat.mul_assoc, ← Nat.pow_add] at this
     have hei : (e : Int) + n ≤ 1033 := by omega
     have hei0 : 0 ≤ (e : Int) := by omega
     have hn27 : n ≤ 27 := hnb.2
     replace hfin := hid hfin
     replace hmes := hid hmes
     replace hsh := hid hsh
     by_cases h9 : 9 ≤ dp1
     ·have hn9 : n = 27 := by rw [hn]; unfold pn; rw [if_neg (by omega)]
      subst hn9
      clear hF1 hC1 hnine hvv hY hle hdpp hhi q1 q2 q3 q4 hn hnb g1 g3
      go_wp2_with fail
      go_region
      go_wp2_with fail
      refine (hsh.out 1 _ rfl).mono ?_
      rintro e2 w2 ⟨rfl, h1⟩
      have h1' := hid h1
      clear h1
      go_wp2_with fail
      go_roundw
      case rel => exact hfin.out 1 _ h1'.out _ (by omega)
      case measure => simpa [intOf, show ((e : Int) + 27).toNat = e + 27 by omega] using hmes.out
     ·obtain ⟨k, rfl⟩ : ∃ k : Nat, dp1 = (k : Int) := ⟨dp1.toNat, by omega⟩
      have hk9 : k < 9 := by omega
      have hpv : ptab[k]? = some n := by
       have : pn k = ptab.getD k 0 := by unfold pn; rw [if_pos hk9]
       rw [show ((k : Int)).toNat = k by omega, this] at hn
       rw [hn, getD_at ptab k (by show k < 9; exact hk9)]
       exact List.getElem?_eq_getElem _
      have gk := g3 k n hpv
      have hki : (k : Int) < 9 := by omega
      have hkp : ¬ (9 : Int) ≤ (k : Int) := by omega
      clear hF1 hC1 hnine hvv hY hle hdpp hhi q1 q2 q3 q4 hn hnb g1 g3 hpv hk9
      go_wp2_with fail
      go_region
      go_wp2_with fail
      go_region
      go_wp2_with fail
      refine (hsh.out 2 _ rfl).mono ?_
      rintro e2 w2 ⟨rfl, h1⟩
      have h1' := hid h1
      clear h1
      go_wp2_with fail
      go_roundw
      case rel => exact hfin.out 2 _ h1'.out _ (by omega)
      case measure => simpa [intOf, show ((e : Int) + n).toNat = e + n by omega] using hmes.out
    ·clear hF1 hC1 hnine g1 g3
     go_wp2_with fail
     exact hK'.out _ _ ⟨(e : Int), ds1, dp1, hid ⟨hV.out.1, by omega, by omega, by omega, by omega, by have := hV.out.2.2.2.2 (by omega); omega⟩, rfl, rfl, rfl, rfl, rfl, rfl, rfl⟩
  case h2 =>
   rintro a wc ⟨e1, ds2, dp2, hP1, hd0, hz0, f0, f1, f5, f6, f7⟩
   obtain ⟨u, hu, ha⟩ := frame243 a hd0 hz0
   rw [(hu 0).trans f0, (hu 1).trans f1, (hu 5).trans f5, (hu 6).trans f6, (hu 7).trans f7] at ha
   clear f0 f1 f5 f6 f7 hu hd0 hz0
   subst ha
   refine cut_seq (fun a' w' => ∃ (e : Int) (ds1 : List Nat) (dp1 : Int), Hid (FB B n0 neg N D 0 0 w w' ds1 dp1 e ∧ dp1 ≤ 0 ∧ -331 ≤ dp1 ∧ e ≤ 1033 ∧ -2000 ≤ e ∧ max e 0 - p ≤ 790 ∧ D * 2 ^ e.toNat ≤ 2 * (N * 2 ^ (-e).toNat)) ∧ a'.defers = [] ∧ a'.tmps.size = 243 ∧ a'.tmps.getD 0 undef = .pointer (some ⟨B, 0, none⟩) ∧ a'.tmps.getD 1 undef = .pointer (some ⟨7, 0, none⟩) ∧ a'.tmps.getD 5 undef = .bool false ∧ a'.tmps.getD 6 undef = .int .i64 e ∧ a'.tmps.getD 7 undef = .int .u64 0) ?h1 ?h2
   case h1 =>
    intro K hK
    have hK' := hid hK
    clear hK
    go_wp2_with fail
    go_loopw [6] (fun a wr => LG B n0 neg N D p w a wr) (fun a _ => (intOf a + 3000).toNat)
    case atStart => exact ⟨e1, ds2, dp2, rfl, hid ⟨hP1.out.1, hP1.out.2.1, hP1.out.2.2.1, hP1.out.2.2.2.1, by have := hP1.out.2.2.2.2.1; omega, hP1.out.2.2.2.2.2⟩⟩
    case round =>
     obtain ⟨e, ds1, dp1, rfl, hV⟩ := hrel
     obtain ⟨c1, hF1, hC1⟩ := hV.out.1.dec
     have x1 := hF1.cell 801 (by decide)
     rw [hC1.dp] at x1
     have hhd := hV.out.1.hd
     have hlen1 : 0 < ds1.length := by obtain ⟨x, r, e, _⟩ := hhd; rw [e]; simp
     have x0 := hF1.cell 0 (by decide)
     rw [hC1.dg 0 hlen1] at x0
     have hnine := hC1.nine
     have hdp0 : dp1 ≤ 0 := hV.out.2.1
     have hdp30 : -331 ≤ dp1 := hV.out.2.2.1
     have he33 : e ≤ 1033 := hV.out.2.2.2.1
     have he20 : -2000 ≤ e := hV.out.2.2.2.2.1
     have hep := hV.out.2.2.2.2.2
     obtain ⟨X, hX⟩ : ∃ X, X = N * 2 ^ (-e).toNat := ⟨_, rfl⟩
     obtain ⟨Y, hYe⟩ : ∃ Y, Y = D * 2 ^ e.toNat := ⟨_, rfl⟩
     have hvv := hV.out.1.dv
     rw [← hX, ← hYe] at hvv
     have hY : 0 < Y := by rw [hYe]; exact Nat.mul_pos hD0 (Nat.pow_pos (by decide))
     have hhalf := dv_half hvv hnine hY hhd hdp0
     rw [getD_at _ _ hlen1] at hhalf
     obtain ⟨d00, hd00⟩ : ∃ d00, d00 = ds1[0] := ⟨_, rfl⟩
     have hd09 : ds1[0] ≤ 9 := hnine _ (List.getElem_mem hlen1)
     rw [← hd00] at hhalf x0 hd09
     obtain ⟨di, hdi⟩ : ∃ di : Int, di = ((48 + d00 : Nat) : Int) := ⟨_, rfl⟩
     rw [← hdi] at x0
     obtain ⟨_, _, _, ⟨g, og, g1, g2, g3⟩⟩ := hgt.out.on hV.out.1.be
     obtain ⟨k, hk⟩ : ∃ k : Nat, dp1 = -(k : Int) := ⟨(-dp1).toNat, by omega⟩
     by_cases hlt : 2 * X < Y
     ·obtain ⟨n, hn⟩ : ∃ n, n = pn k := ⟨_, rfl⟩
      have hnb := pn_bd k
      rw [← hn] at hnb
      have hless : X * 2 ^ n < Y := by
       by_cases hk0 : k = 0
       ·subst hk0
        rw [hn]
        have : pn 0 = 1 := by decide
        rw [this, Nat.pow_one]
        omega
       ·have h1 := DV.hi hvv hnine hY
        rw [show dp1.toNat = 0 by omega, Nat.pow_zero, Nat.mul_one, show (-dp1).toNat = k by omega] at h1
        have h2 : X * 2 ^ n ≤ X * 10 ^ k := Nat.mul_le_mul_left _ (by rw [hn]; exact pn_pow k (by omega))
        omega
      have hlb : ∀ D', 10 ^ (D' - 1) ≤ 2 ^ n → ds1.length + D' ≤ 800 := by
       intro D' hD'
       have h1 : 2 ^ n ≤ 2 ^ 27 := Nat.pow_le_pow_right (by decide) hnb.2
       have h2 : (2 : Nat) ^ 27 < 10 ^ 9 := by decide
       have h3 := (Nat.pow_lt_pow_iff_right (by decide : 1 < 10)).1 (Nat.lt_of_le_of_lt (Nat.le_trans hD' h1) h2)
       have := hV.out.1.ln
       omega
      have hsh := fun q => shiftL144 B ds1 dp1 neg n (by omega) hhd (wr.drewN q) ⟨c1, hF1.drewN q, hC1⟩ ((hgt.out.on (below_drewN hV.out.1.be q)).ct) n0 hn0 X Y hvv hlb ⟨by omega, by omega⟩
      have hfin : ∀ q w2, ((∃ ds' dp', Dec w2 B ds' dp' neg ∧ (∃ d r, ds' = d :: r ∧ d ≠ 0) ∧ (∀ x, ds'.getLast? = some x → x ≠ 0) ∧ DV ds' dp' (X * 2 ^ n) Y ∧ dp1 ≤ dp' ∧ dp' ≤ dp1 + 19) ∧ Below n0 (wr.drewN q) w2) → ∀ a : Int, a = e - n → LG B n0 neg N D p w (.int .i64 a) w2 := by
       rintro q w2 ⟨⟨ds', dp', a1, a2, a3, a4, a5, a6⟩, a7⟩ a rfl
       obtain ⟨cc, hcF, hcc⟩ := a1
       have hb0 : dp' ≤ 0 := by
        apply Classical.byContradiction
        intro hc
        have := (dv_one a4 hcc.nine hY a2).1 (by omega)
        omega
       have hne : ds' ≠ [] := by obtain ⟨x, r, e, _⟩ := a2; rw [e]; simp
       have hdv2 : DV ds' dp' (N * 2 ^ (-(e - n)).toNat) (D * 2 ^ (e - n).toNat) := dv_back (by rw [← hX, ← hYe]; exact a4)
       have hY2 : 0 < D * 2 ^ (e - (n : Int)).toNat := Nat.mul_pos hD0 (Nat.pow_pos (by decide))
       have hln := len_bd hdv2 hcc.nine hY2 a3 hne (f := (max (e - n) 0 - p).toNat) (by
        rw [Nat.mul_assoc, Nat.mul_comm (2 ^ _), ← Nat.mul_assoc]
        exact Nat.dvd_mul_right_of_dvd (hdiv.out _ _ (by omega)) _)
       have hlen' : 0 < ds'.length := List.length_pos_iff.2 hne
       have helow : -2000 ≤ e - n := by
        apply Classical.byContradiction
        intro hc
        have h1 := hv.out.lo h0.out
        have h2 := DV.hi hdv2 hcc.nine hY2
        have h3 : dp'.toNat = 0 := by omega
        rw [h3, Nat.pow_zero, Nat.mul_one, show (e - (n : Int)).toNat = 0 by omega, Nat.pow_zero, Nat.mul_one] at h2
        have h4 : N * 2 ^ (-(e - (n : Int))).toNat ≤ N * 2 ^ (-(e - (n : Int))).toNat * 10 ^ (-dp').toNat := Nat.le_mul_of_pos_right _ (Nat.pow_pos (by decide))
        have h5 : D ≤ N * 10 ^ 332 := by
         have h6 : D * 1 ≤ D * 10 ^ (dp - 1).toNat := Nat.mul_le_mul_left _ (Nat.pow_pos (by decide))
         have h7 : N * 10 ^ (1 - dp).toNat ≤ N * 10 ^ 332 := Nat.mul_le_mul_left _ (Nat.pow_le_pow_right (by decide) (by omega))
         omega
        have h8 : (10 : Nat) ^ 332 ≤ 2 ^ 1103 := Nat.le_of_ble_eq_true (by kernel_rfl)
        have h9 : N * 10 ^ 332 ≤ N * 2 ^ (-(e - (n : Int))).toNat := Nat.mul_le_mul_left _ (Nat.le_trans h8 (Nat.pow_le_pow_right (by decide) (by omega)))
        omega
       refine ⟨e - n, ds', dp', rfl, hid ⟨⟨⟨cc, hcF, hcc⟩, a2, hdv2, (below_drewN hV.out.1.be q).trans a7, ⟨by omega, by omega⟩, by omega, Or.inr a3⟩, hb0, by omega, by omega, helow, by omega⟩⟩
      have hn27 : (n : Int) ≤ 27 := by omega
      have hn1 : 1 ≤ (n : Int) := by omega
      have hnk : -dp1 = (k : Int) := by omega
      have hcnd := hhalf.2 hlt
      have hd48 : 48 ≤ di := by omega
      replace hfin := hid hfin
      replace hsh := hid hsh
      have hdd : (dp1 < 0) ∨ (dp1 = 0 ∧ di < 53) := by omega
      clear hF1 hC1 hhd hnine hvv hhalf hcnd hd00 hd09 hX hYe hY hdi hless hlb hlt hep
      rcases hdd with hneg | ⟨hz, h53⟩
      ·by_cases h9 : 9 ≤ k
       ·have hn9 : n = 27 := by rw [hn]; unfold pn; rw [if_neg (by omega)]
        subst hn9
        have hki : 9 ≤ (k : Int) := by omega
        clear hn hnb g1 g3 h9
        replace hk := hid hk
        go_wp2_with fail
        go_region
        go_wp2_with fail
        refine (hsh.out 1).mono ?_
        rintro e2 w2 ⟨rfl, h1⟩
        have h1' := hid h1
        clear h1
        go_wp2_with fail
        go_roundw
        case rel => exact hfin.out 1 _ h1'.out _ (by first | rfl | omega)
        case measure => simp [intOf]; omega
       ·have hk9 : k < 9 := by omega
        have hpv : ptab[k]? = some n := by
         have : pn k = ptab.getD k 0 := by unfold pn; rw [if_pos hk9]
         rw [this] at hn
         rw [hn, getD_at ptab k (by show k < 9; exact hk9)]
         exact List.getElem?_eq_getElem _
        have gk := g3 k n hpv
        have hki : ¬ (9 : Int) ≤ (k : Int) := by omega
        have hki2 : (k : Int) < 9 := by omega
        clear hn hnb g1 g3 h9 hk9 hpv
        replace hk := hid hk
        go_wp2_with fail
        go_region
        go_wp2_with fail
        go_region
        go_wp2_with fail
        refine (hsh.out 2).mono ?_
        rintro e2 w2 ⟨rfl, h1⟩
        have h1' := hid h1
        clear h1
        go_wp2_with fail
        go_roundw
        case rel => exact hfin.out 2 _ h1'.out _ (by first | rfl | omega)
        case measure => simp [intOf]; omega
      ·obtain rfl : k = 0 := by omega
       subst hz
       have hn1' : n = 1 := by rw [hn]; decide
       subst hn1'
       have gk := g3 0 1 rfl
       rw [Nat.add_zero] at gk
       clear hn hnb g1 g3 hk hnk
       go_wp2_with fail
       go_region
       go_wp2_with fail
       go_region
       go_wp2_with fail
       refine (hsh.out 2).mono ?_
       rintro e2 w2 ⟨rfl, h1⟩
       have h1' := hid h1
       clear h1
       go_wp2_with fail
       go_roundw
       case rel => exact hfin.out 2 _ h1'.out _ (by first | rfl | omega)
       case measure => simp [intOf]; omega
     ·have hnc : ¬ (dp1 < 0) ∧ ¬ (dp1 = 0 ∧ di < 53) := by
       constructor
       ·intro h; exact hlt (hhalf.1 (Or.inl h))
       ·rintro ⟨h1, h2⟩; exact hlt (hhalf.1 (Or.inr ⟨h1, by omega⟩))
      have hz : dp1 = 0 := by omega
      have h53 : ¬ di < 53 := fun h => hnc.2 ⟨hz, h⟩
      have hfin : Hid (FB B n0 neg N D 0 0 w wr ds1 dp1 e ∧ dp1 ≤ 0 ∧ -331 ≤ dp1 ∧ e ≤ 1033 ∧ -2000 ≤ e ∧ max e 0 - p ≤ 790 ∧ D * 2 ^ e.toNat ≤ 2 * (N * 2 ^ (-e).toNat)) := hid ⟨hV.out.1, hdp0, hdp30, he33, he20, hep, by rw [← hX, ← hYe]; omega⟩
      rw [hz] at x1
      clear hF1 hC1 hhd hnine hvv hhalf hd00 hd09 hX hYe hY hdi g1 g3 hk hlt hnc hz
      go_wp2_with fail
      exact hK'.out _ _ ⟨e, ds1, dp1, hfin, rfl, rfl, rfl, rfl, rfl, rfl, rfl⟩
   case h2 =>
    rintro a wc ⟨e, ds1, dp1, hP2, hd0, hz0, f0, f1, f5, f6, f7⟩
    obtain ⟨u, hu, ha⟩ := frame243 a hd0 hz0
    rw [(hu 0).trans f0, (hu 1).trans f1, (hu 5).trans f5, (hu 6).trans f6, (hu 7).trans f7] at ha
    clear f0 f1 f5 f6 f7 hu hd0 hz0
    subst ha
    have hb33 : e ≤ 1033 := hP2.out.2.2.2.1
    have hb20 : -2000 ≤ e := hP2.out.2.2.2.2.1
    refine wp_seq_k fun K1 h1 => ?_
    have h1' := hid h1
    clear h1
    go_wp2_with fail
    refine h1'.out _ _ ?_
    clear h1'
    refine cut_seq (fun a' w' => ∃ (e : Int) (ds1 : List Nat) (dp1 : Int), Hid (FB B n0 neg N D 0 0 w w' ds1 dp1 (e + 1) ∧ dp1 ≤ 0 ∧ -((1022 : Nat) : Int) ≤ e ∧ (e = -((1022 : Nat) : Int) ∨ D * 2 ^ (e + 1).toNat ≤ 2 * (N * 2 ^ (-(e + 1)).toNat)) ∧ max (e + 1) 0 - p ≤ 790) ∧ a'.defers = [] ∧ a'.tmps.size = 243 ∧ a'.tmps.getD 0 undef = .pointer (some ⟨B, 0, none⟩) ∧ a'.tmps.getD 1 undef = .pointer (some ⟨7, 0, none⟩) ∧ a'.tmps.getD 5 undef = .bool false ∧ a'.tmps.getD 6 undef = .int .i64 e ∧ a'.tmps.getD 7 undef = .int .u64 0) ?h1 ?h2
    case h1 =>
     intro K hK
     have hK' := hid hK
     clear hK
     obtain ⟨hFB, hd0, hd331, he33, he20, hep, hhalf⟩ := hP2.out
     obtain ⟨c1, hF1, hC1⟩ := hFB.dec
     have gi := (hgt.out.on hFB.be).2.1.1
     have g2' := gi.cell 2
     simp at g2'
     by_cases hlow : e - 1 < -1022
     ·obtain ⟨n, hn⟩ : ∃ n : Nat, (n : Int) = -1022 + 1 - e := ⟨(-1022 + 1 - e).toNat, by omega⟩
      obtain ⟨X, hX⟩ : ∃ X, X = N * 2 ^ (-e).toNat := ⟨_, rfl⟩
      obtain ⟨Y, hYe⟩ : ∃ Y, Y = D * 2 ^ e.toNat := ⟨_, rfl⟩
      have hvv := hFB.dv
      rw [← hX, ← hYe] at hvv
      have hY : 0 < Y := by rw [hYe]; exact Nat.mul_pos hD0 (Nat.pow_pos (by decide))
      have hYD : Y = D := by rw [hYe, show e.toNat = 0 by omega, Nat.pow_zero, Nat.mul_one]
      have hdv : Y * 2 ^ n ∣ X * 10 ^ (-p).toNat := by
       have h1 := hdiv.out 0 (-p).toNat (by omega)
       rw [Nat.pow_zero, Nat.mul_one] at h1
       have h2 : 2 ^ n ∣ 2 ^ (-e).toNat := Nat.pow_dvd_pow 2 (by omega)
       have h3 := Nat.mul_dvd_mul h1 h2
       rw [hYD, hX]
       have e1 : N * 2 ^ (-e).toNat * 10 ^ (-p).toNat = N * 10 ^ (-p).toNat * 2 ^ (-e).toNat := by simp only [Nat.mul_assoc, Nat.mul_left_comm, Nat.mul_comm]
       rw [e1]
       exact h3
      have hsh := shiftR144 B ds1 dp1 neg n (by omega) hFB.hd wc hFB.dec n0 hn0 X Y (-p).toNat hY hvv hdv (by omega) ⟨by omega, by omega⟩
      have hfin : ∀ w2, ((∃ ds' dp', Dec w2 B ds' dp' neg ∧ (∃ d r, ds' = d :: r ∧ d ≠ 0) ∧ (∀ x, ds'.getLast? = some x → x ≠ 0) ∧ DV ds' dp' X (Y * 2 ^ n) ∧ dp' ≤ dp1 ∧ dp1 - 40000 ≤ dp') ∧ Below n0 wc w2) → ∃ ds2 dp2, FB B n0 neg N D 0 0 w w2 ds2 dp2 (-1022 + 1) ∧ dp2 ≤ 0 := by
       rintro w2 ⟨⟨ds', dp', a1, a2, a3, a4, a5, a6⟩, a7⟩
       obtain ⟨cc, hcF, hcc⟩ := a1
       have hne : ds' ≠ [] := by obtain ⟨x, r, e, _⟩ := a2; rw [e]; simp
       have hlen' : 0 < ds'.length := List.length_pos_iff.2 hne
       have hY2 : 0 < Y * 2 ^ n := Nat.mul_pos hY (Nat.pow_pos (by decide))
       have hln := len_bd a4 hcc.nine hY2 a3 hne hdv
       have hdv2 : DV ds' dp' (N * 2 ^ (-(e + n)).toNat) (D * 2 ^ (e + n).toNat) := dv_move (by rw [← hX, ← hYe]; exact a4)
       have hdl : -9000 ≤ dp' := by
        apply Classical.byContradiction
        intro hc
        have h1 := hv.out.lo h0.out
        have h2 := DV.hi hdv2 hcc.nine (Nat.mul_pos hD0 (Nat.pow_pos (by decide)))
        rw [show dp'.toNat = 0 by omega, Nat.pow_zero, Nat.mul_one, show (e + (n : Int)).toNat = 0 by omega, Nat.pow_zero, Nat.mul_one] at h2
        have h4 : N * 10 ^ (-dp').toNat ≤ N * 2 ^ (-(e + (n : Int))).toNat * 10 ^ (-dp').toNat := Nat.mul_le_mul_right _ (Nat.le_mul_of_pos_right _ (Nat.pow_pos (by decide)))
        have h6 : D * 1 ≤ D * 10 ^ (dp - 1).toNat := Nat.mul_le_mul_left _ (Nat.pow_pos (by decide))
        have h7 : N * 10 ^ (1 - dp).toNat ≤ N * 10 ^ (-dp').toNat := Nat.mul_le_mul_left _ (Nat.pow_le_pow_right (by decide) (by omega))
        omega
       refine ⟨ds', dp', ⟨⟨cc, hcF, hcc⟩, a2, ?_, hFB.be.trans a7, ⟨by omega, hdl⟩, by omega, Or.inr a3⟩, by omega⟩
       rw [show (-1022 + 1 : Int) = e + n by omega]
       exact hdv2
      have hn2 : (-1022 : Int) - (e - 1) = (n : Int) := by omega
      have hn3 : e - 1 + (n : Int) = -1022 := by omega
      have hei : -3000 ≤ e := by omega
      replace hsh := hid hsh
      replace hfin := hid hfin
      clear hFB hF1 hC1 hX hYe hvv hY hYD hdv gi hn hhalf hep
      go_wp2_with fail
      go_at_call 144
      refine (hsh.out _ (by omega)).mono ?_
      rintro e2 w2 ⟨rfl, h1⟩
      obtain ⟨ds2, dp2, q1, q2⟩ := hfin.out _ h1
      have hq := hid q1
      clear q1 h1 hfin hsh
      go_wp2_with fail
      exact hK'.out _ _ ⟨-1022, ds2, dp2, hid ⟨hq.out, q2, by omega, Or.inl rfl, by have := hp.out; omega⟩, rfl, rfl, rfl, rfl, (by first | rfl | exact val_int (by omega)), rfl, rfl⟩
     ·have hfin : Hid (FB B n0 neg N D 0 0 w wc ds1 dp1 (e - 1 + 1) ∧ dp1 ≤ 0 ∧ -((1022 : Nat) : Int) ≤ e - 1 ∧ (e - 1 = -((1022 : Nat) : Int) ∨ D * 2 ^ (e - 1 + 1).toNat ≤ 2 * (N * 2 ^ (-(e - 1 + 1)).toNat)) ∧ max (e - 1 + 1) 0 - p ≤ 790) := hid (by
       rw [show e - 1 + 1 = e by omega]
       exact ⟨hFB, hd0, by omega, Or.inr hhalf, hep⟩)
      clear hFB hF1 hC1 gi hhalf hep
      go_wp2_with fail
      exact hK'.out _ _ ⟨e - 1, ds1, dp1, hfin, rfl, rfl, rfl, rfl, (by first | rfl | exact val_int (by omega)), rfl, rfl⟩
    case h2 =>
     rintro a wc ⟨e, ds1, dp1, hP3, hd0, hz0, f0, f1, f5, f6, f7⟩
     obtain ⟨u, hu, ha⟩ := frame243 a hd0 hz0
     rw [(hu 0).trans f0, (hu 1).trans f1, (hu 5).trans f5, (hu 6).trans f6, (hu 7).trans f7] at ha
     clear f0 f1 f5 f6 f7 hu hd0 hz0
     subst ha
     refine cut_seq (fun a' w' => ∃ (e : Int) (ds1 : List Nat) (dp1 : Int), Hid (FB B n0 neg N D 0 0 w w' ds1 dp1 (e + 1) ∧ dp1 ≤ 0 ∧ -((1022 : Nat) : Int) ≤ e ∧ (e = -((1022 : Nat) : Int) ∨ D * 2 ^ (e + 1).toNat ≤ 2 * (N * 2 ^ (-(e + 1)).toNat)) ∧ max (e + 1) 0 - p ≤ 790 ∧ e < 1024) ∧ a'.defers = [] ∧ a'.tmps.size = 243 ∧ a'.tmps.getD 0 undef = .pointer (some ⟨B, 0, none⟩) ∧ a'.tmps.getD 1 undef = .pointer (some ⟨7, 0, none⟩) ∧ a'.tmps.getD 5 undef = .bool false ∧ a'.tmps.getD 6 undef = .int .i64 e ∧ a'.tmps.getD 7 undef = .int .u64 0) ?h1 ?h2
     case h1 =>
      intro K hK
      have hK' := hid hK
      clear hK
      have hb33 : e ≤ 2000 := by have := hP3.out.1.db; have := hP3.out.2.2.2.2; have := hp.out; omega
      have hb20 : -2000 ≤ e := by have := hP3.out.2.2.1; omega
      obtain ⟨hFB, hd0, hlo, hhalf, hep⟩ := hP3.out
      obtain ⟨c1, hF1, hC1⟩ := hFB.dec
      have c802 := hF1.cell 802 (by decide)
      rw [hC1.ng] at c802
      have gi := (hgt.out.on hFB.be).2.1.1
      have g1' := gi.cell 1
      have g2' := gi.cell 2
      simp at g1' g2'
      by_cases hov : 1024 ≤ e
      ·have hI : 9218868437227405312 ≤ b := by
        rw [hb.out]
        refine nr_ge hD0 ?_
        have h1 : D * 2 ^ (e + 1).toNat ≤ 2 * (N * 2 ^ (-(e + 1)).toNat) := by
         rcases hhalf with h | h
         ·omega
         ·exact h
        rw [show (-(e + 1)).toNat = 0 by omega, Nat.pow_zero, Nat.mul_one, show (e + 1).toNat = e.toNat + 1 by omega, Nat.pow_succ, ← Nat.mul_assoc] at h1
        have h2 : val 52 9218868437227405312 = 2 ^ 1024 * 2 ^ 1074 := val_inf64
        have h3 : (2 : Nat) ^ 1024 ≤ 2 ^ e.toNat := Nat.pow_le_pow_right (by decide) (by omega)
        rw [h2]
        calc 2 ^ 1024 * 2 ^ 1074 * D ≤ 2 ^ e.toNat * 2 ^ 1074 * D := Nat.mul_le_mul_right _ (Nat.mul_le_mul_right _ h3)
         _ = D * 2 ^ e.toNat * 2 ^ 1074 := by simp only [Nat.mul_assoc, Nat.mul_left_comm, Nat.mul_comm]
         _ ≤ N * 2 ^ 1074 := Nat.mul_le_mul_right _ (by omega)
       have hfin : Hid (9218868437227405312 ≤ b ∧ wc.drew.cell? ⟨B, 802, none⟩ = some (.bool neg) ∧ Below n0 w wc.drew) := hid ⟨hI, c802, hFB.be.drew⟩
       clear hFB hF1 hC1 gi hhalf hep hI
       go_wp2_with fail
       go_region
       go_wp2_with fail
       refine wp_goto ?_
       try simp only [Exit.then, Exit.outs]
       exact Or.inr ⟨rfl, hfin, rfl, rfl, rfl, rfl⟩
      ·have hfin : Hid (FB B n0 neg N D 0 0 w wc.drew ds1 dp1 (e + 1) ∧ dp1 ≤ 0 ∧ -((1022 : Nat) : Int) ≤ e ∧ (e = -((1022 : Nat) : Int) ∨ D * 2 ^ (e + 1).toNat ≤ 2 * (N * 2 ^ (-(e + 1)).toNat)) ∧ max (e + 1) 0 - p ≤ 790 ∧ e < 1024) := hid ⟨⟨⟨c1, hF1.drew, hC1⟩, hFB.hd, hFB.dv, hFB.be.drew, hFB.db, hFB.ln, hFB.lz⟩, hd0, hlo, hhalf, hep, by omega⟩
       clear hFB hF1 hC1 gi hhalf hep
       go_wp2_with fail
       go_region
       go_wp2_with fail
       exact hK'.out _ _ ⟨e, ds1, dp1, hfin, rfl, rfl, rfl, rfl, rfl, rfl, rfl⟩
     case h2 =>
      rintro a wc ⟨e, ds1, dp1, hP4, hd0, hz0, f0, f1, f5, f6, f7⟩
      obtain ⟨u, hu, ha⟩ := frame243 a hd0 hz0
      rw [(hu 0).trans f0, (hu 1).trans f1, (hu 5).trans f5, (hu 6).trans f6, (hu 7).trans f7] at ha
      clear f0 f1 f5 f6 f7 hu hd0 hz0
      subst ha
      have hb33 : e ≤ 2000 := by have := hP4.out.2.2.2.2.2; omega
      have hb20 : -2000 ≤ e := by have := hP4.out.2.2.1; omega
      obtain ⟨hFB, hd0, hlo, hhalf, hep, hov⟩ := hP4.out
      obtain ⟨c1, hF1, hC1⟩ := hFB.dec
      have hgr := hgt.out.on hFB.be
      have gi := hgr.2.1.1
      have g0' := gi.cell 0
      simp at g0'
      have hnine := hC1.nine
      have hvv := hFB.dv
      have hvv0 := hFB.dv
      obtain ⟨X0, hX0⟩ : ∃ X, X = N * 2 ^ (-(e + 1)).toNat := ⟨_, rfl⟩
      obtain ⟨Y0, hY0⟩ : ∃ Y, Y = D * 2 ^ (e + 1).toNat := ⟨_, rfl⟩
      rw [← hX0, ← hY0] at hvv
      have hY : 0 < Y0 := by rw [hY0]; exact Nat.mul_pos hD0 (Nat.pow_pos (by decide))
      have hless : X0 < Y0 := by
       have h1 := DV.hi hvv hnine hY
       rw [show dp1.toNat = 0 by omega, Nat.pow_zero, Nat.mul_one] at h1
       have h2 : X0 * 1 ≤ X0 * 10 ^ (-dp1).toNat := Nat.mul_le_mul_left _ (Nat.pow_pos (by decide))
       omega
      have hne : ds1 ≠ [] := by obtain ⟨x, r, e, _⟩ := hFB.hd; rw [e]; simp
      have hlen : ds1.length ≤ 781 := by
       rcases hFB.lz with h | hlast
       ·omega
       by_cases he1 : e + 1 ≤ 0
       ·have hdv : Y0 ∣ X0 * 10 ^ (-p).toNat := by
         have h1 := hdiv.out 0 (-p).toNat (by omega)
         rw [Nat.pow_zero, Nat.mul_one] at h1
         rw [hY0, hX0, show (e + 1).toNat = 0 by omega, Nat.pow_zero, Nat.mul_one, Nat.mul_right_comm]
         exact Nat.dvd_mul_right_of_dvd h1 _
        have := len_bd hvv hnine hY hlast hne hdv
        have := hp.out
        omega
       ·obtain ⟨k, hk⟩ : ∃ k : Nat, (k : Int) = e + 1 := ⟨(e + 1).toNat, by omega⟩
        rw [show (-(e + 1)).toNat = 0 by omega, Nat.pow_zero, Nat.mul_one, show (e + 1).toNat = k by omega] at hvv0
        rcases hhalf with h | h
        ·omega
        ·rw [show (-(e + 1)).toNat = 0 by omega, Nat.pow_zero, Nat.mul_one, show (e + 1).toNat = k by omega] at h
         have hhi : N < D * 10 ^ dp.toNat := by
          have h1 := DV.hi hv.out hDG.out hD0
          have h2 : N * 1 ≤ N * 10 ^ (-dp).toNat := Nat.mul_le_mul_left _ (Nat.pow_pos (by decide))
          omega
         exact fb_len hD0 hvv0 hnine hFB.hd hd0 hhi hp.out hl (by omega) (by omega) h hdiv.out (Or.inr hlast)
      have hlb : ∀ D', 10 ^ (D' - 1) ≤ 2 ^ 53 → ds1.length + D' ≤ 800 := by
       intro D' hD'
       have h2 : (2 : Nat) ^ 53 < 10 ^ 16 := by decide
       have h3 := (Nat.pow_lt_pow_iff_right (by decide : 1 < 10)).1 (Nat.lt_of_le_of_lt hD' h2)
       omega
      have hdb := hFB.db
      have hsh := shiftL144 B ds1 dp1 neg 53 (by decide) hFB.hd wc hFB.dec hgr.ct n0 hn0 X0 Y0 hvv hlb ⟨by omega, by omega⟩
      have hfin : ∀ w2, ((∃ ds' dp', Dec w2 B ds' dp' neg ∧ (∃ d r, ds' = d :: r ∧ d ≠ 0) ∧ (∀ x, ds'.getLast? = some x → x ≠ 0) ∧ DV ds' dp' (X0 * 2 ^ 53) Y0 ∧ dp1 ≤ dp' ∧ dp' ≤ dp1 + 19) ∧ Below n0 wc w2) → ∃ (m : Nat), Calls Tryz.prog 218 #[.pointer (some ⟨B, 0, none⟩)] w2 (fun e w' => e = .returned (.int .u64 (m : Int)) ∧ w2 = w') ∧ w2.cell? ⟨B, 802, none⟩ = some (.bool neg) ∧ Below n0 w w2 ∧ b = (e + ((1022 : Nat) : Int)).toNat * 2 ^ 52 + m ∧ m ≤ 2 * 2 ^ 52 ∧ (e = -((1022 : Nat) : Int) ∨ 2 ^ 52 ≤ m) := by
       rintro w2 ⟨⟨ds2, dp2, a1, a2, a3, a4, a5, a6⟩, a7⟩
       obtain ⟨cc, hcF, hcc⟩ := a1
       have h18 : dp2 ≤ 18 := by
        apply Classical.byContradiction
        intro hc
        have h1 := a4.lo a2
        rw [show (1 - dp2).toNat = 0 by omega, Nat.pow_zero, Nat.mul_one] at h1
        have h2 : (2 : Nat) ^ 53 ≤ 10 ^ (dp2 - 1).toNat := Nat.le_trans (by decide : (2 : Nat) ^ 53 ≤ 10 ^ 18) (Nat.pow_le_pow_right (by decide) (by omega))
        have h3 : Y0 * 2 ^ 53 ≤ Y0 * 10 ^ (dp2 - 1).toNat := Nat.mul_le_mul_left _ h2
        have h4 : X0 * 2 ^ 53 < Y0 * 2 ^ 53 := Nat.mul_lt_mul_of_pos_right hless (Nat.pow_pos (by decide))
        omega
       have c802 := hcF.cell 802 (by decide)
       rw [hcc.ng] at c802
       have hri := rint218 B ds2 dp2 neg w2 ⟨cc, hcF, hcc⟩ ⟨by omega, h18⟩
       have hrd := rInt_rd a4 hcc.nine hY a3
       have hend := fb_end (F := 52) (Pm := 1074) (x := 1022) (N := N) (D := D) (e := e) (by decide) (by decide) hD0 (by rw [hX0]) hY0 hlo hrd (Nat.mul_lt_mul_of_pos_right hless (Nat.pow_pos (by decide))) (by
        rcases hhalf with h | h
        ·exact Or.inl h
        ·refine Or.inr ?_
         rw [← hX0, ← hY0] at h
         exact half_two 52 h)
       exact ⟨_, hri, c802, hFB.be.trans a7, by rw [hb.out]; exact hend.1, hend.2.1, hend.2.2⟩
      replace hsh := hid hsh
      replace hfin := hid hfin
      clear hFB hF1 hC1 hgr gi hnine hvv hvv0 hX0 hY0 hY hless hne hlen hlb hhalf hep hdb
      go_wp2_with fail
      refine hsh.out.mono ?_
      rintro e2 w2 ⟨rfl, h1⟩
      obtain ⟨m, q1, q2, q3, q4, q5, q6⟩ := hfin.out w2 h1
      have hgi := (hgt.out.on q3).2.1.1
      have r0 := hgi.cell 0
      have r1 := hgi.cell 1
      have r2 := hgi.cell 2
      simp at r0 r1 r2
      obtain ⟨mi, hmi⟩ : ∃ mi : Int, mi = (m : Int) := ⟨_, rfl⟩
      rw [← hmi] at q1
      obtain ⟨K, hK⟩ : ∃ K : Nat, (K : Int) = e + ((1022 : Nat) : Int) := ⟨(e + ((1022 : Nat) : Int)).toNat, by omega⟩
      rw [show (e + ((1022 : Nat) : Int)).toNat = K by omega] at q4
      have hK2 : K < 2047 := by omega
      clear hgi h1 hsh hfin
      replace q1 := hid q1
      have hcell := hid q2
      clear q2
      by_cases hm2 : m = 2 * 2 ^ 52
      ·have hmi2 : mi = 9007199254740992 := by rw [hmi, hm2]; rfl
       subst hmi2
       by_cases ho2 : 1023 ≤ e
       ·have hfin : Hid (9218868437227405312 ≤ b ∧ w2.drew.cell? ⟨B, 802, none⟩ = some (.bool neg) ∧ Below n0 w w2.drew) := hid ⟨by rw [q4, hm2]; clear r0 r1 r2; omega, hcell.out, q3.drew⟩
        clear q3 q4 q5 q6 hm2 hK hK2 hmi
        go_wp2_with fail
        refine q1.out.mono ?_
        rintro e3 w3 ⟨rfl, rfl⟩
        go_wp2_with fail
        go_region
        go_wp2_with fail
        refine wp_goto ?_
        try simp only [Exit.then, Exit.outs]
        exact Or.inr ⟨rfl, hfin, rfl, rfl, rfl, rfl⟩
       ·have hfin : Hid (PO 52 1022 9218868437227405312 b (2 ^ 52) (e + 1) ∧ w2.drew.cell? ⟨B, 802, none⟩ = some (.bool neg) ∧ Below n0 w w2.drew) := hid ⟨po_mk (K := K + 1) (by omega) (by rw [q4, hm2]; clear r0 r1 r2; omega) (Nat.le_refl _) (by decide) (by clear r0 r1 r2; omega), hcell.out, q3.drew⟩
        have han : bits .and .u64 4503599627370496 4503599627370496 = 4503599627370496 := by kernel_rfl
        clear q3 q4 q5 q6 hm2 hK hK2 hmi
        go_wp2_with fail
        refine q1.out.mono ?_
        rintro e3 w3 ⟨rfl, rfl⟩
        go_wp2_with fail
        go_region
        go_wp2_with fail
        refine wp_goto ?_
        try simp only [Exit.then, Exit.outs]
        exact Or.inl ⟨rfl, 2 ^ 52, e + 1, hfin, rfl, rfl, rfl, rfl, rfl, rfl, rfl⟩
      ·have hn2 : (mi == 9007199254740992) = false := by
        have h8 : mi ≠ 9007199254740992 := by rw [hmi]; clear r0 r1 r2; omega
        simpa using h8
       by_cases hlow : m < 2 ^ 52
       ·have hfin : Hid (PO 52 1022 9218868437227405312 b m (-1023) ∧ w2.cell? ⟨B, 802, none⟩ = some (.bool neg) ∧ Below n0 w w2) := hid ⟨Or.inl ⟨hlow, by
         rcases q6 with h | h
         ·rw [q4, show K = 0 by omega]; clear r0 r1 r2; omega
         ·omega, by decide⟩, hcell.out, q3⟩
        have han : bits .and .u64 mi 4503599627370496 = 0 := by
         have h := and_p m 52 (by clear r0 r1 r2; omega) (by decide)
         rw [Nat.div_eq_of_lt hlow] at h
         rw [hmi]
         exact h
        replace hmi := hid hmi
        clear q3 q4 q5 q6 hm2 hK hK2 hlow
        go_wp2_with fail
        refine q1.out.mono ?_
        rintro e3 w3 ⟨rfl, rfl⟩
        go_wp2_with fail
        refine wp_goto ?_
        try simp only [Exit.then, Exit.outs]
        exact Or.inl ⟨rfl, m, _, hfin, rfl, rfl, rfl, rfl, rfl, rfl, by rw [← hmi.out]; rfl⟩
       ·have hfin : Hid (PO 52 1022 9218868437227405312 b m e ∧ w2.cell? ⟨B, 802, none⟩ = some (.bool neg) ∧ Below n0 w w2) := hid ⟨po_mk (K := K) hK q4 (by omega) (by omega) (by clear r0 r1 r2; omega), hcell.out, q3⟩
        have han : bits .and .u64 mi 4503599627370496 = 4503599627370496 := by
         have h := and_p m 52 (by clear r0 r1 r2; omega) (by decide)
         rw [show m / 2 ^ 52 % 2 * 2 ^ 52 = 4503599627370496 by clear r0 r1 r2; omega] at h
         rw [hmi]
         exact h
        replace hmi := hid hmi
        clear q3 q4 q5 q6 hm2 hK hK2 hlow
        go_wp2_with fail
        refine q1.out.mono ?_
        rintro e3 w3 ⟨rfl, rfl⟩
        go_wp2_with fail
        refine wp_goto ?_
        try simp only [Exit.then, Exit.outs]
        exact Or.inl ⟨rfl, m, e, hfin, rfl, rfl, rfl, rfl, rfl, rfl, by rw [← hmi.out]; rfl⟩
 case p0 =>
  rintro a wc ⟨m, E, hP, hd0, hz0, f0, f1, f5, f6, f7⟩
  obtain ⟨u, hu, ha⟩ := frame243 a hd0 hz0
  rw [(hu 0).trans f0, (hu 1).trans f1, (hu 5).trans f5, (hu 6).trans f6, (hu 7).trans f7] at ha
  clear f0 f1 f5 f6 f7 hu hd0 hz0
  subst ha
  obtain ⟨hPO, hcell, hBl⟩ := hP.out
  have gi := (hgt.out.on hBl).2.1.1
  have g0 := gi.cell 0
  have g1' := gi.cell 1
  have g2' := gi.cell 2
  simp at g0 g1' g2'
  have hfin0 := fun q => below_drewN hBl q
  replace hP := hid hP
  replace hfin0 := hid hfin0
  clear gi hBl c0 c1 c2 hwD hb h0 hv hdiv hp d0 d1 d2 hnz hgt hDG
  rcases hPO with ⟨s1, s2, s3⟩ | ⟨s1, s2, s3, s4, s5⟩
  ·subst s2
   subst s3
   have hbb : min b 9218868437227405312 = b := Nat.min_eq_left (by omega)
   have hcmp : ¬ 9218868437227405312 ≤ b := by omega
   have han := and_low 52 b (by omega) (by decide)
   rw [show ((2 ^ 52 - 1 : Nat) : Int) = 4503599627370495 from rfl, Nat.mod_eq_of_lt s1] at han
   have h00 : bits .and .i64 0 2047 = 0 := by kernel_rfl
   have ho0 : bits .or .u64 (b : Int) 0 = (b : Int) := by
    have h := u64_or_nat b 0 (by omega) (by decide)
    simpa using h
   have hos := or_sum 63 b 1 (by omega) (by omega)
   rw [show (1 * 2 ^ 63 : Nat) = 9223372036854775808 by decide, show (((9223372036854775808 : Nat)) : Int) = 9223372036854775808 from rfl] at hos
   replace hbb := hid hbb
   replace hcmp := hid hcmp
   clear s1
   simp only [Int.natCast_add] at hos
   cases neg
   ·go_wp2_with fail
    go_region
    go_wp2_with fail
    try simp only [Exit.outs]
    go_ret2
    exact ⟨by rw [hR.out]; refine (congrArg Ending.returned (congrArg Value.tuple ?_)); rw [hbb.out, decide_eq_false hcmp.out]; simp [sg64], hfin0.out 1⟩
   ·go_wp2_with fail
    go_region
    go_wp2_with fail
    go_region
    go_wp2_with fail
    try simp only [Exit.outs]
    go_ret2
    exact ⟨by rw [hR.out]; refine (congrArg Ending.returned (congrArg Value.tuple ?_)); rw [hbb.out, decide_eq_false hcmp.out]; simp [sg64]; try omega, hfin0.out 2⟩
  ·obtain ⟨z, hz⟩ : ∃ z : Nat, (z : Int) = E + 1023 := ⟨(E + 1023).toNat, by omega⟩
   obtain ⟨mf, hmf⟩ : ∃ mf, mf = m - 4503599627370496 := ⟨_, rfl⟩
   have hbz : b = mf + z * 4503599627370496 := by
    have e1 : (z : Int) * 4503599627370496 = (E + ((1022 : Nat) : Int)) * ((2 ^ 52 : Nat) : Int) + 4503599627370496 := by
     rw [hz]
     have : ((2 ^ 52 : Nat) : Int) = 4503599627370496 := rfl
     rw [this]
     omega
    omega
   have hz1 : z ≤ 2046 := by omega
   have hbb : min b 9218868437227405312 = b := Nat.min_eq_left (by omega)
   have hcmp : ¬ 9218868437227405312 ≤ b := by omega
   have han := and_low 52 m (by omega) (by decide)
   rw [show ((2 ^ 52 - 1 : Nat) : Int) = 4503599627370495 from rfl, show m % 2 ^ 52 = mf by omega] at han
   have hza : bits .and .i64 (z : Int) 2047 = (z : Int) := by
    have h := bits_mask .i64 11 (by decide) (fun n a b => by rw [IntKind.wrap_i64]; omega) 11 (by decide) (z : Int) (by omega) (by omega)
    rw [show ((2 : Int) ^ 11 - 1) = 2047 from rfl, show ((2 : Int) ^ 11) = 2048 from rfl] at h
    rw [h]; omega
   have hor := or_sum 52 mf z (by omega) (by omega)
   rw [show z * 2 ^ 52 = z * 4503599627370496 from rfl, ← hbz] at hor
   simp only [Int.natCast_mul] at hor
   rw [show (((4503599627370496 : Nat)) : Int) = 4503599627370496 from rfl] at hor
   have hos := or_sum 63 b 1 (by omega) (by omega)
   rw [show (1 * 2 ^ 63 : Nat) = 9223372036854775808 by decide, show (((9223372036854775808 : Nat)) : Int) = 9223372036854775808 from rfl] at hos
   simp only [Int.natCast_add] at hos
   have hE3 : E = (z : Int) - 1023 := by omega
   have hz2 : (z : Int) ≤ 2046 := by omega
   have hz0 : 0 < z := by omega
   obtain ⟨mi, hmi⟩ : ∃ mi : Int, mi = (m : Int) := ⟨_, rfl⟩
   rw [← hmi] at han ⊢
   subst hE3
   have hez : (z : Int) - 1023 + 1023 = (z : Int) := by omega
   have hez2 : (z : Int) - 1023 - -1023 = (z : Int) := by omega
   replace hmi := hid hmi
   replace hbb := hid hbb
   replace hcmp := hid hcmp
   replace hbz := hid hbz
   replace hmf := hid hmf
   clear s1 s2 s3 s4 s5 hz hz1
   cases neg
   ·go_wp2_with fail
    go_region
    go_wp2_with fail
    try simp only [Exit.outs]
    go_ret2
    exact ⟨by rw [hR.out]; refine (congrArg Ending.returned (congrArg Value.tuple ?_)); rw [hbb.out, decide_eq_false hcmp.out]; simp [sg64], hfin0.out 1⟩
   ·go_wp2_with fail
    go_region
    go_wp2_with fail
    go_region
    go_wp2_with fail
    try simp only [Exit.outs]
    go_ret2
    exact ⟨by rw [hR.out]; refine (congrArg Ending.returned (congrArg Value.tuple ?_)); rw [hbb.out, decide_eq_false hcmp.out]; simp [sg64]; try omega, hfin0.out 2⟩
 case p1 =>
  rintro a wc ⟨hP, hd0, hz0, f0, f1⟩
  obtain ⟨u, hu, ha⟩ := frame243 a hd0 hz0
  rw [(hu 0).trans f0, (hu 1).trans f1] at ha
  clear f0 f1 hu hd0 hz0
  subst ha
  obtain ⟨hPO, hcell, hBl⟩ := hP.out
  have gi := (hgt.out.on hBl).2.1.1
  have g0 := gi.cell 0
  have g1' := gi.cell 1
  have g2' := gi.cell 2
  simp at g0 g1' g2'
  have hfin0 := fun q => below_drewN hBl q
  replace hP := hid hP
  replace hfin0 := hid hfin0
  clear gi hBl c0 c1 c2 hwD hb h0 hv hdiv hp d0 d1 d2 hnz hgt hDG
  have hcmp : 9218868437227405312 ≤ b := hPO
  have hbb : min b 9218868437227405312 = 9218868437227405312 := Nat.min_eq_right hcmp
  have h01 : bits .and .u64 0 4503599627370495 = 0 := by kernel_rfl
  have h02 : bits .and .i64 2047 2047 = 2047 := by kernel_rfl
  have h03 : bits .or .u64 0 9218868437227405312 = 9218868437227405312 := by kernel_rfl
  have h04 : bits .or .u64 9218868437227405312 9223372036854775808 = 18442240474082181120 := by kernel_rfl
  replace hbb := hid hbb
  replace hcmp := hid hcmp
  clear hPO
  cases neg
  ·go_wp2_with fail
   go_region
   go_wp2_with fail
   go_step3
   simp only [Exit.then]
   rename_i hk0
   refine hk0 _ _ ?_
   clear hk0
   go_wp2_with fail
   go_region
   go_wp2_with fail
   try simp only [Exit.outs]
   go_ret2
   exact ⟨by rw [hR.out]; refine (congrArg Ending.returned (congrArg Value.tuple ?_)); rw [hbb.out, decide_eq_true hcmp.out]; simp [sg64], hfin0.out 2⟩
  ·go_wp2_with fail
   go_region
   go_wp2_with fail
   go_step3
   simp only [Exit.then]
   rename_i hk0
   refine hk0 _ _ ?_
   clear hk0
   go_wp2_with fail
   go_region
   go_wp2_with fail
   go_region
   go_wp2_with fail
   try simp only [Exit.outs]
   go_ret2
   exact ⟨by rw [hR.out]; refine (congrArg Ending.returned (congrArg Value.tuple ?_)); rw [hbb.out, decide_eq_true hcmp.out]; simp [sg64]; try omega, hfin0.out 3⟩
theorem bits201_32 (B : Nat) (ds : List Nat) (dp : Int) (neg : Bool) (w : World) (hw : Dec w B ds dp neg) (h0 : ∃ x r, ds = x :: r ∧ x ≠ 0) (N D : Nat) (hD0 : 0 < D) (hv : DV ds dp N D) (p : Int) (hp : dp = (ds.length : Int) + p) (hl : ds.length ≤ 64) (hdiv : ∀ e f : Nat, (e : Int) - p ≤ f → D * 2 ^ e ∣ N * 10 ^ f) (hdp : -20000 ≤ dp ∧ dp ≤ 20000) (n0 : Nat) (hn0 : n0 ≤ B) (hgt : Gt n0 w) :
  Calls Tryz.prog 201 #[.pointer (some ⟨B, 0, none⟩), .pointer (some ⟨6, 0, none⟩)] w fun e' w' => (e' = .returned (.tuple #[.int .u64 ((sg32 neg + min (nr 23 (N * 2 ^ 149) D) 2139095040 : Nat) : Int), .bool (decide (2139095040 ≤ nr 23 (N * 2 ^ 149) D))])) ∧ Below n0 w w' := by
 obtain ⟨b, hb⟩ : ∃ b, b = nr 23 (N * 2 ^ 149) D := ⟨_, rfl⟩
 rw [← hb]
 obtain ⟨R, hR⟩ : ∃ R : Ending → Prop, R = fun e' => (e' = .returned (.tuple #[.int .u64 ((sg32 neg + min b 2139095040 : Nat) : Int), .bool (decide (2139095040 ≤ b))])) := ⟨_, rfl⟩
 suffices hx : Calls Tryz.prog 201 #[.pointer (some ⟨B, 0, none⟩), .pointer (some ⟨6, 0, none⟩)] w fun e' w' => R e' ∧ Below n0 w w' from hx.mono fun e w' h => ⟨by have := h.1; rw [hR] at this; exact this, h.2⟩
 replace hR := hid hR
 have c0 := hgt.2.1.2.cell 0
 have c1 := hgt.2.1.2.cell 1
 have c2 := hgt.2.1.2.cell 2
 simp at c0 c1 c2
 have hwD := hid hw
 obtain ⟨cc, hF, hD⟩ := hw
 have d0 := hF.cell 800 (by decide)
 have d1 := hF.cell 801 (by decide)
 have d2 := hF.cell 802 (by decide)
 rw [hD.nd] at d0
 rw [hD.dp] at d1
 rw [hD.ng] at d2
 have hnz : ((ds.length : Int) == 0) = false := by obtain ⟨x, r, e, _⟩ := h0; rw [e]; exact bne_of (by simp; omega)
 have hDG := hid hD.nine
 replace hgt := hid hgt
 replace hb := hid hb
 replace h0 := hid h0
 replace hv := hid hv
 replace hdiv := hid hdiv
 replace hp := hid hp
 clear hF hD
 have hdp1 := hdp.1
 have hdp2 := hdp.2
 go_enter Tryz.func201, Tryz.ntmps201
 go_wp2_with fail
 refine wp_scope_two (fun a' w' => ∃ (m : Nat) (E : Int), Hid (PO 23 126 2139095040 b m E ∧ w'.cell? ⟨B, 802, none⟩ = some (.bool neg) ∧ Below n0 w w') ∧ a'.defers = [] ∧ a'.tmps.size = 243 ∧ a'.tmps.getD 0 undef = .pointer (some ⟨B, 0, none⟩) ∧ a'.tmps.getD 1 undef = .pointer (some ⟨6, 0, none⟩) ∧ a'.tmps.getD 5 undef = .bool false ∧ a'.tmps.getD 6 undef = .int .i64 E ∧ a'.tmps.getD 7 undef = .int .u64 m) (fun a' w' => Hid (2139095040 ≤ b ∧ w'.cell? ⟨B, 802, none⟩ = some (.bool neg) ∧ Below n0 w w') ∧ a'.defers = [] ∧ a'.tmps.size = 243 ∧ a'.tmps.getD 0 undef = .pointer (some ⟨B, 0, none⟩) ∧ a'.tmps.getD 1 undef = .pointer (some ⟨6, 0, none⟩)) rfl rfl ?first ?p0 ?p1
 case first =>
  by_cases hbig : 310 < dp
  ·have hov : 2139095040 ≤ b := by
    rw [hb.out]
    refine nr_ge hD0 ?_
    have h1 := hv.out.lo h0.out
    rw [show (1 - dp).toNat = 0 by omega, Nat.pow_zero, Nat.mul_one] at h1
    have h2 : val 23 2139095040 = 2 ^ 128 * 2 ^ 149 := val_inf32
    have h3 : (2 ^ 128 : Nat) ≤ 10 ^ 310 := Nat.le_of_ble_eq_true (by kernel_rfl)
    have h4 : (10 : Nat) ^ 310 ≤ 10 ^ (dp - 1).toNat := Nat.pow_le_pow_right (by decide) (by omega)
    rw [h2]
    calc 2 ^ 128 * 2 ^ 149 * D ≤ 10 ^ (dp - 1).toNat * 2 ^ 149 * D := Nat.mul_le_mul_right _ (Nat.mul_le_mul_right _ (Nat.le_trans h3 h4))
     _ = D * 10 ^ (dp - 1).toNat * 2 ^ 149 := by simp only [Nat.mul_assoc, Nat.mul_left_comm, Nat.mul_comm]
     _ ≤ N * 2 ^ 149 := Nat.mul_le_mul_right _ h1
   have hfin : Hid (2139095040 ≤ b ∧ w.cell? ⟨B, 802, none⟩ = some (.bool neg) ∧ Below n0 w w) := hid ⟨hov, d2, Below.refl _ _⟩
   clear hov
   go_wp2_with fail
   refine wp_goto ?_
   simp only [Exit.then, Exit.outs]
   exact Or.inr ⟨rfl, hfin, rfl, rfl, rfl, rfl⟩
  by_cases hsm : dp < -330
  ·have hz : b = 0 := by
    rw [hb.out]
    refine nr_tiny hD0 ?_
    have h1 := DV.hi hv.out hDG.out hD0
    rw [show dp.toNat = 0 by omega, Nat.pow_zero, Nat.mul_one] at h1
    have h3 : (2 * 2 ^ 149 : Nat) ≤ 10 ^ 331 := Nat.le_of_ble_eq_true (by kernel_rfl)
    have h4 : (10 : Nat) ^ 331 ≤ 10 ^ (-dp).toNat := Nat.pow_le_pow_right (by decide) (by omega)
    calc 2 * (N * 2 ^ 149) = N * (2 * 2 ^ 149) := by simp only [Nat.mul_assoc, Nat.mul_left_comm, Nat.mul_comm]
     _ ≤ N * 10 ^ (-dp).toNat := Nat.mul_le_mul_left _ (Nat.le_trans h3 h4)
     _ < D := h1
   have hfin : Hid (PO 23 126 2139095040 b 0 (-127) ∧ w.cell? ⟨B, 802, none⟩ = some (.bool neg) ∧ Below n0 w w) := hid ⟨Or.inl ⟨by decide, hz, by decide⟩, d2, Below.refl _ _⟩
   clear hz
   go_wp2_with fail
   refine wp_goto ?_
   simp only [Exit.then, Exit.outs]
   exact Or.inl ⟨rfl, 0, _, hfin, rfl, rfl, rfl, rfl, rfl, rfl, rfl⟩
  refine wp_seq_k fun K1 h1 => ?_
  have h1' := hid h1
  clear h1
  go_wp2_with fail
  refine h1'.out _ _ ?_
  clear h1'
  refine wp_seq_k fun K1 h1 => ?_
  have h1' := hid h1
  clear h1
  go_wp2_with fail
  refine h1'.out _ _ ?_
  clear h1'
  refine wp_seq_k fun K1 h1 => ?_
  have h1' := hid h1
  clear h1
  go_wp2_with fail
  refine h1'.out _ _ ?_
  clear h1'
  refine wp_seq_k fun K1 h1 => ?_
  have h1' := hid h1
  clear h1
  go_wp2_with fail
  refine h1'.out _ _ ?_
  clear h1'
  refine wp_seq_k fun K1 h1 => ?_
  have h1' := hid h1
  clear h1
  go_wp2_with fail
  refine h1'.out _ _ ?_
  clear h1'
  refine wp_seq_k fun K1 h1 => ?_
  have h1' := hid h1
  clear h1
  go_wp2_with fail
  refine h1'.out _ _ ?_
  clear h1'
  refine cut_seq (fun a' w' => ∃ (e : Int) (ds1 : List Nat) (dp1 : Int), Hid (FB B n0 neg N D 0 0 w w' ds1 dp1 e ∧ dp1 ≤ 0 ∧ -331 ≤ dp1 ∧ e ≤ 1033 ∧ 0 ≤ e ∧ max e 0 - p ≤ 790) ∧ a'.defers = [] ∧ a'.tmps.size = 243 ∧ a'.tmps.getD 0 undef = .pointer (some ⟨B, 0, none⟩) ∧ a'.tmps.getD 1 undef = .pointer (some ⟨6, 0, none⟩) ∧ a'.tmps.getD 5 undef = .bool false ∧ a'.tmps.getD 6 undef = .int .i64 e ∧ a'.tmps.getD 7 undef = .int .u64 0) ?h1 ?h2
  case h1 =>
   intro K hK
   have hK' := hid hK
   clear hK
   go_wp2_with fail
   go_loopw [6] (fun a wr => LF B n0 neg N D p w a wr) (fun a _ => N / (D * 2 ^ (intOf a).toNat))
   case atStart => exact ⟨0, ds, dp, rfl, hid ⟨⟨hwD.out, h0.out, by simpa using hv.out, Below.refl _ _, ⟨by omega, by omega⟩, by omega, Or.inl hl⟩, by omega, by omega, by omega, fun _ => by have := hp.out; omega⟩⟩
   case round =>
    obtain ⟨e, ds1, dp1, rfl, hV⟩ := hrel
    obtain ⟨c1, hF1, hC1⟩ := hV.out.1.dec
    have x1 := hF1.cell 801 (by decide)
    rw [hC1.dp] at x1
    have hdp31 : dp1 ≤ 310 := hV.out.2.1
    have hdp30 : -331 ≤ dp1 := hV.out.2.2.1
    have he33 : e ≤ 1033 := hV.out.2.2.2.1
    have hnine := hC1.nine
    have hgr := (hgt.out.on hV.out.1.be)
    obtain ⟨_, _, _, ⟨g, og, g1, g2, g3⟩⟩ := hgr
    by_cases hpos : 0 < dp1
    ·have hvv : DV ds1 dp1 N (D * 2 ^ e) := by have := hV.out.1.dv; simpa using this
     have hY : 0 < D * 2 ^ e := Nat.mul_pos hD0 (Nat.pow_pos (by decide))
     have hle : D * 2 ^ e ≤ N := (dv_one hvv hnine hY hV.out.1.hd).1 hpos
     have hdpp : 0 < dp := (dv_one hv.out hDG.out hD0 h0.out).2 (by
      have : D * 1 ≤ D * 2 ^ e := Nat.mul_le_mul_left _ (Nat.pow_pos (by decide))
      omega)
     have hhi : N < D * 10 ^ dp.toNat := by
      have := DV.hi hv.out hDG.out hD0
      rwa [show (-dp).toNat = 0 by omega, Nat.pow_zero, Nat.mul_one] at this
     obtain ⟨f, q1, q2, q3, q4⟩ := fb_step (d0 := dp.toNat) (L := ds.length) hD0 hvv hnine hV.out.1.hd hpos hhi (by have := hp.out; omega) hl (by omega) hdiv.out
     obtain ⟨n, hn⟩ : ∃ n, n = pn dp1.toNat := ⟨_, rfl⟩
     have hnb := pn_bd dp1.toNat
     rw [← hn] at q1 q3 q4 hnb
     have hsh := fun q => shiftR144 B ds1 dp1 neg n (by omega) hV.out.1.hd (wr.drewN q) ⟨c1, hF1.drewN q, hC1⟩ n0 hn0 N (D * 2 ^ e) f hY hvv q1 q2 ⟨by omega, by omega⟩
     have hfin : ∀ q w2, ((∃ ds' dp', Dec w2 B ds' dp' neg ∧ (∃ d r, ds' = d :: r ∧ d ≠ 0) ∧ (∀ x, ds'.getLast? = some x → x ≠ 0) ∧ DV ds' dp' N (D * 2 ^ e * 2 ^ n) ∧ dp' ≤ dp1 ∧ dp1 - 40000 ≤ dp') ∧ Below n0 (wr.drewN q) w2) → ∀ a : Int, a = ((e + n : Nat) : Int) → LF B n0 neg N D p w (.int .i64 a) w2 := by
      rintro q w2 ⟨⟨ds', dp', a1, a2, a3, a4, a5, a6⟩, a7⟩ a rfl
      obtain ⟨cc, _, hcc⟩ := a1
      obtain ⟨b1, b2, b3⟩ := q4 ds' dp' a4 a2 a3 hcc.nine
      refine ⟨e + n, ds', dp', rfl, hid ⟨⟨⟨cc, ‹_›, hcc⟩, a2, ?_, (below_drewN hV.out.1.be q).trans a7, ⟨by omega, by omega⟩, b2, Or.inr a3⟩, by omega, by omega, q3, fun h => by have := b3 h; omega⟩⟩
      have := dv_move (e := (e : Int)) (k := n) (N := N) (D := D) (l := ds') (dp := dp') (by simpa using a4)
      simpa using this
     have hmes : N / (D * 2 ^ (e + n)) < N / (D * 2 ^ e) := by
      have := fb_less hY hle hnb.1
      rwa [Nat.mul_assoc, ← Nat.pow_add] at this
     have hei : (e : Int) + n ≤ 1033 := by omega
     have hei0 : 0 ≤ (e : Int) := by omega
     have hn27 : n ≤ 27 := hnb.2
     replace hfin := hid hfin
     replace hmes := hid hmes
     replace hsh := hid hsh
     by_cases h9 : 9 ≤ dp1
     ·have hn9 : n = 27 := by rw [hn]; unfold pn; rw [if_neg (by omega)]
      subst hn9
      clear hF1 hC1 hnine hvv hY hle hdpp hhi q1 q2 q3 q4 hn hnb g1 g3
      go_wp2_with fail
      go_region
      go_wp2_with fail
      refine (hsh.out 1 _ rfl).mono ?_
      rintro e2 w2 ⟨rfl, h1⟩
      have h1' := hid h1
      clear h1
      go_wp2_with fail
      go_roundw
      case rel => exact hfin.out 1 _ h1'.out _ (by omega)
      case measure => simpa [intOf, show ((e : Int) + 27).toNat = e + 27 by omega] using hmes.out
     ·obtain ⟨k, rfl⟩ : ∃ k : Nat, dp1 = (k : Int) := ⟨dp1.toNat, by omega⟩
      have hk9 : k < 9 := by omega
      have hpv : ptab[k]? = some n := by
       have : pn k = ptab.getD k 0 := by unfold pn; rw [if_pos hk9]
       rw [show ((k : Int)).toNat = k by omega, this] at hn
       rw [hn, getD_at ptab k (by show k < 9; exact hk9)]
       exact List.getElem?_eq_getElem _
      have gk := g3 k n hpv
      have hki : (k : Int) < 9 := by omega
      have hkp : ¬ (9 : Int) ≤ (k : Int) := by omega
      clear hF1 hC1 hnine hvv hY hle hdpp hhi q1 q2 q3 q4 hn hnb g1 g3 hpv hk9
      go_wp2_with fail
      go_region
      go_wp2_with fail
      go_region
      go_wp2_with fail
      refine (hsh.out 2 _ rfl).mono ?_
      rintro e2 w2 ⟨rfl, h1⟩
      have h1' := hid h1
      clear h1
      go_wp2_with fail
      go_roundw
      case rel => exact hfin.out 2 _ h1'.out _ (by omega)
      case measure => simpa [intOf, show ((e : Int) + n).toNat = e + n by omega] using hmes.out
    ·clear hF1 hC1 hnine g1 g3
     go_wp2_with fail
     exact hK'.out _ _ ⟨(e : Int), ds1, dp1, hid ⟨hV.out.1, by omega, by omega, by omega, by omega, by have := hV.out.2.2.2.2 (by omega); omega⟩, rfl, rfl, rfl, rfl, rfl, rfl, rfl⟩
  case h2 =>
   rintro a wc ⟨e1, ds2, dp2, hP1, hd0, hz0, f0, f1, f5, f6, f7⟩
   obtain ⟨u, hu, ha⟩ := frame243 a hd0 hz0
   rw [(hu 0).trans f0, (hu 1).trans f1, (hu 5).trans f5, (hu 6).trans f6, (hu 7).trans f7] at ha
   clear f0 f1 f5 f6 f7 hu hd0 hz0
   subst ha
   refine cut_seq (fun a' w' => ∃ (e : Int) (ds1 : List Nat) (dp1 : Int), Hid (FB B n0 neg N D 0 0 w w' ds1 dp1 e ∧ dp1 ≤ 0 ∧ -331 ≤ dp1 ∧ e ≤ 1033 ∧ -2000 ≤ e ∧ max e 0 - p ≤ 790 ∧ D * 2 ^ e.toNat ≤ 2 * (N * 2 ^ (-e).toNat)) ∧ a'.defers = [] ∧ a'.tmps.size = 243 ∧ a'.tmps.getD 0 undef = .pointer (some ⟨B, 0, none⟩) ∧ a'.tmps.getD 1 undef = .pointer (some ⟨6, 0, none⟩) ∧ a'.tmps.getD 5 undef = .bool false ∧ a'.tmps.getD 6 undef = .int .i64 e ∧ a'.tmps.getD 7 undef = .int .u64 0) ?h1 ?h2
   case h1 =>
    intro K hK
    have hK' := hid hK
    clear hK
    go_wp2_with fail
    go_loopw [6] (fun a wr => LG B n0 neg N D p w a wr) (fun a _ => (intOf a + 3000).toNat)
    case atStart => exact ⟨e1, ds2, dp2, rfl, hid ⟨hP1.out.1, hP1.out.2.1, hP1.out.2.2.1, hP1.out.2.2.2.1, by have := hP1.out.2.2.2.2.1; omega, hP1.out.2.2.2.2.2⟩⟩
    case round =>
     obtain ⟨e, ds1, dp1, rfl, hV⟩ := hrel
     obtain ⟨c1, hF1, hC1⟩ := hV.out.1.dec
     have x1 := hF1.cell 801 (by decide)
     rw [hC1.dp] at x1
     have hhd := hV.out.1.hd
     have hlen1 : 0 < ds1.length := by obtain ⟨x, r, e, _⟩ := hhd; rw [e]; simp
     have x0 := hF1.cell 0 (by decide)
     rw [hC1.dg 0 hlen1] at x0
     have hnine := hC1.nine
     have hdp0 : dp1 ≤ 0 := hV.out.2.1
     have hdp30 : -331 ≤ dp1 := hV.out.2.2.1
     have he33 : e ≤ 1033 := hV.out.2.2.2.1
     have he20 : -2000 ≤ e := hV.out.2.2.2.2.1
     have hep := hV.out.2.2.2.2.2
     obtain ⟨X, hX⟩ : ∃ X, X = N * 2 ^ (-e).toNat := ⟨_, rfl⟩
     obtain ⟨Y, hYe⟩ : ∃ Y, Y = D * 2 ^ e.toNat := ⟨_, rfl⟩
     have hvv := hV.out.1.dv
     rw [← hX, ← hYe] at hvv
     have hY : 0 < Y := by rw [hYe]; exact Nat.mul_pos hD0 (Nat.pow_pos (by decide))
     have hhalf := dv_half hvv hnine hY hhd hdp0
     rw [getD_at _ _ hlen1] at hhalf
     obtain ⟨d00, hd00⟩ : ∃ d00, d00 = ds1[0] := ⟨_, rfl⟩
     have hd09 : ds1[0] ≤ 9 := hnine _ (List.getElem_mem hlen1)
     rw [← hd00] at hhalf x0 hd09
     obtain ⟨di, hdi⟩ : ∃ di : Int, di = ((48 + d00 : Nat) : Int) := ⟨_, rfl⟩
     rw [← hdi] at x0
     obtain ⟨_, _, _, ⟨g, og, g1, g2, g3⟩⟩ := hgt.out.on hV.out.1.be
     obtain ⟨k, hk⟩ : ∃ k : Nat, dp1 = -(k : Int) := ⟨(-dp1).toNat, by omega⟩
     by_cases hlt : 2 * X < Y
     ·obtain ⟨n, hn⟩ : ∃ n, n = pn k := ⟨_, rfl⟩
      have hnb := pn_bd k
      rw [← hn] at hnb
      have hless : X * 2 ^ n < Y := by
       by_cases hk0 : k = 0
       ·subst hk0
        rw [hn]
        have : pn 0 = 1 := by decide
        rw [this, Nat.pow_one]
        omega
       ·have h1 := DV.hi hvv hnine hY
        rw [show dp1.toNat = 0 by omega, Nat.pow_zero, Nat.mul_one, show (-dp1).toNat = k by omega] at h1
        have h2 : X * 2 ^ n ≤ X * 10 ^ k := Nat.mul_le_mul_left _ (by rw [hn]; exact pn_pow k (by omega))
        omega
      have hlb : ∀ D', 10 ^ (D' - 1) ≤ 2 ^ n → ds1.length + D' ≤ 800 := by
       intro D' hD'
       have h1 : 2 ^ n ≤ 2 ^ 27 := Nat.pow_le_pow_right (by decide) hnb.2
       have h2 : (2 : Nat) ^ 27 < 10 ^ 9 := by decide
       have h3 := (Nat.pow_lt_pow_iff_right (by decide : 1 < 10)).1 (Nat.lt_of_le_of_lt (Nat.le_trans hD' h1) h2)
       have := hV.out.1.ln
       omega
      have hsh := fun q => shiftL144 B ds1 dp1 neg n (by omega) hhd (wr.drewN q) ⟨c1, hF1.drewN q, hC1⟩ ((hgt.out.on (below_drewN hV.out.1.be q)).ct) n0 hn0 X Y hvv hlb ⟨by omega, by omega⟩
      have hfin : ∀ q w2, ((∃ ds' dp', Dec w2 B ds' dp' neg ∧ (∃ d r, ds' = d :: r ∧ d ≠ 0) ∧ (∀ x, ds'.getLast? = some x → x ≠ 0) ∧ DV ds' dp' (X * 2 ^ n) Y ∧ dp1 ≤ dp' ∧ dp' ≤ dp1 + 19) ∧ Below n0 (wr.drewN q) w2) → ∀ a : Int, a = e - n → LG B n0 neg N D p w (.int .i64 a) w2 := by
       rintro q w2 ⟨⟨ds', dp', a1, a2, a3, a4, a5, a6⟩, a7⟩ a rfl
       obtain ⟨cc, hcF, hcc⟩ := a1
       have hb0 : dp' ≤ 0 := by
        apply Classical.byContradiction
        intro hc
        have := (dv_one a4 hcc.nine hY a2).1 (by omega)
        omega
       have hne : ds' ≠ [] := by obtain ⟨x, r, e, _⟩ := a2; rw [e]; simp
       have hdv2 : DV ds' dp' (N * 2 ^ (-(e - n)).toNat) (D * 2 ^ (e - n).toNat) := dv_back (by rw [← hX, ← hYe]; exact a4)
       have hY2 : 0 < D * 2 ^ (e - (n : Int)).toNat := Nat.mul_pos hD0 (Nat.pow_pos (by decide))
       have hln := len_bd hdv2 hcc.nine hY2 a3 hne (f := (max (e - n) 0 - p).toNat) (by
        rw [Nat.mul_assoc, Nat.mul_comm (2 ^ _), ← Nat.mul_assoc]
        exact Nat.dvd_mul_right_of_dvd (hdiv.out _ _ (by omega)) _)
       have hlen' : 0 < ds'.length := List.length_pos_iff.2 hne
       have helow : -2000 ≤ e - n := by
        apply Classical.byContradiction
        intro hc
        have h1 := hv.out.lo h0.out
        have h2 := DV.hi hdv2 hcc.nine hY2
        have h3 : dp'.toNat = 0 := by omega
        rw [h3, Nat.pow_zero, Nat.mul_one, show (e - (n : Int)).toNat = 0 by omega, Nat.pow_zero, Nat.mul_one] at h2
        have h4 : N * 2 ^ (-(e - (n : Int))).toNat ≤ N * 2 ^ (-(e - (n : Int))).toNat * 10 ^ (-dp').toNat := Nat.le_mul_of_pos_right _ (Nat.pow_pos (by decide))
        have h5 : D ≤ N * 10 ^ 332 := by
         have h6 : D * 1 ≤ D * 10 ^ (dp - 1).toNat := Nat.mul_le_mul_left _ (Nat.pow_pos (by decide))
         have h7 : N * 10 ^ (1 - dp).toNat ≤ N * 10 ^ 332 := Nat.mul_le_mul_left _ (Nat.pow_le_pow_right (by decide) (by omega))
         omega
        have h8 : (10 : Nat) ^ 332 ≤ 2 ^ 1103 := Nat.le_of_ble_eq_true (by kernel_rfl)
        have h9 : N * 10 ^ 332 ≤ N * 2 ^ (-(e - (n : Int))).toNat := Nat.mul_le_mul_left _ (Nat.le_trans h8 (Nat.pow_le_pow_right (by decide) (by omega)))
        omega
       refine ⟨e - n, ds', dp', rfl, hid ⟨⟨⟨cc, hcF, hcc⟩, a2, hdv2, (below_drewN hV.out.1.be q).trans a7, ⟨by omega, by omega⟩, by omega, Or.inr a3⟩, hb0, by omega, by omega, helow, by omega⟩⟩
      have hn27 : (n : Int) ≤ 27 := by omega
      have hn1 : 1 ≤ (n : Int) := by omega
      have hnk : -dp1 = (k : Int) := by omega
      have hcnd := hhalf.2 hlt
      have hd48 : 48 ≤ di := by omega
      replace hfin := hid hfin
      replace hsh := hid hsh
      have hdd : (dp1 < 0) ∨ (dp1 = 0 ∧ di < 53) := by omega
      clear hF1 hC1 hhd hnine hvv hhalf hcnd hd00 hd09 hX hYe hY hdi hless hlb hlt hep
      rcases hdd with hneg | ⟨hz, h53⟩
      ·by_cases h9 : 9 ≤ k
       ·have hn9 : n = 27 := by rw [hn]; unfold pn; rw [if_neg (by omega)]
        subst hn9
        have hki : 9 ≤ (k : Int) := by omega
        clear hn hnb g1 g3 h9
        replace hk := hid hk
        go_wp2_with fail
        go_region
        go_wp2_with fail
        refine (hsh.out 1).mono ?_
        rintro e2 w2 ⟨rfl, h1⟩
        have h1' := hid h1
        clear h1
        go_wp2_with fail
        go_roundw
        case rel => exact hfin.out 1 _ h1'.out _ (by first | rfl | omega)
        case measure => simp [intOf]; omega
       ·have hk9 : k < 9 := by omega
        have hpv : ptab[k]? = some n := by
         have : pn k = ptab.getD k 0 := by unfold pn; rw [if_pos hk9]
         rw [this] at hn
         rw [hn, getD_at ptab k (by show k < 9; exact hk9)]
         exact List.getElem?_eq_getElem _
        have gk := g3 k n hpv
        have hki : ¬ (9 : Int) ≤ (k : Int) := by omega
        have hki2 : (k : Int) < 9 := by omega
        clear hn hnb g1 g3 h9 hk9 hpv
        replace hk := hid hk
        go_wp2_with fail
        go_region
        go_wp2_with fail
        go_region
        go_wp2_with fail
        refine (hsh.out 2).mono ?_
        rintro e2 w2 ⟨rfl, h1⟩
        have h1' := hid h1
        clear h1
        go_wp2_with fail
        go_roundw
        case rel => exact hfin.out 2 _ h1'.out _ (by first | rfl | omega)
        case measure => simp [intOf]; omega
      ·obtain rfl : k = 0 := by omega
       subst hz
       have hn1' : n = 1 := by rw [hn]; decide
       subst hn1'
       have gk := g3 0 1 rfl
       rw [Nat.add_zero] at gk
       clear hn hnb g1 g3 hk hnk
       go_wp2_with fail
       go_region
       go_wp2_with fail
       go_region
       go_wp2_with fail
       refine (hsh.out 2).mono ?_
       rintro e2 w2 ⟨rfl, h1⟩
       have h1' := hid h1
       clear h1
       go_wp2_with fail
       go_roundw
       case rel => exact hfin.out 2 _ h1'.out _ (by first | rfl | omega)
       case measure => simp [intOf]; omega
     ·have hnc : ¬ (dp1 < 0) ∧ ¬ (dp1 = 0 ∧ di < 53) := by
       constructor
       ·intro h; exact hlt (hhalf.1 (Or.inl h))
       ·rintro ⟨h1, h2⟩; exact hlt (hhalf.1 (Or.inr ⟨h1, by omega⟩))
      have hz : dp1 = 0 := by omega
      have h53 : ¬ di < 53 := fun h => hnc.2 ⟨hz, h⟩
      have hfin : Hid (FB B n0 neg N D 0 0 w wr ds1 dp1 e ∧ dp1 ≤ 0 ∧ -331 ≤ dp1 ∧ e ≤ 1033 ∧ -2000 ≤ e ∧ max e 0 - p ≤ 790 ∧ D * 2 ^ e.toNat ≤ 2 * (N * 2 ^ (-e).toNat)) := hid ⟨hV.out.1, hdp0, hdp30, he33, he20, hep, by rw [← hX, ← hYe]; omega⟩
      rw [hz] at x1
      clear hF1 hC1 hhd hnine hvv hhalf hd00 hd09 hX hYe hY hdi g1 g3 hk hlt hnc hz
      go_wp2_with fail
      exact hK'.out _ _ ⟨e, ds1, dp1, hfin, rfl, rfl, rfl, rfl, rfl, rfl, rfl⟩
   case h2 =>
    rintro a wc ⟨e, ds1, dp1, hP2, hd0, hz0, f0, f1, f5, f6, f7⟩
    obtain ⟨u, hu, ha⟩ := frame243 a hd0 hz0
    rw [(hu 0).trans f0, (hu 1).trans f1, (hu 5).trans f5, (hu 6).trans f6, (hu 7).trans f7] at ha
    clear f0 f1 f5 f6 f7 hu hd0 hz0
    subst ha
    have hb33 : e ≤ 1033 := hP2.out.2.2.2.1
    have hb20 : -2000 ≤ e := hP2.out.2.2.2.2.1
    refine wp_seq_k fun K1 h1 => ?_
    have h1' := hid h1
    clear h1
    go_wp2_with fail
    refine h1'.out _ _ ?_
    clear h1'
    refine cut_seq (fun a' w' => ∃ (e : Int) (ds1 : List Nat) (dp1 : Int), Hid (FB B n0 neg N D 0 0 w w' ds1 dp1 (e + 1) ∧ dp1 ≤ 0 ∧ -((126 : Nat) : Int) ≤ e ∧ (e = -((126 : Nat) : Int) ∨ D * 2 ^ (e + 1).toNat ≤ 2 * (N * 2 ^ (-(e + 1)).toNat)) ∧ max (e + 1) 0 - p ≤ 790) ∧ a'.defers = [] ∧ a'.tmps.size = 243 ∧ a'.tmps.getD 0 undef = .pointer (some ⟨B, 0, none⟩) ∧ a'.tmps.getD 1 undef = .pointer (some ⟨6, 0, none⟩) ∧ a'.tmps.getD 5 undef = .bool false ∧ a'.tmps.getD 6 undef = .int .i64 e ∧ a'.tmps.getD 7 undef = .int .u64 0) ?h1 ?h2
    case h1 =>
     intro K hK
     have hK' := hid hK
     clear hK
     obtain ⟨hFB, hd0, hd331, he33, he20, hep, hhalf⟩ := hP2.out
     obtain ⟨c1, hF1, hC1⟩ := hFB.dec
     have gi := (hgt.out.on hFB.be).2.1.2
     have g2' := gi.cell 2
     simp at g2'
     by_cases hlow : e - 1 < -126
     ·obtain ⟨n, hn⟩ : ∃ n : Nat, (n : Int) = -126 + 1 - e := ⟨(-126 + 1 - e).toNat, by omega⟩
      obtain ⟨X, hX⟩ : ∃ X, X = N * 2 ^ (-e).toNat := ⟨_, rfl⟩
      obtain ⟨Y, hYe⟩ : ∃ Y, Y = D * 2 ^ e.toNat := ⟨_, rfl⟩
      have hvv := hFB.dv
      rw [← hX, ← hYe] at hvv
      have hY : 0 < Y := by rw [hYe]; exact Nat.mul_pos hD0 (Nat.pow_pos (by decide))
      have hYD : Y = D := by rw [hYe, show e.toNat = 0 by omega, Nat.pow_zero, Nat.mul_one]
      have hdv : Y * 2 ^ n ∣ X * 10 ^ (-p).toNat := by
       have h1 := hdiv.out 0 (-p).toNat (by omega)
       rw [Nat.pow_zero, Nat.mul_one] at h1
       have h2 : 2 ^ n ∣ 2 ^ (-e).toNat := Nat.pow_dvd_pow 2 (by omega)
       have h3 := Nat.mul_dvd_mul h1 h2
       rw [hYD, hX]
       have e1 : N * 2 ^ (-e).toNat * 10 ^ (-p).toNat = N * 10 ^ (-p).toNat * 2 ^ (-e).toNat := by simp only [Nat.mul_assoc, Nat.mul_left_comm, Nat.mul_comm]
       rw [e1]
       exact h3
      have hsh := shiftR144 B ds1 dp1 neg n (by omega) hFB.hd wc hFB.dec n0 hn0 X Y (-p).toNat hY hvv hdv (by omega) ⟨by omega, by omega⟩
      have hfin : ∀ w2, ((∃ ds' dp', Dec w2 B ds' dp' neg ∧ (∃ d r, ds' = d :: r ∧ d ≠ 0) ∧ (∀ x, ds'.getLast? = some x → x ≠ 0) ∧ DV ds' dp' X (Y * 2 ^ n) ∧ dp' ≤ dp1 ∧ dp1 - 40000 ≤ dp') ∧ Below n0 wc w2) → ∃ ds2 dp2, FB B n0 neg N D 0 0 w w2 ds2 dp2 (-126 + 1) ∧ dp2 ≤ 0 := by
       rintro w2 ⟨⟨ds', dp', a1, a2, a3, a4, a5, a6⟩, a7⟩
       obtain ⟨cc, hcF, hcc⟩ := a1
       have hne : ds' ≠ [] := by obtain ⟨x, r, e, _⟩ := a2; rw [e]; simp
       have hlen' : 0 < ds'.length := List.length_pos_iff.2 hne
       have hY2 : 0 < Y * 2 ^ n := Nat.mul_pos hY (Nat.pow_pos (by decide))
       have hln := len_bd a4 hcc.nine hY2 a3 hne hdv
       have hdv2 : DV ds' dp' (N * 2 ^ (-(e + n)).toNat) (D * 2 ^ (e + n).toNat) := dv_move (by rw [← hX, ← hYe]; exact a4)
       have hdl : -9000 ≤ dp' := by
        apply Classical.byContradiction
        intro hc
        have h1 := hv.out.lo h0.out
        have h2 := DV.hi hdv2 hcc.nine (Nat.mul_pos hD0 (Nat.pow_pos (by decide)))
        rw [show dp'.toNat = 0 by omega, Nat.pow_zero, Nat.mul_one, show (e + (n : Int)).toNat = 0 by omega, Nat.pow_zero, Nat.mul_one] at h2
        have h4 : N * 10 ^ (-dp').toNat ≤ N * 2 ^ (-(e + (n : Int))).toNat * 10 ^ (-dp').toNat := Nat.mul_le_mul_right _ (Nat.le_mul_of_pos_right _ (Nat.pow_pos (by decide)))
        have h6 : D * 1 ≤ D * 10 ^ (dp - 1).toNat := Nat.mul_le_mul_left _ (Nat.pow_pos (by decide))
        have h7 : N * 10 ^ (1 - dp).toNat ≤ N * 10 ^ (-dp').toNat := Nat.mul_le_mul_left _ (Nat.pow_le_pow_right (by decide) (by omega))
        omega
       refine ⟨ds', dp', ⟨⟨cc, hcF, hcc⟩, a2, ?_, hFB.be.trans a7, ⟨by omega, hdl⟩, by omega, Or.inr a3⟩, by omega⟩
       rw [show (-126 + 1 : Int) = e + n by omega]
       exact hdv2
      have hn2 : (-126 : Int) - (e - 1) = (n : Int) := by omega
      have hn3 : e - 1 + (n : Int) = -126 := by omega
      have hei : -3000 ≤ e := by omega
      replace hsh := hid hsh
      replace hfin := hid hfin
      clear hFB hF1 hC1 hX hYe hvv hY hYD hdv gi hn hhalf hep
      go_wp2_with fail
      go_at_call 144
      refine (hsh.out _ (by omega)).mono ?_
      rintro e2 w2 ⟨rfl, h1⟩
      obtain ⟨ds2, dp2, q1, q2⟩ := hfin.out _ h1
      have hq := hid q1
      clear q1 h1 hfin hsh
      go_wp2_with fail
      exact hK'.out _ _ ⟨-126, ds2, dp2, hid ⟨hq.out, q2, by omega, Or.inl rfl, by have := hp.out; omega⟩, rfl, rfl, rfl, rfl, (by first | rfl | exact val_int (by omega)), rfl, rfl⟩
     ·have hfin : Hid (FB B n0 neg N D 0 0 w wc ds1 dp1 (e - 1 + 1) ∧ dp1 ≤ 0 ∧ -((126 : Nat) : Int) ≤ e - 1 ∧ (e - 1 = -((126 : Nat) : Int) ∨ D * 2 ^ (e - 1 + 1).toNat ≤ 2 * (N * 2 ^ (-(e - 1 + 1)).toNat)) ∧ max (e - 1 + 1) 0 - p ≤ 790) := hid (by
       rw [show e - 1 + 1 = e by omega]
       exact ⟨hFB, hd0, by omega, Or.inr hhalf, hep⟩)
      clear hFB hF1 hC1 gi hhalf hep
      go_wp2_with fail
      exact hK'.out _ _ ⟨e - 1, ds1, dp1, hfin, rfl, rfl, rfl, rfl, (by first | rfl | exact val_int (by omega)), rfl, rfl⟩
    case h2 =>
     rintro a wc ⟨e, ds1, dp1, hP3, hd0, hz0, f0, f1, f5, f6, f7⟩
     obtain ⟨u, hu, ha⟩ := frame243 a hd0 hz0
     rw [(hu 0).trans f0, (hu 1).trans f1, (hu 5).trans f5, (hu 6).trans f6, (hu 7).trans f7] at ha
     clear f0 f1 f5 f6 f7 hu hd0 hz0
     subst ha
     refine cut_seq (fun a' w' => ∃ (e : Int) (ds1 : List Nat) (dp1 : Int), Hid (FB B n0 neg N D 0 0 w w' ds1 dp1 (e + 1) ∧ dp1 ≤ 0 ∧ -((126 : Nat) : Int) ≤ e ∧ (e = -((126 : Nat) : Int) ∨ D * 2 ^ (e + 1).toNat ≤ 2 * (N * 2 ^ (-(e + 1)).toNat)) ∧ max (e + 1) 0 - p ≤ 790 ∧ e < 128) ∧ a'.defers = [] ∧ a'.tmps.size = 243 ∧ a'.tmps.getD 0 undef = .pointer (some ⟨B, 0, none⟩) ∧ a'.tmps.getD 1 undef = .pointer (some ⟨6, 0, none⟩) ∧ a'.tmps.getD 5 undef = .bool false ∧ a'.tmps.getD 6 undef = .int .i64 e ∧ a'.tmps.getD 7 undef = .int .u64 0) ?h1 ?h2
     case h1 =>
      intro K hK
      have hK' := hid hK
      clear hK
      have hb33 : e ≤ 2000 := by have := hP3.out.1.db; have := hP3.out.2.2.2.2; have := hp.out; omega
      have hb20 : -2000 ≤ e := by have := hP3.out.2.2.1; omega
      obtain ⟨hFB, hd0, hlo, hhalf, hep⟩ := hP3.out
      obtain ⟨c1, hF1, hC1⟩ := hFB.dec
      have c802 := hF1.cell 802 (by decide)
      rw [hC1.ng] at c802
      have gi := (hgt.out.on hFB.be).2.1.2
      have g1' := gi.cell 1
      have g2' := gi.cell 2
      simp at g1' g2'
      by_cases hov : 128 ≤ e
      ·have hI : 2139095040 ≤ b := by
        rw [hb.out]
        refine nr_ge hD0 ?_
        have h1 : D * 2 ^ (e + 1).toNat ≤ 2 * (N * 2 ^ (-(e + 1)).toNat) := by
         rcases hhalf with h | h
         ·omega
         ·exact h
        rw [show (-(e + 1)).toNat = 0 by omega, Nat.pow_zero, Nat.mul_one, show (e + 1).toNat = e.toNat + 1 by omega, Nat.pow_succ, ← Nat.mul_assoc] at h1
        have h2 : val 23 2139095040 = 2 ^ 128 * 2 ^ 149 := val_inf32
        have h3 : (2 : Nat) ^ 128 ≤ 2 ^ e.toNat := Nat.pow_le_pow_right (by decide) (by omega)
        rw [h2]
        calc 2 ^ 128 * 2 ^ 149 * D ≤ 2 ^ e.toNat * 2 ^ 149 * D := Nat.mul_le_mul_right _ (Nat.mul_le_mul_right _ h3)
         _ = D * 2 ^ e.toNat * 2 ^ 149 := by simp only [Nat.mul_assoc, Nat.mul_left_comm, Nat.mul_comm]
         _ ≤ N * 2 ^ 149 := Nat.mul_le_mul_right _ (by omega)
       have hfin : Hid (2139095040 ≤ b ∧ wc.drew.cell? ⟨B, 802, none⟩ = some (.bool neg) ∧ Below n0 w wc.drew) := hid ⟨hI, c802, hFB.be.drew⟩
       clear hFB hF1 hC1 gi hhalf hep hI
       go_wp2_with fail
       go_region
       go_wp2_with fail
       refine wp_goto ?_
       try simp only [Exit.then, Exit.outs]
       exact Or.inr ⟨rfl, hfin, rfl, rfl, rfl, rfl⟩
      ·have hfin : Hid (FB B n0 neg N D 0 0 w wc.drew ds1 dp1 (e + 1) ∧ dp1 ≤ 0 ∧ -((126 : Nat) : Int) ≤ e ∧ (e = -((126 : Nat) : Int) ∨ D * 2 ^ (e + 1).toNat ≤ 2 * (N * 2 ^ (-(e + 1)).toNat)) ∧ max (e + 1) 0 - p ≤ 790 ∧ e < 128) := hid ⟨⟨⟨c1, hF1.drew, hC1⟩, hFB.hd, hFB.dv, hFB.be.drew, hFB.db, hFB.ln, hFB.lz⟩, hd0, hlo, hhalf, hep, by omega⟩
       clear hFB hF1 hC1 gi hhalf hep
       go_wp2_with fail
       go_region
       go_wp2_with fail
       exact hK'.out _ _ ⟨e, ds1, dp1, hfin, rfl, rfl, rfl, rfl, rfl, rfl, rfl⟩
     case h2 =>
      rintro a wc ⟨e, ds1, dp1, hP4, hd0, hz0, f0, f1, f5, f6, f7⟩
      obtain ⟨u, hu, ha⟩ := frame243 a hd0 hz0
      rw [(hu 0).trans f0, (hu 1).trans f1, (hu 5).trans f5, (hu 6).trans f6, (hu 7).trans f7] at ha
      clear f0 f1 f5 f6 f7 hu hd0 hz0
      subst ha
      have hb33 : e ≤ 2000 := by have := hP4.out.2.2.2.2.2; omega
      have hb20 : -2000 ≤ e := by have := hP4.out.2.2.1; omega
      obtain ⟨hFB, hd0, hlo, hhalf, hep, hov⟩ := hP4.out
      obtain ⟨c1, hF1, hC1⟩ := hFB.dec
      have hgr := hgt.out.on hFB.be
      have gi := hgr.2.1.2
      have g0' := gi.cell 0
      simp at g0'
      have hnine := hC1.nine
      have hvv := hFB.dv
      have hvv0 := hFB.dv
      obtain ⟨X0, hX0⟩ : ∃ X, X = N * 2 ^ (-(e + 1)).toNat := ⟨_, rfl⟩
      obtain ⟨Y0, hY0⟩ : ∃ Y, Y = D * 2 ^ (e + 1).toNat := ⟨_, rfl⟩
      rw [← hX0, ← hY0] at hvv
      have hY : 0 < Y0 := by rw [hY0]; exact Nat.mul_pos hD0 (Nat.pow_pos (by decide))
      have hless : X0 < Y0 := by
       have h1 := DV.hi hvv hnine hY
       rw [show dp1.toNat = 0 by omega, Nat.pow_zero, Nat.mul_one] at h1
       have h2 : X0 * 1 ≤ X0 * 10 ^ (-dp1).toNat := Nat.mul_le_mul_left _ (Nat.pow_pos (by decide))
       omega
      have hne : ds1 ≠ [] := by obtain ⟨x, r, e, _⟩ := hFB.hd; rw [e]; simp
      have hlen : ds1.length ≤ 781 := by
       rcases hFB.lz with h | hlast
       ·omega
       by_cases he1 : e + 1 ≤ 0
       ·have hdv : Y0 ∣ X0 * 10 ^ (-p).toNat := by
         have h1 := hdiv.out 0 (-p).toNat (by omega)
         rw [Nat.pow_zero, Nat.mul_one] at h1
         rw [hY0, hX0, show (e + 1).toNat = 0 by omega, Nat.pow_zero, Nat.mul_one, Nat.mul_right_comm]
         exact Nat.dvd_mul_right_of_dvd h1 _
        have := len_bd hvv hnine hY hlast hne hdv
        have := hp.out
        omega
       ·obtain ⟨k, hk⟩ : ∃ k : Nat, (k : Int) = e + 1 := ⟨(e + 1).toNat, by omega⟩
        rw [show (-(e + 1)).toNat = 0 by omega, Nat.pow_zero, Nat.mul_one, show (e + 1).toNat = k by omega] at hvv0
        rcases hhalf with h | h
        ·omega
        ·rw [show (-(e + 1)).toNat = 0 by omega, Nat.pow_zero, Nat.mul_one, show (e + 1).toNat = k by omega] at h
         have hhi : N < D * 10 ^ dp.toNat := by
          have h1 := DV.hi hv.out hDG.out hD0
          have h2 : N * 1 ≤ N * 10 ^ (-dp).toNat := Nat.mul_le_mul_left _ (Nat.pow_pos (by decide))
          omega
         exact fb_len hD0 hvv0 hnine hFB.hd hd0 hhi hp.out hl (by omega) (by omega) h hdiv.out (Or.inr hlast)
      have hlb : ∀ D', 10 ^ (D' - 1) ≤ 2 ^ 24 → ds1.length + D' ≤ 800 := by
       intro D' hD'
       have h2 : (2 : Nat) ^ 24 < 10 ^ 16 := by decide
       have h3 := (Nat.pow_lt_pow_iff_right (by decide : 1 < 10)).1 (Nat.lt_of_le_of_lt hD' h2)
       omega
      have hdb := hFB.db
      have hsh := shiftL144 B ds1 dp1 neg 24 (by decide) hFB.hd wc hFB.dec hgr.ct n0 hn0 X0 Y0 hvv hlb ⟨by omega, by omega⟩
      have hfin : ∀ w2, ((∃ ds' dp', Dec w2 B ds' dp' neg ∧ (∃ d r, ds' = d :: r ∧ d ≠ 0) ∧ (∀ x, ds'.getLast? = some x → x ≠ 0) ∧ DV ds' dp' (X0 * 2 ^ 24) Y0 ∧ dp1 ≤ dp' ∧ dp' ≤ dp1 + 19) ∧ Below n0 wc w2) → ∃ (m : Nat), Calls Tryz.prog 218 #[.pointer (some ⟨B, 0, none⟩)] w2 (fun e w' => e = .returned (.int .u64 (m : Int)) ∧ w2 = w') ∧ w2.cell? ⟨B, 802, none⟩ = some (.bool neg) ∧ Below n0 w w2 ∧ b = (e + ((126 : Nat) : Int)).toNat * 2 ^ 23 + m ∧ m ≤ 2 * 2 ^ 23 ∧ (e = -((126 : Nat) : Int) ∨ 2 ^ 23 ≤ m) := by
       rintro w2 ⟨⟨ds2, dp2, a1, a2, a3, a4, a5, a6⟩, a7⟩
       obtain ⟨cc, hcF, hcc⟩ := a1
       have h18 : dp2 ≤ 18 := by
        apply Classical.byContradiction
        intro hc
        have h1 := a4.lo a2
        rw [show (1 - dp2).toNat = 0 by omega, Nat.pow_zero, Nat.mul_one] at h1
        have h2 : (2 : Nat) ^ 24 ≤ 10 ^ (dp2 - 1).toNat := Nat.le_trans (by decide : (2 : Nat) ^ 24 ≤ 10 ^ 18) (Nat.pow_le_pow_right (by decide) (by omega))
        have h3 : Y0 * 2 ^ 24 ≤ Y0 * 10 ^ (dp2 - 1).toNat := Nat.mul_le_mul_left _ h2
        have h4 : X0 * 2 ^ 24 < Y0 * 2 ^ 24 := Nat.mul_lt_mul_of_pos_right hless (Nat.pow_pos (by decide))
        omega
       have c802 := hcF.cell 802 (by decide)
       rw [hcc.ng] at c802
       have hri := rint218 B ds2 dp2 neg w2 ⟨cc, hcF, hcc⟩ ⟨by omega, h18⟩
       have hrd := rInt_rd a4 hcc.nine hY a3
       have hend := fb_end (F := 23) (Pm := 149) (x := 126) (N := N) (D := D) (e := e) (by decide) (by decide) hD0 (by rw [hX0]) hY0 hlo hrd (Nat.mul_lt_mul_of_pos_right hless (Nat.pow_pos (by decide))) (by
        rcases hhalf with h | h
        ·exact Or.inl h
        ·refine Or.inr ?_
         rw [← hX0, ← hY0] at h
         exact half_two 23 h)
       exact ⟨_, hri, c802, hFB.be.trans a7, by rw [hb.out]; exact hend.1, hend.2.1, hend.2.2⟩
      replace hsh := hid hsh
      replace hfin := hid hfin
      clear hFB hF1 hC1 hgr gi hnine hvv hvv0 hX0 hY0 hY hless hne hlen hlb hhalf hep hdb
      go_wp2_with fail
      refine hsh.out.mono ?_
      rintro e2 w2 ⟨rfl, h1⟩
      obtain ⟨m, q1, q2, q3, q4, q5, q6⟩ := hfin.out w2 h1
      have hgi := (hgt.out.on q3).2.1.2
      have r0 := hgi.cell 0
      have r1 := hgi.cell 1
      have r2 := hgi.cell 2
      simp at r0 r1 r2
      obtain ⟨mi, hmi⟩ : ∃ mi : Int, mi = (m : Int) := ⟨_, rfl⟩
      rw [← hmi] at q1
      obtain ⟨K, hK⟩ : ∃ K : Nat, (K : Int) = e + ((126 : Nat) : Int) := ⟨(e + ((126 : Nat) : Int)).toNat, by omega⟩
      rw [show (e + ((126 : Nat) : Int)).toNat = K by omega] at q4
      have hK2 : K < 255 := by omega
      clear hgi h1 hsh hfin
      replace q1 := hid q1
      have hcell := hid q2
      clear q2
      by_cases hm2 : m = 2 * 2 ^ 23
      ·have hmi2 : mi = 16777216 := by rw [hmi, hm2]; rfl
       subst hmi2
       by_cases ho2 : 127 ≤ e
       ·have hfin : Hid (2139095040 ≤ b ∧ w2.drew.cell? ⟨B, 802, none⟩ = some (.bool neg) ∧ Below n0 w w2.drew) := hid ⟨by rw [q4, hm2]; clear r0 r1 r2; omega, hcell.out, q3.drew⟩
        clear q3 q4 q5 q6 hm2 hK hK2 hmi
        go_wp2_with fail
        refine q1.out.mono ?_
        rintro e3 w3 ⟨rfl, rfl⟩
        go_wp2_with fail
        go_region
        go_wp2_with fail
        refine wp_goto ?_
        try simp only [Exit.then, Exit.outs]
        exact Or.inr ⟨rfl, hfin, rfl, rfl, rfl, rfl⟩
       ·have hfin : Hid (PO 23 126 2139095040 b (2 ^ 23) (e + 1) ∧ w2.drew.cell? ⟨B, 802, none⟩ = some (.bool neg) ∧ Below n0 w w2.drew) := hid ⟨po_mk (K := K + 1) (by omega) (by rw [q4, hm2]; clear r0 r1 r2; omega) (Nat.le_refl _) (by decide) (by clear r0 r1 r2; omega), hcell.out, q3.drew⟩
        have han : bits .and .u64 8388608 8388608 = 8388608 := by kernel_rfl
        clear q3 q4 q5 q6 hm2 hK hK2 hmi
        go_wp2_with fail
        refine q1.out.mono ?_
        rintro e3 w3 ⟨rfl, rfl⟩
        go_wp2_with fail
        go_region
        go_wp2_with fail
        refine wp_goto ?_
        try simp only [Exit.then, Exit.outs]
        exact Or.inl ⟨rfl, 2 ^ 23, e + 1, hfin, rfl, rfl, rfl, rfl, rfl, rfl, rfl⟩
      ·have hn2 : (mi == 16777216) = false := by
        have h8 : mi ≠ 16777216 := by rw [hmi]; clear r0 r1 r2; omega
        simpa using h8
       by_cases hlow : m < 2 ^ 23
       ·have hfin : Hid (PO 23 126 2139095040 b m (-127) ∧ w2.cell? ⟨B, 802, none⟩ = some (.bool neg) ∧ Below n0 w w2) := hid ⟨Or.inl ⟨hlow, by
         rcases q6 with h | h
         ·rw [q4, show K = 0 by omega]; clear r0 r1 r2; omega
         ·omega, by decide⟩, hcell.out, q3⟩
        have han : bits .and .u64 mi 8388608 = 0 := by
         have h := and_p m 23 (by clear r0 r1 r2; omega) (by decide)
         rw [Nat.div_eq_of_lt hlow] at h
         rw [hmi]
         exact h
        replace hmi := hid hmi
        clear q3 q4 q5 q6 hm2 hK hK2 hlow
        go_wp2_with fail
        refine q1.out.mono ?_
        rintro e3 w3 ⟨rfl, rfl⟩
        go_wp2_with fail
        refine wp_goto ?_
        try simp only [Exit.then, Exit.outs]
        exact Or.inl ⟨rfl, m, _, hfin, rfl, rfl, rfl, rfl, rfl, rfl, by rw [← hmi.out]; rfl⟩
       ·have hfin : Hid (PO 23 126 2139095040 b m e ∧ w2.cell? ⟨B, 802, none⟩ = some (.bool neg) ∧ Below n0 w w2) := hid ⟨po_mk (K := K) hK q4 (by omega) (by omega) (by clear r0 r1 r2; omega), hcell.out, q3⟩
        have han : bits .and .u64 mi 8388608 = 8388608 := by
         have h := and_p m 23 (by clear r0 r1 r2; omega) (by decide)
         rw [show m / 2 ^ 23 % 2 * 2 ^ 23 = 8388608 by clear r0 r1 r2; omega] at h
         rw [hmi]
         exact h
        replace hmi := hid hmi
        clear q3 q4 q5 q6 hm2 hK hK2 hlow
        go_wp2_with fail
        refine q1.out.mono ?_
        rintro e3 w3 ⟨rfl, rfl⟩
        go_wp2_with fail
        refine wp_goto ?_
        try simp only [Exit.then, Exit.outs]
        exact Or.inl ⟨rfl, m, e, hfin, rfl, rfl, rfl, rfl, rfl, rfl, by rw [← hmi.out]; rfl⟩
 case p0 =>
  rintro a wc ⟨m, E, hP, hd0, hz0, f0, f1, f5, f6, f7⟩
  obtain ⟨u, hu, ha⟩ := frame243 a hd0 hz0
  rw [(hu 0).trans f0, (hu 1).trans f1, (hu 5).trans f5, (hu 6).trans f6, (hu 7).trans f7] at ha
  clear f0 f1 f5 f6 f7 hu hd0 hz0
  subst ha
  obtain ⟨hPO, hcell, hBl⟩ := hP.out
  have gi := (hgt.out.on hBl).2.1.2
  have g0 := gi.cell 0
  have g1' := gi.cell 1
  have g2' := gi.cell 2
  simp at g0 g1' g2'
  have hfin0 := fun q => below_drewN hBl q
  replace hP := hid hP
  replace hfin0 := hid hfin0
  clear gi hBl c0 c1 c2 hwD hb h0 hv hdiv hp d0 d1 d2 hnz hgt hDG
  rcases hPO with ⟨s1, s2, s3⟩ | ⟨s1, s2, s3, s4, s5⟩
  ·subst s2
   subst s3
   have hbb : min b 2139095040 = b := Nat.min_eq_left (by omega)
   have hcmp : ¬ 2139095040 ≤ b := by omega
   have han := and_low 23 b (by omega) (by decide)
   rw [show ((2 ^ 23 - 1 : Nat) : Int) = 8388607 from rfl, Nat.mod_eq_of_lt s1] at han
   have h00 : bits .and .i64 0 255 = 0 := by kernel_rfl
   have ho0 : bits .or .u64 (b : Int) 0 = (b : Int) := by
    have h := u64_or_nat b 0 (by omega) (by decide)
    simpa using h
   have hos := or_sum 31 b 1 (by omega) (by omega)
   rw [show (1 * 2 ^ 31 : Nat) = 2147483648 by decide, show (((2147483648 : Nat)) : Int) = 2147483648 from rfl] at hos
   replace hbb := hid hbb
   replace hcmp := hid hcmp
   clear s1
   simp only [Int.natCast_add] at hos
   cases neg
   ·go_wp2_with fail
    go_region
    go_wp2_with fail
    try simp only [Exit.outs]
    go_ret2
    exact ⟨by rw [hR.out]; refine (congrArg Ending.returned (congrArg Value.tuple ?_)); rw [hbb.out, decide_eq_false hcmp.out]; simp [sg32], hfin0.out 1⟩
   ·go_wp2_with fail
    go_region
    go_wp2_with fail
    go_region
    go_wp2_with fail
    try simp only [Exit.outs]
    go_ret2
    exact ⟨by rw [hR.out]; refine (congrArg Ending.returned (congrArg Value.tuple ?_)); rw [hbb.out, decide_eq_false hcmp.out]; simp [sg32]; try omega, hfin0.out 2⟩
  ·obtain ⟨z, hz⟩ : ∃ z : Nat, (z : Int) = E + 127 := ⟨(E + 127).toNat, by omega⟩
   obtain ⟨mf, hmf⟩ : ∃ mf, mf = m - 8388608 := ⟨_, rfl⟩
   have hbz : b = mf + z * 8388608 := by
    have e1 : (z : Int) * 8388608 = (E + ((126 : Nat) : Int)) * ((2 ^ 23 : Nat) : Int) + 8388608 := by
     rw [hz]
     have : ((2 ^ 23 : Nat) : Int) = 8388608 := rfl
     rw [this]
     omega
    omega
   have hz1 : z ≤ 254 := by omega
   have hbb : min b 2139095040 = b := Nat.min_eq_left (by omega)
   have hcmp : ¬ 2139095040 ≤ b := by omega
   have han := and_low 23 m (by omega) (by decide)
   rw [show ((2 ^ 23 - 1 : Nat) : Int) = 8388607 from rfl, show m % 2 ^ 23 = mf by omega] at han
   have hza : bits .and .i64 (z : Int) 255 = (z : Int) := by
    have h := bits_mask .i64 8 (by decide) (fun n a b => by rw [IntKind.wrap_i64]; omega) 8 (by decide) (z : Int) (by omega) (by omega)
    rw [show ((2 : Int) ^ 8 - 1) = 255 from rfl, show ((2 : Int) ^ 8) = 256 from rfl] at h
    rw [h]; omega
   have hor := or_sum 23 mf z (by omega) (by omega)
   rw [show z * 2 ^ 23 = z * 8388608 from rfl, ← hbz] at hor
   simp only [Int.natCast_mul] at hor
   rw [show (((8388608 : Nat)) : Int) = 8388608 from rfl] at hor
   have hos := or_sum 31 b 1 (by omega) (by omega)
   rw [show (1 * 2 ^ 31 : Nat) = 2147483648 by decide, show (((2147483648 : Nat)) : Int) = 2147483648 from rfl] at hos
   simp only [Int.natCast_add] at hos
   have hE3 : E = (z : Int) - 127 := by omega
   have hz2 : (z : Int) ≤ 254 := by omega
   have hz0 : 0 < z := by omega
   obtain ⟨mi, hmi⟩ : ∃ mi : Int, mi = (m : Int) := ⟨_, rfl⟩
   rw [← hmi] at han ⊢
   subst hE3
   have hez : (z : Int) - 127 + 127 = (z : Int) := by omega
   have hez2 : (z : Int) - 127 - -127 = (z : Int) := by omega
   replace hmi := hid hmi
   replace hbb := hid hbb
   replace hcmp := hid hcmp
   replace hbz := hid hbz
   replace hmf := hid hmf
   clear s1 s2 s3 s4 s5 hz hz1
   cases neg
   ·go_wp2_with fail
    go_region
    go_wp2_with fail
    try simp only [Exit.outs]
    go_ret2
    exact ⟨by rw [hR.out]; refine (congrArg Ending.returned (congrArg Value.tuple ?_)); rw [hbb.out, decide_eq_false hcmp.out]; simp [sg32], hfin0.out 1⟩
   ·go_wp2_with fail
    go_region
    go_wp2_with fail
    go_region
    go_wp2_with fail
    try simp only [Exit.outs]
    go_ret2
    exact ⟨by rw [hR.out]; refine (congrArg Ending.returned (congrArg Value.tuple ?_)); rw [hbb.out, decide_eq_false hcmp.out]; simp [sg32]; try omega, hfin0.out 2⟩
 case p1 =>
  rintro a wc ⟨hP, hd0, hz0, f0, f1⟩
  obtain ⟨u, hu, ha⟩ := frame243 a hd0 hz0
  rw [(hu 0).trans f0, (hu 1).trans f1] at ha
  clear f0 f1 hu hd0 hz0
  subst ha
  obtain ⟨hPO, hcell, hBl⟩ := hP.out
  have gi := (hgt.out.on hBl).2.1.2
  have g0 := gi.cell 0
  have g1' := gi.cell 1
  have g2' := gi.cell 2
  simp at g0 g1' g2'
  have hfin0 := fun q => below_drewN hBl q
  replace hP := hid hP
  replace hfin0 := hid hfin0
  clear gi hBl c0 c1 c2 hwD hb h0 hv hdiv hp d0 d1 d2 hnz hgt hDG
  have hcmp : 2139095040 ≤ b := hPO
  have hbb : min b 2139095040 = 2139095040 := Nat.min_eq_right hcmp
  have h01 : bits .and .u64 0 8388607 = 0 := by kernel_rfl
  have h02 : bits .and .i64 255 255 = 255 := by kernel_rfl
  have h03 : bits .or .u64 0 2139095040 = 2139095040 := by kernel_rfl
  have h04 : bits .or .u64 2139095040 2147483648 = 4286578688 := by kernel_rfl
  replace hbb := hid hbb
  replace hcmp := hid hcmp
  clear hPO
  cases neg
  ·go_wp2_with fail
   go_region
   go_wp2_with fail
   go_step3
   simp only [Exit.then]
   rename_i hk0
   refine hk0 _ _ ?_
   clear hk0
   go_wp2_with fail
   go_region
   go_wp2_with fail
   try simp only [Exit.outs]
   go_ret2
   exact ⟨by rw [hR.out]; refine (congrArg Ending.returned (congrArg Value.tuple ?_)); rw [hbb.out, decide_eq_true hcmp.out]; simp [sg32], hfin0.out 2⟩
  ·go_wp2_with fail
   go_region
   go_wp2_with fail
   go_step3
   simp only [Exit.then]
   rename_i hk0
   refine hk0 _ _ ?_
   clear hk0
   go_wp2_with fail
   go_region
   go_wp2_with fail
   go_region
   go_wp2_with fail
   try simp only [Exit.outs]
   go_ret2
   exact ⟨by rw [hR.out]; refine (congrArg Ending.returned (congrArg Value.tuple ?_)); rw [hbb.out, decide_eq_true hcmp.out]; simp [sg32]; try omega, hfin0.out 3⟩
end
end Go.Proofs.YtlgneiaenanfaaaGreatDoor
