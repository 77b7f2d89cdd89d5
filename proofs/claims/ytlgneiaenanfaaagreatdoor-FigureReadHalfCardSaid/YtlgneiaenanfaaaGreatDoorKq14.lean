/- Walks and plain laws, merged: FgL. No condition. -/
import Derived.LaidEqlPtr
import Derived.Test.YtlgneiaenanfaaaGreatDoorKq11
import Derived.Test.YtlgneiaenanfaaaGreatDoorKq12
import Derived.Test.YtlgneiaenanfaaaGreatDoorKq13
namespace Go.Proofs.YtlgneiaenanfaaaGreatDoor
open Go.RowKit
set_option linter.unusedVariables false
set_option linter.unusedSimpArgs false
set_option maxRecDepth 100000
set_option maxHeartbeats 64000000
section
set_option maxRecDepth 100000
theorem frame192 (a : Act) (hd : a.defers = []) (hs : a.tmps.size = 192) : ∃ u : Nat → Value, (∀ i, u i = a.tmps.getD i undef) ∧ a = { tmps := #[u 0, u 1, u 2, u 3, u 4, u 5, u 6, u 7, u 8, u 9, u 10, u 11, u 12, u 13, u 14, u 15, u 16, u 17, u 18, u 19, u 20, u 21, u 22, u 23, u 24, u 25, u 26, u 27, u 28, u 29, u 30, u 31, u 32, u 33, u 34, u 35, u 36, u 37, u 38, u 39, u 40, u 41, u 42, u 43, u 44, u 45, u 46, u 47, u 48, u 49, u 50, u 51, u 52, u 53, u 54, u 55, u 56, u 57, u 58, u 59, u 60, u 61, u 62, u 63, u 64, u 65, u 66, u 67, u 68, u 69, u 70, u 71, u 72, u 73, u 74, u 75, u 76, u 77, u 78, u 79, u 80, u 81, u 82, u 83, u 84, u 85, u 86, u 87, u 88, u 89, u 90, u 91, u 92, u 93, u 94, u 95, u 96, u 97, u 98, u 99, u 100, u 101, u 102, u 103, u 104, u 105, u 106, u 107, u 108, u 109, u 110, u 111, u 112, u 113, u 114, u 115, u 116, u 117, u 118, u 119, u 120, u 121, u 122, u 123, u 124, u 125, u 126, u 127, u 128, u 129, u 130, u 131, u 132, u 133, u 134, u 135, u 136, u 137, u 138, u 139, u 140, u 141, u 142, u 143, u 144, u 145, u 146, u 147, u 148, u 149, u 150, u 151, u 152, u 153, u 154, u 155, u 156, u 157, u 158, u 159, u 160, u 161, u 162, u 163, u 164, u 165, u 166, u 167, u 168, u 169, u 170, u 171, u 172, u 173, u 174, u 175, u 176, u 177, u 178, u 179, u 180, u 181, u 182, u 183, u 184, u 185, u 186, u 187, u 188, u 189, u 190, u 191], defers := [] } := by
 refine ⟨fun i => a.tmps.getD i undef, fun _ => rfl, ?_⟩
 obtain ⟨t, d⟩ := a
 simp only at hd hs
 subst hd
 congr 1
 have e : t = ((List.range 192).map fun i => t.getD i undef).toArray := by
  apply Array.ext
  ·simp [hs]
  ·intro i h1 h2
   simp [Array.getD, h1]
 exact e.trans (by kernel_rfl)
def HV (F x N D : Nat) (m : Nat) (E : Int) : Prop := ∃ n d, 0 < d ∧ HR N D n d (E + x) ∧ stk n d = m
theorem HV.half {F x N D m : Nat} {E : Int} (h : HV F x N D m E) : HV F x N D (m / 2 ||| m % 2) (E + 1) := by
 obtain ⟨n, d, hd, h1, h2⟩ := h
 refine ⟨n, 2 * d, by omega, ?_, ?_⟩
 ·have := h1.half
  rwa [show E + (x : Int) + 1 = E + 1 + (x : Int) by omega] at this
 ·rw [← h2, half_or n d hd]
theorem half_lt {m k : Nat} (h : m < 2 ^ (k + 1)) : m / 2 ||| m % 2 < 2 ^ k ∨ k = 0 := by
 by_cases hk : k = 0
 ·exact Or.inr hk
 ·left
  have h2 : 2 ≤ 2 ^ k := by
   calc 2 = 2 ^ 1 := rfl
    _ ≤ 2 ^ k := Nat.pow_le_pow_right (by decide) (by omega)
  exact Nat.or_lt_two_pow (by rw [Nat.pow_succ] at h; omega) (by omega)
theorem half_ge (m : Nat) : m / 2 ≤ m / 2 ||| m % 2 := Nat.left_le_or
theorem half_less {m : Nat} (h : 2 ≤ m) : m / 2 ||| m % 2 < m := by
 have := or_half m
 rw [this]
 split <;> omega
theorem or_half_i (m : Nat) (h : m < 18446744073709551616) : bits .or .u64 ((m : Int) / 2) ((m % 2 : Nat) : Int) = ((m / 2 ||| m % 2 : Nat) : Int) := by
 rw [show (m : Int) / 2 = ((m / 2 : Nat) : Int) by omega, u64_or_nat _ _ (by omega) (by omega)]
theorem and3 (m : Nat) (h : m < 18446744073709551616) : bits .and .u64 (m : Int) 3 = ((m % 4 : Nat) : Int) := by
 have h := u64_and_nat m 3 h (by decide)
 rw [show ((3 : Nat) : Int) = 3 from rfl] at h
 rw [h, show (3 : Nat) = 2 ^ 2 - 1 from rfl, Nat.and_two_pow_sub_one_eq_mod]
theorem round_bits (m : Nat) : ((m % 4 ||| m / 4 % 2) = 3 ∧ rnd4 m = m / 4 + 1) ∨ ((m % 4 ||| m / 4 % 2) ≠ 3 ∧ rnd4 m = m / 4) := by
 have h1 : m % 4 = 0 ∨ m % 4 = 1 ∨ m % 4 = 2 ∨ m % 4 = 3 := by omega
 have h2 : m / 4 % 2 = 0 ∨ m / 4 % 2 = 1 := by omega
 unfold rnd4
 rcases h1 with h | h | h | h <;> rcases h2 with k | k <;> rw [h, k]
 all_goals first | (left; refine ⟨rfl, ?_⟩; omega) | (right; refine ⟨by decide, ?_⟩; omega)
theorem stk_zero {n d : Nat} (hd : 0 < d) (h : stk n d = 0) : n = 0 := by
 unfold stk at h
 have h1 := (Nat.or_eq_zero_iff.1 h).1
 have h2 := (Nat.or_eq_zero_iff.1 h).2
 by_cases h3 : n % d = 0
 ·have := Nat.div_add_mod n d
  rw [h1, h3] at this
  simp at this
  exact this.symm
 ·rw [if_neg h3] at h2; cases h2
def HE (F x : Nat) (b m : Nat) (E : Int) : Prop := (m < 2 ^ F ∧ b = m) ∨ (2 ^ F ≤ m ∧ m < 2 * 2 ^ F ∧ -(x : Int) ≤ E ∧ (b : Int) = (E + x) * ((2 ^ F : Nat) : Int) + m)
theorem HV.out {F x N D m : Nat} {E : Int} (hF : 1 ≤ F) (hD : 0 < D) (h : HV F x N D m E) (h8 : m < 8 * 2 ^ F) (hl : m = 0 ∨ 4 * 2 ^ F ≤ m ∨ E ≤ -(x : Int) - 2) (he : m ≤ 1 ∨ -(x : Int) - 2 ≤ E) :
  (rnd4 m ≠ 2 * 2 ^ F → HE F x (nr F N D) (rnd4 m) (E + 2)) ∧ (rnd4 m = 2 * 2 ^ F → HE F x (nr F N D) (2 ^ F) (E + 3)) := by
 obtain ⟨n, d, hd, h1, h2⟩ := h
 have hp : 0 < 2 ^ F := Nat.pow_pos (by decide)
 by_cases hlow : E < -(x : Int) - 2
 ·have hm1 : m ≤ 1 := by omega
  have hr0 : rnd4 m = 0 := by unfold rnd4; omega
  have hn : nr F N D = 0 := by
   refine nr_eq hD (hex_zero (F := F) (c := (-(E + (x : Int))).toNat) hd hD h2 ?_ hm1 (by omega))
   unfold HR at h1
   rw [show (E + (x : Int)).toNat = 0 by omega, Nat.pow_zero, Nat.mul_one] at h1
   exact h1
  rw [hr0, hn]
  exact ⟨fun _ => Or.inl ⟨hp, rfl⟩, fun e => by omega⟩
 ·by_cases h0 : m = 0
  ·have hr0 : rnd4 m = 0 := by unfold rnd4; omega
   have hn0 := stk_zero hd (h2.trans h0)
   have hn : nr F N D = 0 := by
    have hN : N = 0 := by
     unfold HR at h1
     rw [hn0, Nat.zero_mul, Nat.zero_mul] at h1
     rcases Nat.mul_eq_zero.1 h1 with h3 | h3
     ·rcases Nat.mul_eq_zero.1 h3 with h4 | h4
      ·exact h4
      ·omega
     ·have : 0 < 2 ^ (-(E + (x : Int))).toNat := Nat.pow_pos (by decide)
      omega
    rw [hN, nr_zero _ _ hD]
   rw [hr0, hn]
   exact ⟨fun _ => Or.inl ⟨hp, rfl⟩, fun e => by omega⟩
  ·obtain ⟨K, hK⟩ : ∃ K : Nat, (K : Int) = E + x + 2 := ⟨(E + x + 2).toNat, by omega⟩
   have hn : nr F N D = K * 2 ^ F + rnd4 m := nr_eq hD (hex_near hF hd hD h2 (by rw [show (K : Int) - 2 = E + x by omega]; exact h1) h8 (by omega))
   rw [hn]
   have hm8 : rnd4 m ≤ 2 * 2 ^ F := by unfold rnd4; omega
   constructor
   ·intro hne
    by_cases hs : rnd4 m < 2 ^ F
    ·have hK0 : K = 0 := by
      apply Classical.byContradiction
      intro hc
      have : 4 * 2 ^ F ≤ m := by omega
      unfold rnd4 at hs
      omega
     exact Or.inl ⟨hs, by rw [hK0]; omega⟩
    ·refine Or.inr ⟨by omega, by omega, by omega, ?_⟩
     rw [Int.natCast_add, Int.natCast_mul, show E + 2 + (x : Int) = (K : Int) by omega]
   ·intro heq
    refine Or.inr ⟨by omega, by omega, by omega, ?_⟩
    rw [Int.natCast_add, Int.natCast_mul, heq, show E + 3 + (x : Int) = (K : Int) + 1 by omega, Int.add_mul]
    omega
theorem or_sum (F x e : Nat) (hx : x < 2 ^ F) (h : x + e * 2 ^ F < 18446744073709551616) : bits .or .u64 (x : Int) ((e * 2 ^ F : Nat) : Int) = ((x + e * 2 ^ F : Nat) : Int) := by
 rw [u64_or_nat _ _ (by omega) (by omega)]
 refine congrArg Int.ofNat ?_
 have h2 := Nat.two_pow_add_eq_or_of_lt (i := F) (b := x) hx e
 rw [Nat.or_comm, Nat.mul_comm e, ← h2, Nat.add_comm]
theorem and_low (F x : Nat) (hx : x < 18446744073709551616) (hF : F ≤ 63) : bits .and .u64 (x : Int) ((2 ^ F - 1 : Nat) : Int) = ((x % 2 ^ F : Nat) : Int) := by
 have hp : 2 ^ F < 18446744073709551616 := Nat.lt_of_le_of_lt (Nat.pow_le_pow_right (by decide) hF) (by decide)
 have h := u64_and_nat x (2 ^ F - 1) hx (by omega)
 rw [h, Nat.and_two_pow_sub_one_eq_mod]
def LA (F x N D : Nat) (tr : Bool) (E0 : Int) (w : World) (a b : Value) (wr : World) : Prop := ∃ (m j : Nat) (E : Int), a = .int .u64 m ∧ b = .int .i64 E ∧ Hid ((∃ n d, 0 < d ∧ HR N D n d (E + x) ∧ stk n d = (if tr then m ||| 1 else m) ∧ (tr = false → n = m ∧ d = 1)) ∧ (tr = true → 1152921504606846976 ≤ m) ∧ m < 18446744073709551616 ∧ E = E0 - j ∧ (m = 0 → j = 0) ∧ (m ≠ 0 → 2 ^ j ≤ m)) ∧ wr = w.drew
def LB (F x N D : Nat) (E0 : Int) (w : World) (a b : Value) (wr : World) : Prop := ∃ (m j : Nat) (E : Int), a = .int .u64 m ∧ b = .int .i64 E ∧ Hid (HV F x N D m E ∧ m < 2 ^ (64 - j) ∧ j ≤ 63 ∧ E = E0 + j ∧ (m = 0 ∨ 4 * 2 ^ F ≤ m)) ∧ wr = w.drew
def LC (F x N D : Nat) (w : World) (a b : Value) (wr : World) : Prop := ∃ (m : Nat) (E : Int), a = .int .u64 m ∧ b = .int .i64 E ∧ Hid (HV F x N D m E ∧ m < 8 * 2 ^ F ∧ (m = 0 ∨ 4 * 2 ^ F ≤ m ∨ E ≤ -(x : Int) - 2) ∧ -400000 ≤ E ∧ E ≤ 400000) ∧ wr = w.drew
theorem wide_of (neg : Bool) (b : Nat) : ∃ y, Wd (sg32 neg + min b 2139095040) y := by
 obtain ⟨y, hy⟩ := wide_word neg (min b 2139095040) (by omega)
 refine ⟨y, ?_⟩
 rw [word32] at hy
 exact hy
theorem info232 : ∃ j, Tryz.prog.info? 232 = some j ∧ j.size ≠ 0 := by
 have h : ((Tryz.prog.info? 232).map fun j => j.size != 0) = some true := by kernel_rfl
 cases hc : Tryz.prog.info? 232 with
 | none => rw [hc] at h; cases h
 | some j =>
  rw [hc] at h
  simp at h
  exact ⟨j, rfl, h⟩
def Bq (w : World) (q : Nat) (cs : Array Value) : Prop := ∃ t, Bx w q cs t
theorem Bq.cell {w : World} {q : Nat} {cs : Array Value} (h : Bq w q cs) (i : Nat) : w.cell? ⟨q, i, none⟩ = cs[i]? := by
 obtain ⟨t, h⟩ := h
 exact h.cell i
def Inf (w : World) : Prop := Bq w 7 #[.int .u64 52, .int .u64 11, .int .i64 (-1023)] ∧ Bq w 6 #[.int .u64 23, .int .u64 8, .int .i64 (-127)]
def HX64 (neg : Bool) (b : Nat) (e : Ending) : Prop := e = .returned (.tuple #[.float .f64 (sg64 neg + min b 9218868437227405312), if 9218868437227405312 ≤ b then .iface 144 (.int .i64 1) else .nilIface])
def HX32 (neg : Bool) (b : Nat) (e : Ending) : Prop := ∃ y, Wd (sg32 neg + min b 2139095040) y ∧ e = .returned (.tuple #[.float .f64 y, if 2139095040 ≤ b then .iface 144 (.int .i64 1) else .nilIface])
theorem hx64_intro (neg : Bool) (b X : Nat) (I : Value) (hX : X = sg64 neg + min b 9218868437227405312) (hI : I = if 9218868437227405312 ≤ b then Value.iface 144 (.int .i64 1) else .nilIface) : HX64 neg b (.returned (.tuple #[.float .f64 X, I])) := by
 unfold HX64
 rw [hX, hI]
theorem hx32_intro (neg : Bool) (b X y : Nat) (I : Value) (hw : Wd X y) (hX : X = sg32 neg + min b 2139095040) (hI : I = if 2139095040 ≤ b then Value.iface 144 (.int .i64 1) else .nilIface) : HX32 neg b (.returned (.tuple #[.float .f64 y, I])) := by
 refine ⟨y, ?_, ?_⟩
 ·rw [← hX]; exact hw
 ·rw [hI]
theorem hex195_64 (s0 : ByteArray) (m : Nat) (e : Int) (neg tr : Bool) (N D : Nat) (hD : 0 < D) (hs : ∃ n d, 0 < d ∧ HR N D n d (e + (1074 : Nat)) ∧ stk n d = (if tr then m ||| 1 else m) ∧ (tr = false → n = m ∧ d = 1) ∧ True) (hbig : tr = true → 1152921504606846976 ≤ m) (hm : m < 18446744073709551616) (he : -300000 ≤ e ∧ e ≤ 300000) (w : World) (hw : Inf w) :
  Calls Tryz.prog 195 #[.string s0, .pointer (some ⟨7, 0, none⟩), .int .u64 m, .int .i64 e, .bool neg, .bool tr] w fun e' w' => HX64 neg (nr 52 N D) e' ∧ Below w.heap.size w w' := by
 have hbx := hid hw
 have c0 := (hw.1).cell 0
 have c1 := (hw.1).cell 1
 have c2 := (hw.1).cell 2
 simp at c0 c1 c2
 clear hw
 obtain ⟨b, hb⟩ : ∃ b, b = nr 52 N D := ⟨_, rfl⟩
 rw [← hb]
 replace hb := hid hb
 replace hs := hid hs
 replace hbig := hid hbig
 replace hm := hid hm
 go_enter Tryz.func195, Tryz.ntmps195
 refine wp_seq_k fun K1 h1 => ?_
 have h1' := hid h1
 clear h1
 go_wp2_with fail
 refine h1'.out _ _ ?_
 clear h1'
 refine wp_seq_k fun K1 h1 => ?_
 have h1' := hid h1
 clear h1
 go_wp2_with fail
 go_region
 refine h1'.out _ _ ?_
 clear h1'
 refine wp_seq_k fun K1 h1 => ?_
 have h1' := hid h1
 clear h1
 go_wp2_with fail
 refine h1'.out _ _ ?_
 clear h1'
 refine wp_seq_k fun K1 h1 => ?_
 have h1' := hid h1
 clear h1
 go_wp2_with fail
 refine h1'.out _ _ ?_
 clear h1'
 refine cut_seq (fun a' w' => ∃ (m : Nat) (E : Int), Hid ((∃ n d, 0 < d ∧ HR N D n d (E + (1022 : Nat)) ∧ stk n d = (if tr then m ||| 1 else m)) ∧ m < 18446744073709551616 ∧ (m = 0 ∨ 4 * 2 ^ 52 ≤ m) ∧ (tr = true → 1152921504606846976 ≤ m)) ∧ (-350000 ≤ E ∧ E ≤ 350000) ∧ a'.defers = [] ∧ a'.tmps.size = 192 ∧ a'.tmps.getD 0 undef = .string s0 ∧ a'.tmps.getD 1 undef = .pointer (some ⟨7, 0, none⟩) ∧ a'.tmps.getD 2 undef = .int .u64 m ∧ a'.tmps.getD 3 undef = .int .i64 E ∧ a'.tmps.getD 4 undef = .bool neg ∧ a'.tmps.getD 5 undef = .bool tr ∧ a'.tmps.getD 12 undef = .float .f64 0 ∧ a'.tmps.getD 13 undef = .nilIface ∧ a'.tmps.getD 14 undef = .int .i64 1023 ∧ a'.tmps.getD 15 undef = .int .i64 (-1022) ∧ w' = w.drew) ?h1 ?h2
 case h1 =>
  intro K hK
  have hK' := hid hK
  clear hK
  go_wp2_with fail
  go_loopw [2, 3] (fun a b wr => LA 52 1022 N D tr (e + 52) w a b wr) (fun a _ _ => 4 * 2 ^ 52 - (intOf a).toNat)
  case atStart => exact ⟨m, 0, e + 52, rfl, rfl, hid ⟨by
   obtain ⟨n, d, h1, h2, h3, h4, _⟩ := hs.out
   exact ⟨n, d, h1, by rw [show e + 52 + ((1022 : Nat) : Int) = e + ((1074 : Nat) : Int) by omega]; exact h2, h3, h4⟩, hbig.out, hm.out, by omega, fun _ => rfl, fun h => by rw [Nat.pow_zero]; omega⟩, rfl⟩
  case round =>
   obtain ⟨m2, j, E, rfl, rfl, hV, rfl⟩ := hrel
   have hj : j < 64 := by
    obtain ⟨_, _, h3, _, h5, h6⟩ := hV.out
    by_cases h0 : m2 = 0
    ·have := h5 h0; omega
    ·have := h6 h0
     apply Classical.byContradiction
     intro hc
     have h7 : 2 ^ 64 ≤ 2 ^ j := Nat.pow_le_pow_right (by decide) (by omega)
     have h8 : (2 : Nat) ^ 64 = 18446744073709551616 := by decide
     omega
   have hEb : -350000 ≤ E ∧ E ≤ 350000 := by have := hV.out.2.2.2.1; omega
   have hE1 := hEb.1
   have hE2 := hEb.2
   by_cases h0 : m2 = 0
   ·subst h0
    have hfin : Hid (((∃ n d, 0 < d ∧ HR N D n d (E + (1022 : Nat)) ∧ stk n d = (if tr then 0 ||| 1 else 0)) ∧ 0 < 18446744073709551616 ∧ (0 = 0 ∨ 4 * 2 ^ 52 ≤ 0) ∧ (tr = true → 1152921504606846976 ≤ 0))) := hid (by
     obtain ⟨⟨n, d, h1, h2, h3, h4⟩, h5, h6, _⟩ := hV.out
     exact ⟨⟨n, d, h1, h2, h3⟩, by decide, Or.inl rfl, h5⟩)
    clear hj
    go_wp2_with fail
    exact hK'.out _ _ ⟨0, E, (by first | exact hfin | simpa using hfin), hEb, rfl, rfl, rfl, rfl, rfl, rfl, rfl, rfl, rfl, rfl, rfl, rfl, rfl⟩
   ·by_cases hlt : m2 < 18014398509481984
    ·have htr : tr = false := by
      cases htr : tr
      ·rfl
      ·have := hV.out.2.1 htr
       omega
     have hfin : ∀ a : Int, a = ((2 * m2 : Nat) : Int) → LA 52 1022 N D tr (e + 52) w (.int .u64 a) (.int .i64 (E - 1)) w.drew := by
      intro a ha
      obtain ⟨⟨n, d, h1, h2, h3, h4⟩, h5, h6, h7, h8, h9⟩ := hV.out
      obtain ⟨rfl, rfl⟩ := h4 htr
      refine ⟨2 * n, j + 1, E - 1, by rw [ha], rfl, hid ⟨⟨2 * n, 1, h1, ?_, ?_, fun _ => ⟨rfl, rfl⟩⟩, fun e2 => Bool.noConfusion (htr.symm.trans e2), by omega, by omega, fun e2 => by omega, fun _ => ?_⟩, rfl⟩
      ·have := h2.dbl
       rwa [show E + ((1022 : Nat) : Int) - 1 = E - 1 + ((1022 : Nat) : Int) by omega] at this
      ·rw [htr, stk_one]; rfl
      ·have := h9 h0
       rw [Nat.pow_succ]; omega
     replace hfin := hid hfin
     replace htr := hid htr
     obtain ⟨mi, hmi⟩ : ∃ mi : Int, mi = (m2 : Int) := ⟨_, rfl⟩
     rw [← hmi]
     have hmb : 0 < mi ∧ mi < 18014398509481984 := by omega
     have hm0 : (mi == 0) = false := bne_of (by omega)
     have hmd : mi / 18014398509481984 = 0 := by omega
     have hm1 := hmb.1
     have hm2 := hmb.2
     have hlt' := hid hlt
     have h0' := hid h0
     replace hmi := hid hmi
     clear hj hlt h0 hmb
     go_wp2_with fail
     go_roundw
     case rel => exact hfin.out _ (by have := hmi.out; omega)
     case measure => simp [intOf]; have := hlt'.out; have := hmi.out; omega
    ·have hfin : Hid (((∃ n d, 0 < d ∧ HR N D n d (E + (1022 : Nat)) ∧ stk n d = (if tr then m2 ||| 1 else m2)) ∧ m2 < 18446744073709551616 ∧ (m2 = 0 ∨ 4 * 2 ^ 52 ≤ m2) ∧ (tr = true → 1152921504606846976 ≤ m2))) := hid (by
      obtain ⟨⟨n, d, h1, h2, h3, h4⟩, h5, h6, _⟩ := hV.out
      exact ⟨⟨n, d, h1, h2, h3⟩, h6, Or.inr (by omega), h5⟩)
     obtain ⟨mi, hmi⟩ : ∃ mi : Int, mi = (m2 : Int) := ⟨_, rfl⟩
     rw [← hmi]
     have hm0 : (mi == 0) = false := bne_of (by omega)
     have hmd : (mi / 18014398509481984 == 0) = false := bne_of (by omega)
     have hm1 : 0 < mi := by omega
     replace hmi := hid hmi
     clear hj hlt h0
     go_wp2_with fail
     exact hK'.out _ _ ⟨m2, E, hfin, hEb, rfl, rfl, rfl, rfl, (by first | rfl | exact val_int hmi.out), rfl, rfl, rfl, rfl, rfl, rfl, rfl, rfl⟩
 case h2 =>
  rintro a w0 ⟨m, E, hP, hEb, hd0, hz0, f0, f1, f2, f3, f4, f5, f12, f13, f14, f15, rfl⟩
  obtain ⟨u, hu, ha⟩ := frame192 a hd0 hz0
  rw [(hu 0).trans f0, (hu 1).trans f1, (hu 2).trans f2, (hu 3).trans f3, (hu 4).trans f4, (hu 5).trans f5, (hu 12).trans f12, (hu 13).trans f13, (hu 14).trans f14, (hu 15).trans f15] at ha
  clear f0 f1 f2 f3 f4 f5 f12 f13 f14 f15 hu hd0 hz0
  subst ha
  refine cut_seq (fun a' w' => ∃ (m : Nat) (E : Int), Hid (HV 52 1022 N D m E ∧ m < 18446744073709551616 ∧ (m = 0 ∨ 4 * 2 ^ 52 ≤ m)) ∧ (-350000 ≤ E ∧ E ≤ 350000) ∧ a'.defers = [] ∧ a'.tmps.size = 192 ∧ a'.tmps.getD 0 undef = .string s0 ∧ a'.tmps.getD 1 undef = .pointer (some ⟨7, 0, none⟩) ∧ a'.tmps.getD 2 undef = .int .u64 m ∧ a'.tmps.getD 3 undef = .int .i64 E ∧ a'.tmps.getD 4 undef = .bool neg ∧ a'.tmps.getD 5 undef = .bool tr ∧ a'.tmps.getD 12 undef = .float .f64 0 ∧ a'.tmps.getD 13 undef = .nilIface ∧ a'.tmps.getD 14 undef = .int .i64 1023 ∧ a'.tmps.getD 15 undef = .int .i64 (-1022) ∧ w' = w.drew) ?h1 ?h2
  case h1 =>
   intro K hK
   have hK' := hid hK
   clear hK
   have hE1 := hEb.1
   have hE2 := hEb.2
   cases tr
   ·have hfin : Hid (HV 52 1022 N D m E ∧ m < 18446744073709551616 ∧ (m = 0 ∨ 4 * 2 ^ 52 ≤ m)) := hid (by
     obtain ⟨h1, h2, h3, h4⟩ := hP.out
     exact ⟨h1, h2, h3⟩)
    go_wp2_with fail
    exact hK'.out _ _ ⟨m, E, hfin, hEb, rfl, rfl, rfl, rfl, rfl, rfl, rfl, rfl, rfl, rfl, rfl, rfl, rfl⟩
   ·have hfin : Hid (HV 52 1022 N D (m ||| 1) E ∧ (m ||| 1) < 18446744073709551616 ∧ ((m ||| 1) = 0 ∨ 4 * 2 ^ 52 ≤ (m ||| 1))) := hid (by
     obtain ⟨h1, h2, h3, h4⟩ := hP.out
     refine ⟨h1, Nat.or_lt_two_pow (n := 64) h2 (by decide), Or.inr ?_⟩
     have := h4 rfl
     have h5 : m ≤ m ||| 1 := Nat.left_le_or
     omega)
    have hor : bits .or .u64 (m : Int) 1 = ((m ||| 1 : Nat) : Int) := by
     have h := u64_or_nat m 1 hP.out.2.1 (by decide)
     rwa [show ((1 : Nat) : Int) = 1 from rfl] at h
    obtain ⟨mo, hmo⟩ : ∃ mo, mo = m ||| 1 := ⟨_, rfl⟩
    rw [← hmo] at hfin hor
    clear hmo
    go_wp2_with fail
    exact hK'.out _ _ ⟨mo, E, hfin, hEb, rfl, rfl, rfl, rfl, rfl, rfl, rfl, rfl, rfl, rfl, rfl, rfl, rfl⟩
  case h2 =>
   rintro a w0 ⟨m, E, hP, hEb, hd0, hz0, f0, f1, f2, f3, f4, f5, f12, f13, f14, f15, rfl⟩
   obtain ⟨u, hu, ha⟩ := frame192 a hd0 hz0
   rw [(hu 0).trans f0, (hu 1).trans f1, (hu 2).trans f2, (hu 3).trans f3, (hu 4).trans f4, (hu 5).trans f5, (hu 12).trans f12, (hu 13).trans f13, (hu 14).trans f14, (hu 15).trans f15] at ha
   clear f0 f1 f2 f3 f4 f5 f12 f13 f14 f15 hu hd0 hz0
   subst ha
   refine cut_seq (fun a' w' => ∃ (m : Nat) (E : Int), Hid (HV 52 1022 N D m E ∧ m < 8 * 2 ^ 52 ∧ (m = 0 ∨ 4 * 2 ^ 52 ≤ m)) ∧ (-390000 ≤ E ∧ E ≤ 390000) ∧ a'.defers = [] ∧ a'.tmps.size = 192 ∧ a'.tmps.getD 0 undef = .string s0 ∧ a'.tmps.getD 1 undef = .pointer (some ⟨7, 0, none⟩) ∧ a'.tmps.getD 2 undef = .int .u64 m ∧ a'.tmps.getD 3 undef = .int .i64 E ∧ a'.tmps.getD 4 undef = .bool neg ∧ a'.tmps.getD 5 undef = .bool tr ∧ a'.tmps.getD 12 undef = .float .f64 0 ∧ a'.tmps.getD 13 undef = .nilIface ∧ a'.tmps.getD 14 undef = .int .i64 1023 ∧ a'.tmps.getD 15 undef = .int .i64 (-1022) ∧ w' = w.drew) ?h1 ?h2
   case h1 =>
    intro K hK
    have hK' := hid hK
    clear hK
    go_wp2_with fail
    go_loopw [2, 3] (fun a b wr => LB 52 1022 N D E w a b wr) (fun a _ _ => (intOf a).toNat)
    case atStart => exact ⟨m, 0, E, rfl, rfl, hid ⟨hP.out.1, hP.out.2.1, by omega, by omega, hP.out.2.2⟩, rfl⟩
    case round =>
     obtain ⟨m2, j, E2, rfl, rfl, hV, rfl⟩ := hrel
     have hEb2 : -390000 ≤ E2 ∧ E2 ≤ 390000 := by have := hV.out.2.2.2.1; have := hV.out.2.2.1; omega
     have hE1 := hEb2.1
     have hE2 := hEb2.2
     have hb64 : m2 < 18446744073709551616 := by
      have h1 := hV.out.2.1
      have h7 : 2 ^ (64 - j) ≤ 2 ^ 64 := Nat.pow_le_pow_right (by decide) (by omega)
      have h8 : (2 : Nat) ^ 64 = 18446744073709551616 := by decide
      omega
     by_cases hlt : m2 < 36028797018963968
     ·have hfin : Hid (HV 52 1022 N D m2 E2 ∧ m2 < 8 * 2 ^ 52 ∧ (m2 = 0 ∨ 4 * 2 ^ 52 ≤ m2)) := hid ⟨hV.out.1, by omega, hV.out.2.2.2.2⟩
      obtain ⟨mi, hmi⟩ : ∃ mi : Int, mi = (m2 : Int) := ⟨_, rfl⟩
      rw [← hmi]
      have hmd : mi / 36028797018963968 = 0 := by omega
      replace hmi := hid hmi
      clear hlt hb64
      go_wp2_with fail
      exact hK'.out _ _ ⟨m2, E2, hfin, hEb2, rfl, rfl, rfl, rfl, (by first | rfl | exact val_int hmi.out), rfl, rfl, rfl, rfl, rfl, rfl, rfl, rfl⟩
     ·have hfin : LB 52 1022 N D E w (.int .u64 ((m2 / 2 ||| m2 % 2 : Nat) : Int)) (.int .i64 (E2 + 1)) w.drew := by
       obtain ⟨h1, h2, h3, h4, h5⟩ := hV.out
       have hj : j < 9 := by
        apply Classical.byContradiction
        intro hc
        have h7 : 2 ^ (64 - j) ≤ 2 ^ 55 := Nat.pow_le_pow_right (by decide) (by omega)
        have h8 : (2 : Nat) ^ 55 = 36028797018963968 := by decide
        omega
       refine ⟨_, j + 1, E2 + 1, rfl, rfl, hid ⟨h1.half, ?_, by omega, by omega, Or.inr ?_⟩, rfl⟩
       ·rcases half_lt (k := 64 - (j + 1)) (m := m2) (by rw [show 64 - (j + 1) + 1 = 64 - j by omega]; exact h2) with h | h
        ·exact h
        ·omega
       ·have := half_ge m2
        omega
      have hless := half_less (m := m2) (by omega)
      have hor := or_half_i m2 hb64
      have ha1 := and1 m2 hb64
      obtain ⟨mo, hmo⟩ : ∃ mo, mo = m2 / 2 ||| m2 % 2 := ⟨_, rfl⟩
      obtain ⟨mp, hmp⟩ : ∃ mp, mp = m2 % 2 := ⟨_, rfl⟩
      rw [← hmo] at hfin hor hless
      rw [← hmp] at hor ha1
      replace hfin := hid hfin
      replace hless := hid hless
      obtain ⟨mi, hmi⟩ : ∃ mi : Int, mi = (m2 : Int) := ⟨_, rfl⟩
      rw [← hmi]
      have hmd : (mi / 36028797018963968 == 0) = false := bne_of (by omega)
      rw [← hmi] at hor ha1
      replace hmi := hid hmi
      clear hlt hb64 hmo hmp
      go_wp2_with fail
      go_roundw
      case rel => exact hfin.out
      case measure => simp [intOf]; have := hless.out; have := hmi.out; omega
   case h2 =>
    rintro a w0 ⟨m, E, hP, hEb, hd0, hz0, f0, f1, f2, f3, f4, f5, f12, f13, f14, f15, rfl⟩
    obtain ⟨u, hu, ha⟩ := frame192 a hd0 hz0
    rw [(hu 0).trans f0, (hu 1).trans f1, (hu 2).trans f2, (hu 3).trans f3, (hu 4).trans f4, (hu 5).trans f5, (hu 12).trans f12, (hu 13).trans f13, (hu 14).trans f14, (hu 15).trans f15] at ha
    clear f0 f1 f2 f3 f4 f5 f12 f13 f14 f15 hu hd0 hz0
    subst ha
    refine cut_seq (fun a' w' => ∃ (m : Nat) (E : Int), Hid (HV 52 1022 N D m E ∧ m < 8 * 2 ^ 52 ∧ (m = 0 ∨ 4 * 2 ^ 52 ≤ m ∨ E ≤ -((1022 : Nat) : Int) - 2) ∧ (m ≤ 1 ∨ -((1022 : Nat) : Int) - 2 ≤ E)) ∧ (-400000 ≤ E ∧ E ≤ 400000) ∧ a'.defers = [] ∧ a'.tmps.size = 192 ∧ a'.tmps.getD 0 undef = .string s0 ∧ a'.tmps.getD 1 undef = .pointer (some ⟨7, 0, none⟩) ∧ a'.tmps.getD 2 undef = .int .u64 m ∧ a'.tmps.getD 3 undef = .int .i64 E ∧ a'.tmps.getD 4 undef = .bool neg ∧ a'.tmps.getD 5 undef = .bool tr ∧ a'.tmps.getD 12 undef = .float .f64 0 ∧ a'.tmps.getD 13 undef = .nilIface ∧ a'.tmps.getD 14 undef = .int .i64 1023 ∧ a'.tmps.getD 15 undef = .int .i64 (-1022) ∧ w' = w.drew) ?h1 ?h2
    case h1 =>
     intro K hK
     have hK' := hid hK
     clear hK
     go_wp2_with fail
     go_loopw [2, 3] (fun a b wr => LC 52 1022 N D w a b wr) (fun a _ _ => (intOf a).toNat)
     case atStart => exact ⟨m, E, rfl, rfl, hid ⟨hP.out.1, hP.out.2.1, (by rcases hP.out.2.2 with h | h; exact Or.inl h; exact Or.inr (Or.inl h)), by omega, by omega⟩, rfl⟩
     case round =>
      obtain ⟨m2, E2, rfl, rfl, hV, rfl⟩ := hrel
      have hEb2 : -400000 ≤ E2 ∧ E2 ≤ 400000 := ⟨hV.out.2.2.2.1, hV.out.2.2.2.2⟩
      have hE1 := hEb2.1
      have hE2 := hEb2.2
      by_cases hlt : 1 < m2
      ·by_cases hEl : E2 < (-1024)
       ·have hb64 : m2 < 18446744073709551616 := by have := hV.out.2.1; omega
        have hfin : LC 52 1022 N D w (.int .u64 ((m2 / 2 ||| m2 % 2 : Nat) : Int)) (.int .i64 (E2 + 1)) w.drew := by
         obtain ⟨h1, h2, h3, h4⟩ := hV.out
         have := half_less (m := m2) (by omega)
         exact ⟨_, E2 + 1, rfl, rfl, hid ⟨h1.half, by omega, Or.inr (Or.inr (by omega)), by omega, by omega⟩, rfl⟩
        have hless := half_less (m := m2) (by omega)
        have hor := or_half_i m2 hb64
        have ha1 := and1 m2 hb64
        obtain ⟨mo, hmo⟩ : ∃ mo, mo = m2 / 2 ||| m2 % 2 := ⟨_, rfl⟩
        obtain ⟨mp, hmp⟩ : ∃ mp, mp = m2 % 2 := ⟨_, rfl⟩
        rw [← hmo] at hfin hor hless
        rw [← hmp] at hor ha1
        replace hfin := hid hfin
        replace hless := hid hless
        obtain ⟨mi, hmi⟩ : ∃ mi : Int, mi = (m2 : Int) := ⟨_, rfl⟩
        rw [← hmi]
        have hm1 : 1 < mi := by omega
        rw [← hmi] at hor ha1
        replace hmi := hid hmi
        clear hlt hb64 hmo hmp
        go_wp2_with fail
        go_roundw
        case rel => exact hfin.out
        case measure => simp [intOf]; have := hless.out; have := hmi.out; omega
       ·have hfin : Hid (HV 52 1022 N D m2 E2 ∧ m2 < 8 * 2 ^ 52 ∧ (m2 = 0 ∨ 4 * 2 ^ 52 ≤ m2 ∨ E2 ≤ -((1022 : Nat) : Int) - 2) ∧ (m2 ≤ 1 ∨ -((1022 : Nat) : Int) - 2 ≤ E2)) := hid ⟨hV.out.1, hV.out.2.1, hV.out.2.2.1, Or.inr (by omega)⟩
        obtain ⟨mi, hmi⟩ : ∃ mi : Int, mi = (m2 : Int) := ⟨_, rfl⟩
        rw [← hmi]
        have hm1 : 1 < mi := by omega
        replace hmi := hid hmi
        clear hlt
        go_wp2_with fail
        exact hK'.out _ _ ⟨m2, E2, hfin, hEb2, rfl, rfl, rfl, rfl, (by first | rfl | exact val_int hmi.out), rfl, rfl, rfl, rfl, rfl, rfl, rfl, rfl⟩
      ·have hfin : Hid (HV 52 1022 N D m2 E2 ∧ m2 < 8 * 2 ^ 52 ∧ (m2 = 0 ∨ 4 * 2 ^ 52 ≤ m2 ∨ E2 ≤ -((1022 : Nat) : Int) - 2) ∧ (m2 ≤ 1 ∨ -((1022 : Nat) : Int) - 2 ≤ E2)) := hid ⟨hV.out.1, hV.out.2.1, hV.out.2.2.1, Or.inl (by omega)⟩
       obtain ⟨mi, hmi⟩ : ∃ mi : Int, mi = (m2 : Int) := ⟨_, rfl⟩
       rw [← hmi]
       have hm1 : ¬ 1 < mi := by omega
       replace hmi := hid hmi
       clear hlt
       go_wp2_with fail
       exact hK'.out _ _ ⟨m2, E2, hfin, hEb2, rfl, rfl, rfl, rfl, (by first | rfl | exact val_int hmi.out), rfl, rfl, rfl, rfl, rfl, rfl, rfl, rfl⟩
    case h2 =>
     rintro a w0 ⟨m, E, hP, hEb, hd0, hz0, f0, f1, f2, f3, f4, f5, f12, f13, f14, f15, rfl⟩
     obtain ⟨u, hu, ha⟩ := frame192 a hd0 hz0
     rw [(hu 0).trans f0, (hu 1).trans f1, (hu 2).trans f2, (hu 3).trans f3, (hu 4).trans f4, (hu 5).trans f5, (hu 12).trans f12, (hu 13).trans f13, (hu 14).trans f14, (hu 15).trans f15] at ha
     clear f0 f1 f2 f3 f4 f5 f12 f13 f14 f15 hu hd0 hz0
     subst ha
     have hE1 := hEb.1
     have hE2 := hEb.2
     have hm64 : m < 18446744073709551616 := by have := hP.out.2.1; omega
     have hout := HV.out (by decide) hD hP.out.1 hP.out.2.1 hP.out.2.2.1 hP.out.2.2.2
     rw [← hb.out] at hout
     have hm8 := hP.out.2.1
     have ha3 := and3 m hm64
     have ha1 := and1 (m / 4) (by omega)
     have hor := u64_or_nat (m % 4) (m / 4 % 2) (by omega) (by omega)
     have hrb := round_bits m
     obtain ⟨rr, hrr⟩ : ∃ rr, rr = rnd4 m := ⟨_, rfl⟩
     obtain ⟨ro, hro⟩ : ∃ ro, ro = m % 4 ||| m / 4 % 2 := ⟨_, rfl⟩
     obtain ⟨qn, hqn⟩ : ∃ qn, qn = m / 4 := ⟨_, rfl⟩
     rw [← hrr] at hout hrb
     rw [← hro] at hor hrb
     rw [← hqn] at ha1 hor hrb
     obtain ⟨r1, hr1⟩ : ∃ r1, r1 = m % 4 := ⟨_, rfl⟩
     obtain ⟨r2, hr2⟩ : ∃ r2, r2 = qn % 2 := ⟨_, rfl⟩
     rw [← hr1] at ha3 hor
     rw [← hr2] at ha1 hor
     obtain ⟨mi, hmi⟩ : ∃ mi : Int, mi = (m : Int) := ⟨_, rfl⟩
     rw [← hmi] at ha3 ⊢
     have hq4 : mi / 4 = (qn : Int) := by omega
     have hqb : qn < 9007199254740992 := by omega
     have hmi0 : 0 ≤ mi := by omega
     obtain ⟨qi, hqi⟩ : ∃ qi : Int, qi = (qn : Int) := ⟨_, rfl⟩
     rw [← hqi] at hq4 ha1
     have hqi1 : 0 ≤ qi := by omega
     have hqi2 : qi < 9007199254740992 := by omega
     replace hqi := hid hqi
     replace hmi := hid hmi
     replace hout := hid hout
     clear hm64 hm8 hrr hro hqn hr1 hr2
     refine wp_seq_k fun K1 h1 => ?_
     have h1' := hid h1
     clear h1
     go_wp2_with fail
     refine h1'.out _ _ ?_
     clear h1'
     refine wp_seq_k fun K1 h1 => ?_
     have h1' := hid h1
     clear h1
     go_wp2_with fail
     refine h1'.out _ _ ?_
     clear h1'
     refine wp_seq_k fun K1 h1 => ?_
     have h1' := hid h1
     clear h1
     go_wp2_with fail
     refine h1'.out _ _ ?_
     clear h1'
     refine wp_seq_k fun K1 h1 => ?_
     have h1' := hid h1
     clear h1
     go_wp2_with fail
     refine h1'.out _ _ ?_
     clear h1'
     refine cut_seq (fun a' w' => ∃ (m : Nat) (E : Int), Hid (HE 52 1022 b m E) ∧ (-400100 ≤ E ∧ E ≤ 400100) ∧ a'.defers = [] ∧ a'.tmps.size = 192 ∧ a'.tmps.getD 0 undef = .string s0 ∧ a'.tmps.getD 1 undef = .pointer (some ⟨7, 0, none⟩) ∧ a'.tmps.getD 2 undef = .int .u64 m ∧ a'.tmps.getD 3 undef = .int .i64 E ∧ a'.tmps.getD 4 undef = .bool neg ∧ a'.tmps.getD 5 undef = .bool tr ∧ a'.tmps.getD 12 undef = .float .f64 0 ∧ a'.tmps.getD 13 undef = .nilIface ∧ a'.tmps.getD 14 undef = .int .i64 1023 ∧ a'.tmps.getD 15 undef = .int .i64 (-1022) ∧ w' = w.drew) ?h1 ?h2
     case h1 =>
      intro K hK
      have hK' := hid hK
      clear hK
      rcases hrb with ⟨h3, h4⟩ | ⟨h3, h4⟩
      ·subst h3
       by_cases hq : qn + 1 = 9007199254740992
       ·have hfin : Hid (HE 52 1022 b 4503599627370496 (E + 3)) := hid (hout.out.2 (by rw [h4, hq]))
        have hq2 : qi + 1 = 9007199254740992 := by have := hqi.out; omega
        have hqi3 : qi = 9007199254740991 := by omega
        subst hqi3
        clear hqi hq4 ha1 hq hqb
        go_wp2_with fail
        exact hK'.out _ _ ⟨4503599627370496, E + 3, hfin, by omega, rfl, rfl, rfl, rfl, (by first | rfl | exact val_int (by have := hqi.out; omega) | exact val_int (by omega)), (by first | rfl | exact val_int (by have := hqi.out; omega) | exact val_int (by omega)), rfl, rfl, rfl, rfl, rfl, rfl, rfl⟩
       ·have hfin : Hid (HE 52 1022 b (qn + 1) (E + 2)) := hid (by have := hout.out.1 (by rw [h4]; omega); rwa [h4] at this)
        have hq2 : (qi + 1 == 9007199254740992) = false := bne_of (by have := hqi.out; omega)
        clear hq hqb
        go_wp2_with fail
        exact hK'.out _ _ ⟨qn + 1, E + 2, hfin, by omega, rfl, rfl, rfl, rfl, (by first | rfl | exact val_int (by have := hqi.out; omega) | exact val_int (by omega)), (by first | rfl | exact val_int (by have := hqi.out; omega) | exact val_int (by omega)), rfl, rfl, rfl, rfl, rfl, rfl, rfl⟩
      ·have hfin : Hid (HE 52 1022 b qn (E + 2)) := hid (by have := hout.out.1 (by rw [h4]; omega); rwa [h4] at this)
       have hr3 : ((ro : Int) == 3) = false := bne_of (by omega)
       clear h3 hqb
       go_wp2_with fail
       exact hK'.out _ _ ⟨qn, E + 2, hfin, by omega, rfl, rfl, rfl, rfl, (by first | rfl | exact val_int (by have := hqi.out; omega) | exact val_int (by omega)), (by first | rfl | exact val_int (by have := hqi.out; omega) | exact val_int (by omega)), rfl, rfl, rfl, rfl, rfl, rfl, rfl⟩
     case h2 =>
      rintro a w0 ⟨m, E, hP, hEb, hd0, hz0, f0, f1, f2, f3, f4, f5, f12, f13, f14, f15, rfl⟩
      obtain ⟨u, hu, ha⟩ := frame192 a hd0 hz0
      rw [(hu 0).trans f0, (hu 1).trans f1, (hu 2).trans f2, (hu 3).trans f3, (hu 4).trans f4, (hu 5).trans f5, (hu 12).trans f12, (hu 13).trans f13, (hu 14).trans f14, (hu 15).trans f15] at ha
      clear f0 f1 f2 f3 f4 f5 f12 f13 f14 f15 hu hd0 hz0
      subst ha
      have hE1 := hEb.1
      have hE2 := hEb.2
      have k203 := call203
      have k197 := call197
      obtain ⟨j, hj1, hj2⟩ := info232
      obtain ⟨⟨t7, hb7⟩, ⟨t6, hb6⟩⟩ := hbx.out
      have hpq : ∀ w', w'.heap = w.heap → (binOp .eql 230 (.pointer (some ⟨7, 0, none⟩)) (.pointer (some ⟨6, 0, none⟩))).run Tryz.prog w' = .ok (.bool false) w' := fun w' hw' => run_eql_ptr_other w' (te := 232) (by kernel_rfl) hj1 hj2 (by intro h; cases h) (by rw [hw']; exact hb7) (by rw [hw']; exact hb6)
      clear hb7 hb6
      have hpq2 := hpq w.drew.drew rfl
      have hpq3 := hpq w.drew.drew.drew rfl
      clear hpq hj1 hj2
      clear hb hs hbig hm
      rcases hP.out with ⟨g1, g2⟩ | ⟨g1, g2, g3, g4⟩
      ·-- below the least normal number
       subst g2
       have hbb : min b 9218868437227405312 = b := Nat.min_eq_left (by omega)
       have hcmp : ¬ 9218868437227405312 ≤ b := by omega
       have hmd : (b : Int) / 4503599627370496 = 0 := by omega
       have han := and_low 52 b (by omega) (by decide)
       rw [show ((2 ^ 52 - 1 : Nat) : Int) = 4503599627370495 from rfl, Nat.mod_eq_of_lt g1] at han
       have h00 : bits .and .i64 0 2047 = 0 := by kernel_rfl
       have ho0 : bits .or .u64 (b : Int) 0 = (b : Int) := by
        have h := u64_or_nat b 0 (by omega) (by decide)
        simpa using h
       have hos := or_sum 63 b 1 (by omega) (by omega)
       rw [show (1 * 2 ^ 63 : Nat) = 9223372036854775808 by decide, show (((9223372036854775808 : Nat)) : Int) = 9223372036854775808 from rfl] at hos
       skip
       replace hbb := hid hbb
       replace hcmp := hid hcmp
       clear g1 hP
       simp only [Int.natCast_add] at hos
       cases neg
       ·go_wp2_with fail
        go_region
        go_wp2_with (first | rw [hpq2] | rw [hpq3])
        go_ret2
        exact ⟨hx64_intro _ _ _ _ (by rw [hbb.out]; simp [sg64]) (if_neg hcmp.out).symm, (Below.refl _ _).drew.drew⟩
       ·go_wp2_with fail
        go_region
        go_wp2_with fail
        go_region
        go_wp2_with (first | rw [hpq2] | rw [hpq3])
        go_ret2
        exact ⟨hx64_intro _ _ _ _ (by rw [hbb.out]; simp [sg64]; try omega) (if_neg hcmp.out).symm, (Below.refl _ _).drew.drew.drew⟩
      ·by_cases hov : 1023 < E
       ·-- too great
        have hcmp : 9218868437227405312 ≤ b := by omega
        have hbb : min b 9218868437227405312 = 9218868437227405312 := Nat.min_eq_right hcmp
        have hmd : ((m : Int) / 4503599627370496 == 0) = false := bne_of (by omega)
        have h01 : bits .and .u64 4503599627370496 4503599627370495 = 0 := by kernel_rfl
        have h02 : bits .and .i64 2047 2047 = 2047 := by kernel_rfl
        have h03 : bits .or .u64 0 9218868437227405312 = 9218868437227405312 := by kernel_rfl
        have h04 : bits .or .u64 9218868437227405312 9223372036854775808 = 18442240474082181120 := by kernel_rfl
        obtain ⟨mi, hmi⟩ : ∃ mi : Int, mi = (m : Int) := ⟨_, rfl⟩
        rw [← hmi] at hmd ⊢
        replace hmi := hid hmi
        replace hbb := hid hbb
        replace hcmp := hid hcmp
        clear g1 g2 g3 g4 hP
        cases neg
        ·go_wp2_with fail
         go_region
         go_wp2_with (first | rw [hpq2] | rw [hpq3])
         go_ret2
         exact ⟨hx64_intro _ _ _ _ (by rw [hbb.out]; simp [sg64]) (if_pos hcmp.out).symm, (Below.refl _ _).drew.drew⟩
        ·go_wp2_with fail
         go_region
         go_wp2_with fail
         go_region
         go_wp2_with (first | rw [hpq2] | rw [hpq3])
         go_ret2
         exact ⟨hx64_intro _ _ _ _ (by rw [hbb.out]; simp [sg64]; try omega) (if_pos hcmp.out).symm, (Below.refl _ _).drew.drew.drew⟩
       ·obtain ⟨z, hz⟩ : ∃ z : Nat, (z : Int) = E + 1023 := ⟨(E + 1023).toNat, by omega⟩
        have hz1 : z ≤ 2046 := by omega
        obtain ⟨mf, hmf⟩ : ∃ mf, mf = m - 4503599627370496 := ⟨_, rfl⟩
        have hbz : b = mf + z * 4503599627370496 := by
         have e1 : (z : Int) * 4503599627370496 = (E + ((1022 : Nat) : Int)) * ((2 ^ 52 : Nat) : Int) + 4503599627370496 := by
          rw [hz]
          have : ((2 ^ 52 : Nat) : Int) = 4503599627370496 := rfl
          rw [this]
          omega
         omega
        have hlt : b < 9218868437227405312 := by omega
        have hbb : min b 9218868437227405312 = b := Nat.min_eq_left (by omega)
        have hcmp : ¬ 9218868437227405312 ≤ b := by omega
        have hmd : ((m : Int) / 4503599627370496 == 0) = false := bne_of (by omega)
        have han := and_low 52 m (by omega) (by decide)
        rw [show ((2 ^ 52 - 1 : Nat) : Int) = 4503599627370495 from rfl, show m % 2 ^ 52 = mf by omega] at han
        have hza : bits .and .i64 (z : Int) 2047 = (z : Int) := by
         have h := bits_mask .i64 11 (by decide) (fun n a b => by rw [IntKind.wrap_i64]; omega) 11 (by decide) (z : Int) (by omega) (by omega)
         rw [show ((2 : Int) ^ 11 - 1) = 2047 from rfl, show ((2 : Int) ^ 11) = 2048 from rfl] at h
         rw [h]; omega
        have hor := or_sum 52 mf z (by omega) (by omega)
        rw [show z * 2 ^ 52 = z * 4503599627370496 from rfl, ← hbz] at hor
        simp only [Int.natCast_mul] at hor
        rw [show (((4503599627370496 : Nat)) : Int) = 4503599627370496 from rfl] at hor
        have hos := or_sum 63 b 1 (by omega) (by omega)
        rw [show (1 * 2 ^ 63 : Nat) = 9223372036854775808 by decide, show (((9223372036854775808 : Nat)) : Int) = 9223372036854775808 from rfl] at hos
        simp only [Int.natCast_add] at hos
        have hE3 : E = (z : Int) - 1023 := by omega
        have hz2 : (z : Int) ≤ 2046 := by omega
        have hz0 : 0 < z := by omega
        skip
        obtain ⟨mi, hmi⟩ : ∃ mi : Int, mi = (m : Int) := ⟨_, rfl⟩
        rw [← hmi] at hmd han ⊢
        subst hE3
        have hez : (z : Int) - 1023 + 1023 = (z : Int) := by omega
        have hez2 : (z : Int) - 1023 - -1023 = (z : Int) := by omega
        replace hmi := hid hmi
        replace hbb := hid hbb
        replace hcmp := hid hcmp
        replace hbz := hid hbz
        replace hmf := hid hmf
        clear g1 g2 g3 g4 hP hz hlt hz1 hov
        cases neg
        ·go_wp2_with fail
         go_region
         go_wp2_with (first | rw [hpq2] | rw [hpq3])
         go_ret2
         exact ⟨hx64_intro _ _ _ _ (by rw [hbb.out]; simp [sg64]) (if_neg hcmp.out).symm, (Below.refl _ _).drew.drew⟩
        ·go_wp2_with fail
         go_region
         go_wp2_with fail
         go_region
         go_wp2_with (first | rw [hpq2] | rw [hpq3])
         go_ret2
         exact ⟨hx64_intro _ _ _ _ (by rw [hbb.out]; simp [sg64]; try omega) (if_neg hcmp.out).symm, (Below.refl _ _).drew.drew.drew⟩
theorem hex195_32 (s0 : ByteArray) (m : Nat) (e : Int) (neg tr : Bool) (N D : Nat) (hD : 0 < D) (hs : ∃ n d, 0 < d ∧ HR N D n d (e + (149 : Nat)) ∧ stk n d = (if tr then m ||| 1 else m) ∧ (tr = false → n = m ∧ d = 1) ∧ True) (hbig : tr = true → 1152921504606846976 ≤ m) (hm : m < 18446744073709551616) (he : -300000 ≤ e ∧ e ≤ 300000) (w : World) (hw : Inf w) :
  Calls Tryz.prog 195 #[.string s0, .pointer (some ⟨6, 0, none⟩), .int .u64 m, .int .i64 e, .bool neg, .bool tr] w fun e' w' => HX32 neg (nr 23 N D) e' ∧ Below w.heap.size w w' := by
 have hbx := hid hw
 have c0 := (hw.2).cell 0
 have c1 := (hw.2).cell 1
 have c2 := (hw.2).cell 2
 simp at c0 c1 c2
 clear hw
 obtain ⟨b, hb⟩ : ∃ b, b = nr 23 N D := ⟨_, rfl⟩
 rw [← hb]
 replace hb := hid hb
 replace hs := hid hs
 replace hbig := hid hbig
 replace hm := hid hm
 go_enter Tryz.func195, Tryz.ntmps195
 refine wp_seq_k fun K1 h1 => ?_
 have h1' := hid h1
 clear h1
 go_wp2_with fail
 refine h1'.out _ _ ?_
 clear h1'
 refine wp_seq_k fun K1 h1 => ?_
 have h1' := hid h1
 clear h1
 go_wp2_with fail
 go_region
 refine h1'.out _ _ ?_
 clear h1'
 refine wp_seq_k fun K1 h1 => ?_
 have h1' := hid h1
 clear h1
 go_wp2_with fail
 refine h1'.out _ _ ?_
 clear h1'
 refine wp_seq_k fun K1 h1 => ?_
 have h1' := hid h1
 clear h1
 go_wp2_with fail
 refine h1'.out _ _ ?_
 clear h1'
 refine cut_seq (fun a' w' => ∃ (m : Nat) (E : Int), Hid ((∃ n d, 0 < d ∧ HR N D n d (E + (126 : Nat)) ∧ stk n d = (if tr then m ||| 1 else m)) ∧ m < 18446744073709551616 ∧ (m = 0 ∨ 4 * 2 ^ 23 ≤ m) ∧ (tr = true → 1152921504606846976 ≤ m)) ∧ (-350000 ≤ E ∧ E ≤ 350000) ∧ a'.defers = [] ∧ a'.tmps.size = 192 ∧ a'.tmps.getD 0 undef = .string s0 ∧ a'.tmps.getD 1 undef = .pointer (some ⟨6, 0, none⟩) ∧ a'.tmps.getD 2 undef = .int .u64 m ∧ a'.tmps.getD 3 undef = .int .i64 E ∧ a'.tmps.getD 4 undef = .bool neg ∧ a'.tmps.getD 5 undef = .bool tr ∧ a'.tmps.getD 12 undef = .float .f64 0 ∧ a'.tmps.getD 13 undef = .nilIface ∧ a'.tmps.getD 14 undef = .int .i64 127 ∧ a'.tmps.getD 15 undef = .int .i64 (-126) ∧ w' = w.drew) ?h1 ?h2
 case h1 =>
  intro K hK
  have hK' := hid hK
  clear hK
  go_wp2_with fail
  go_loopw [2, 3] (fun a b wr => LA 23 126 N D tr (e + 23) w a b wr) (fun a _ _ => 4 * 2 ^ 23 - (intOf a).toNat)
  case atStart => exact ⟨m, 0, e + 23, rfl, rfl, hid ⟨by
   obtain ⟨n, d, h1, h2, h3, h4, _⟩ := hs.out
   exact ⟨n, d, h1, by rw [show e + 23 + ((126 : Nat) : Int) = e + ((149 : Nat) : Int) by omega]; exact h2, h3, h4⟩, hbig.out, hm.out, by omega, fun _ => rfl, fun h => by rw [Nat.pow_zero]; omega⟩, rfl⟩
  case round =>
   obtain ⟨m2, j, E, rfl, rfl, hV, rfl⟩ := hrel
   have hj : j < 64 := by
    obtain ⟨_, _, h3, _, h5, h6⟩ := hV.out
    by_cases h0 : m2 = 0
    ·have := h5 h0; omega
    ·have := h6 h0
     apply Classical.byContradiction
     intro hc
     have h7 : 2 ^ 64 ≤ 2 ^ j := Nat.pow_le_pow_right (by decide) (by omega)
     have h8 : (2 : Nat) ^ 64 = 18446744073709551616 := by decide
     omega
   have hEb : -350000 ≤ E ∧ E ≤ 350000 := by have := hV.out.2.2.2.1; omega
   have hE1 := hEb.1
   have hE2 := hEb.2
   by_cases h0 : m2 = 0
   ·subst h0
    have hfin : Hid (((∃ n d, 0 < d ∧ HR N D n d (E + (126 : Nat)) ∧ stk n d = (if tr then 0 ||| 1 else 0)) ∧ 0 < 18446744073709551616 ∧ (0 = 0 ∨ 4 * 2 ^ 23 ≤ 0) ∧ (tr = true → 1152921504606846976 ≤ 0))) := hid (by
     obtain ⟨⟨n, d, h1, h2, h3, h4⟩, h5, h6, _⟩ := hV.out
     exact ⟨⟨n, d, h1, h2, h3⟩, by decide, Or.inl rfl, h5⟩)
    clear hj
    go_wp2_with fail
    exact hK'.out _ _ ⟨0, E, (by first | exact hfin | simpa using hfin), hEb, rfl, rfl, rfl, rfl, rfl, rfl, rfl, rfl, rfl, rfl, rfl, rfl, rfl⟩
   ·by_cases hlt : m2 < 33554432
    ·have htr : tr = false := by
      cases htr : tr
      ·rfl
      ·have := hV.out.2.1 htr
       omega
     have hfin : ∀ a : Int, a = ((2 * m2 : Nat) : Int) → LA 23 126 N D tr (e + 23) w (.int .u64 a) (.int .i64 (E - 1)) w.drew := by
      intro a ha
      obtain ⟨⟨n, d, h1, h2, h3, h4⟩, h5, h6, h7, h8, h9⟩ := hV.out
      obtain ⟨rfl, rfl⟩ := h4 htr
      refine ⟨2 * n, j + 1, E - 1, by rw [ha], rfl, hid ⟨⟨2 * n, 1, h1, ?_, ?_, fun _ => ⟨rfl, rfl⟩⟩, fun e2 => Bool.noConfusion (htr.symm.trans e2), by omega, by omega, fun e2 => by omega, fun _ => ?_⟩, rfl⟩
      ·have := h2.dbl
       rwa [show E + ((126 : Nat) : Int) - 1 = E - 1 + ((126 : Nat) : Int) by omega] at this
      ·rw [htr, stk_one]; rfl
      ·have := h9 h0
       rw [Nat.pow_succ]; omega
     replace hfin := hid hfin
     replace htr := hid htr
     obtain ⟨mi, hmi⟩ : ∃ mi : Int, mi = (m2 : Int) := ⟨_, rfl⟩
     rw [← hmi]
     have hmb : 0 < mi ∧ mi < 33554432 := by omega
     have hm0 : (mi == 0) = false := bne_of (by omega)
     have hmd : mi / 33554432 = 0 := by omega
     have hm1 := hmb.1
     have hm2 := hmb.2
     have hlt' := hid hlt
     have h0' := hid h0
     replace hmi := hid hmi
     clear hj hlt h0 hmb
     go_wp2_with fail
     go_roundw
     case rel => exact hfin.out _ (by have := hmi.out; omega)
     case measure => simp [intOf]; have := hlt'.out; have := hmi.out; omega
    ·have hfin : Hid (((∃ n d, 0 < d ∧ HR N D n d (E + (126 : Nat)) ∧ stk n d = (if tr then m2 ||| 1 else m2)) ∧ m2 < 18446744073709551616 ∧ (m2 = 0 ∨ 4 * 2 ^ 23 ≤ m2) ∧ (tr = true → 1152921504606846976 ≤ m2))) := hid (by
      obtain ⟨⟨n, d, h1, h2, h3, h4⟩, h5, h6, _⟩ := hV.out
      exact ⟨⟨n, d, h1, h2, h3⟩, h6, Or.inr (by omega), h5⟩)
     obtain ⟨mi, hmi⟩ : ∃ mi : Int, mi = (m2 : Int) := ⟨_, rfl⟩
     rw [← hmi]
     have hm0 : (mi == 0) = false := bne_of (by omega)
     have hmd : (mi / 33554432 == 0) = false := bne_of (by omega)
     have hm1 : 0 < mi := by omega
     replace hmi := hid hmi
     clear hj hlt h0
     go_wp2_with fail
     exact hK'.out _ _ ⟨m2, E, hfin, hEb, rfl, rfl, rfl, rfl, (by first | rfl | exact val_int hmi.out), rfl, rfl, rfl, rfl, rfl, rfl, rfl, rfl⟩
 case h2 =>
  rintro a w0 ⟨m, E, hP, hEb, hd0, hz0, f0, f1, f2, f3, f4, f5, f12, f13, f14, f15, rfl⟩
  obtain ⟨u, hu, ha⟩ := frame192 a hd0 hz0
  rw [(hu 0).trans f0, (hu 1).trans f1, (hu 2).trans f2, (hu 3).trans f3, (hu 4).trans f4, (hu 5).trans f5, (hu 12).trans f12, (hu 13).trans f13, (hu 14).trans f14, (hu 15).trans f15] at ha
  clear f0 f1 f2 f3 f4 f5 f12 f13 f14 f15 hu hd0 hz0
  subst ha
  refine cut_seq (fun a' w' => ∃ (m : Nat) (E : Int), Hid (HV 23 126 N D m E ∧ m < 18446744073709551616 ∧ (m = 0 ∨ 4 * 2 ^ 23 ≤ m)) ∧ (-350000 ≤ E ∧ E ≤ 350000) ∧ a'.defers = [] ∧ a'.tmps.size = 192 ∧ a'.tmps.getD 0 undef = .string s0 ∧ a'.tmps.getD 1 undef = .pointer (some ⟨6, 0, none⟩) ∧ a'.tmps.getD 2 undef = .int .u64 m ∧ a'.tmps.getD 3 undef = .int .i64 E ∧ a'.tmps.getD 4 undef = .bool neg ∧ a'.tmps.getD 5 undef = .bool tr ∧ a'.tmps.getD 12 undef = .float .f64 0 ∧ a'.tmps.getD 13 undef = .nilIface ∧ a'.tmps.getD 14 undef = .int .i64 127 ∧ a'.tmps.getD 15 undef = .int .i64 (-126) ∧ w' = w.drew) ?h1 ?h2
  case h1 =>
   intro K hK
   have hK' := hid hK
   clear hK
   have hE1 := hEb.1
   have hE2 := hEb.2
   cases tr
   ·have hfin : Hid (HV 23 126 N D m E ∧ m < 18446744073709551616 ∧ (m = 0 ∨ 4 * 2 ^ 23 ≤ m)) := hid (by
     obtain ⟨h1, h2, h3, h4⟩ := hP.out
     exact ⟨h1, h2, h3⟩)
    go_wp2_with fail
    exact hK'.out _ _ ⟨m, E, hfin, hEb, rfl, rfl, rfl, rfl, rfl, rfl, rfl, rfl, rfl, rfl, rfl, rfl, rfl⟩
   ·have hfin : Hid (HV 23 126 N D (m ||| 1) E ∧ (m ||| 1) < 18446744073709551616 ∧ ((m ||| 1) = 0 ∨ 4 * 2 ^ 23 ≤ (m ||| 1))) := hid (by
     obtain ⟨h1, h2, h3, h4⟩ := hP.out
     refine ⟨h1, Nat.or_lt_two_pow (n := 64) h2 (by decide), Or.inr ?_⟩
     have := h4 rfl
     have h5 : m ≤ m ||| 1 := Nat.left_le_or
     omega)
    have hor : bits .or .u64 (m : Int) 1 = ((m ||| 1 : Nat) : Int) := by
     have h := u64_or_nat m 1 hP.out.2.1 (by decide)
     rwa [show ((1 : Nat) : Int) = 1 from rfl] at h
    obtain ⟨mo, hmo⟩ : ∃ mo, mo = m ||| 1 := ⟨_, rfl⟩
    rw [← hmo] at hfin hor
    clear hmo
    go_wp2_with fail
    exact hK'.out _ _ ⟨mo, E, hfin, hEb, rfl, rfl, rfl, rfl, rfl, rfl, rfl, rfl, rfl, rfl, rfl, rfl, rfl⟩
  case h2 =>
   rintro a w0 ⟨m, E, hP, hEb, hd0, hz0, f0, f1, f2, f3, f4, f5, f12, f13, f14, f15, rfl⟩
   obtain ⟨u, hu, ha⟩ := frame192 a hd0 hz0
   rw [(hu 0).trans f0, (hu 1).trans f1, (hu 2).trans f2, (hu 3).trans f3, (hu 4).trans f4, (hu 5).trans f5, (hu 12).trans f12, (hu 13).trans f13, (hu 14).trans f14, (hu 15).trans f15] at ha
   clear f0 f1 f2 f3 f4 f5 f12 f13 f14 f15 hu hd0 hz0
   subst ha
   refine cut_seq (fun a' w' => ∃ (m : Nat) (E : Int), Hid (HV 23 126 N D m E ∧ m < 8 * 2 ^ 23 ∧ (m = 0 ∨ 4 * 2 ^ 23 ≤ m)) ∧ (-390000 ≤ E ∧ E ≤ 390000) ∧ a'.defers = [] ∧ a'.tmps.size = 192 ∧ a'.tmps.getD 0 undef = .string s0 ∧ a'.tmps.getD 1 undef = .pointer (some ⟨6, 0, none⟩) ∧ a'.tmps.getD 2 undef = .int .u64 m ∧ a'.tmps.getD 3 undef = .int .i64 E ∧ a'.tmps.getD 4 undef = .bool neg ∧ a'.tmps.getD 5 undef = .bool tr ∧ a'.tmps.getD 12 undef = .float .f64 0 ∧ a'.tmps.getD 13 undef = .nilIface ∧ a'.tmps.getD 14 undef = .int .i64 127 ∧ a'.tmps.getD 15 undef = .int .i64 (-126) ∧ w' = w.drew) ?h1 ?h2
   case h1 =>
    intro K hK
    have hK' := hid hK
    clear hK
    go_wp2_with fail
    go_loopw [2, 3] (fun a b wr => LB 23 126 N D E w a b wr) (fun a _ _ => (intOf a).toNat)
    case atStart => exact ⟨m, 0, E, rfl, rfl, hid ⟨hP.out.1, hP.out.2.1, by omega, by omega, hP.out.2.2⟩, rfl⟩
    case round =>
     obtain ⟨m2, j, E2, rfl, rfl, hV, rfl⟩ := hrel
     have hEb2 : -390000 ≤ E2 ∧ E2 ≤ 390000 := by have := hV.out.2.2.2.1; have := hV.out.2.2.1; omega
     have hE1 := hEb2.1
     have hE2 := hEb2.2
     have hb64 : m2 < 18446744073709551616 := by
      have h1 := hV.out.2.1
      have h7 : 2 ^ (64 - j) ≤ 2 ^ 64 := Nat.pow_le_pow_right (by decide) (by omega)
      have h8 : (2 : Nat) ^ 64 = 18446744073709551616 := by decide
      omega
     by_cases hlt : m2 < 67108864
     ·have hfin : Hid (HV 23 126 N D m2 E2 ∧ m2 < 8 * 2 ^ 23 ∧ (m2 = 0 ∨ 4 * 2 ^ 23 ≤ m2)) := hid ⟨hV.out.1, by omega, hV.out.2.2.2.2⟩
      obtain ⟨mi, hmi⟩ : ∃ mi : Int, mi = (m2 : Int) := ⟨_, rfl⟩
      rw [← hmi]
      have hmd : mi / 67108864 = 0 := by omega
      replace hmi := hid hmi
      clear hlt hb64
      go_wp2_with fail
      exact hK'.out _ _ ⟨m2, E2, hfin, hEb2, rfl, rfl, rfl, rfl, (by first | rfl | exact val_int hmi.out), rfl, rfl, rfl, rfl, rfl, rfl, rfl, rfl⟩
     ·have hfin : LB 23 126 N D E w (.int .u64 ((m2 / 2 ||| m2 % 2 : Nat) : Int)) (.int .i64 (E2 + 1)) w.drew := by
       obtain ⟨h1, h2, h3, h4, h5⟩ := hV.out
       have hj : j < 38 := by
        apply Classical.byContradiction
        intro hc
        have h7 : 2 ^ (64 - j) ≤ 2 ^ 26 := Nat.pow_le_pow_right (by decide) (by omega)
        have h8 : (2 : Nat) ^ 26 = 67108864 := by decide
        omega
       refine ⟨_, j + 1, E2 + 1, rfl, rfl, hid ⟨h1.half, ?_, by omega, by omega, Or.inr ?_⟩, rfl⟩
       ·rcases half_lt (k := 64 - (j + 1)) (m := m2) (by rw [show 64 - (j + 1) + 1 = 64 - j by omega]; exact h2) with h | h
        ·exact h
        ·omega
       ·have := half_ge m2
        omega
      have hless := half_less (m := m2) (by omega)
      have hor := or_half_i m2 hb64
      have ha1 := and1 m2 hb64
      obtain ⟨mo, hmo⟩ : ∃ mo, mo = m2 / 2 ||| m2 % 2 := ⟨_, rfl⟩
      obtain ⟨mp, hmp⟩ : ∃ mp, mp = m2 % 2 := ⟨_, rfl⟩
      rw [← hmo] at hfin hor hless
      rw [← hmp] at hor ha1
      replace hfin := hid hfin
      replace hless := hid hless
      obtain ⟨mi, hmi⟩ : ∃ mi : Int, mi = (m2 : Int) := ⟨_, rfl⟩
      rw [← hmi]
      have hmd : (mi / 67108864 == 0) = false := bne_of (by omega)
      rw [← hmi] at hor ha1
      replace hmi := hid hmi
      clear hlt hb64 hmo hmp
      go_wp2_with fail
      go_roundw
      case rel => exact hfin.out
      case measure => simp [intOf]; have := hless.out; have := hmi.out; omega
   case h2 =>
    rintro a w0 ⟨m, E, hP, hEb, hd0, hz0, f0, f1, f2, f3, f4, f5, f12, f13, f14, f15, rfl⟩
    obtain ⟨u, hu, ha⟩ := frame192 a hd0 hz0
    rw [(hu 0).trans f0, (hu 1).trans f1, (hu 2).trans f2, (hu 3).trans f3, (hu 4).trans f4, (hu 5).trans f5, (hu 12).trans f12, (hu 13).trans f13, (hu 14).trans f14, (hu 15).trans f15] at ha
    clear f0 f1 f2 f3 f4 f5 f12 f13 f14 f15 hu hd0 hz0
    subst ha
    refine cut_seq (fun a' w' => ∃ (m : Nat) (E : Int), Hid (HV 23 126 N D m E ∧ m < 8 * 2 ^ 23 ∧ (m = 0 ∨ 4 * 2 ^ 23 ≤ m ∨ E ≤ -((126 : Nat) : Int) - 2) ∧ (m ≤ 1 ∨ -((126 : Nat) : Int) - 2 ≤ E)) ∧ (-400000 ≤ E ∧ E ≤ 400000) ∧ a'.defers = [] ∧ a'.tmps.size = 192 ∧ a'.tmps.getD 0 undef = .string s0 ∧ a'.tmps.getD 1 undef = .pointer (some ⟨6, 0, none⟩) ∧ a'.tmps.getD 2 undef = .int .u64 m ∧ a'.tmps.getD 3 undef = .int .i64 E ∧ a'.tmps.getD 4 undef = .bool neg ∧ a'.tmps.getD 5 undef = .bool tr ∧ a'.tmps.getD 12 undef = .float .f64 0 ∧ a'.tmps.getD 13 undef = .nilIface ∧ a'.tmps.getD 14 undef = .int .i64 127 ∧ a'.tmps.getD 15 undef = .int .i64 (-126) ∧ w' = w.drew) ?h1 ?h2
    case h1 =>
     intro K hK
     have hK' := hid hK
     clear hK
     go_wp2_with fail
     go_loopw [2, 3] (fun a b wr => LC 23 126 N D w a b wr) (fun a _ _ => (intOf a).toNat)
     case atStart => exact ⟨m, E, rfl, rfl, hid ⟨hP.out.1, hP.out.2.1, (by rcases hP.out.2.2 with h | h; exact Or.inl h; exact Or.inr (Or.inl h)), by omega, by omega⟩, rfl⟩
     case round =>
      obtain ⟨m2, E2, rfl, rfl, hV, rfl⟩ := hrel
      have hEb2 : -400000 ≤ E2 ∧ E2 ≤ 400000 := ⟨hV.out.2.2.2.1, hV.out.2.2.2.2⟩
      have hE1 := hEb2.1
      have hE2 := hEb2.2
      by_cases hlt : 1 < m2
      ·by_cases hEl : E2 < (-128)
       ·have hb64 : m2 < 18446744073709551616 := by have := hV.out.2.1; omega
        have hfin : LC 23 126 N D w (.int .u64 ((m2 / 2 ||| m2 % 2 : Nat) : Int)) (.int .i64 (E2 + 1)) w.drew := by
         obtain ⟨h1, h2, h3, h4⟩ := hV.out
         have := half_less (m := m2) (by omega)
         exact ⟨_, E2 + 1, rfl, rfl, hid ⟨h1.half, by omega, Or.inr (Or.inr (by omega)), by omega, by omega⟩, rfl⟩
        have hless := half_less (m := m2) (by omega)
        have hor := or_half_i m2 hb64
        have ha1 := and1 m2 hb64
        obtain ⟨mo, hmo⟩ : ∃ mo, mo = m2 / 2 ||| m2 % 2 := ⟨_, rfl⟩
        obtain ⟨mp, hmp⟩ : ∃ mp, mp = m2 % 2 := ⟨_, rfl⟩
        rw [← hmo] at hfin hor hless
        rw [← hmp] at hor ha1
        replace hfin := hid hfin
        replace hless := hid hless
        obtain ⟨mi, hmi⟩ : ∃ mi : Int, mi = (m2 : Int) := ⟨_, rfl⟩
        rw [← hmi]
        have hm1 : 1 < mi := by omega
        rw [← hmi] at hor ha1
        replace hmi := hid hmi
        clear hlt hb64 hmo hmp
        go_wp2_with fail
        go_roundw
        case rel => exact hfin.out
        case measure => simp [intOf]; have := hless.out; have := hmi.out; omega
       ·have hfin : Hid (HV 23 126 N D m2 E2 ∧ m2 < 8 * 2 ^ 23 ∧ (m2 = 0 ∨ 4 * 2 ^ 23 ≤ m2 ∨ E2 ≤ -((126 : Nat) : Int) - 2) ∧ (m2 ≤ 1 ∨ -((126 : Nat) : Int) - 2 ≤ E2)) := hid ⟨hV.out.1, hV.out.2.1, hV.out.2.2.1, Or.inr (by omega)⟩
        obtain ⟨mi, hmi⟩ : ∃ mi : Int, mi = (m2 : Int) := ⟨_, rfl⟩
        rw [← hmi]
        have hm1 : 1 < mi := by omega
        replace hmi := hid hmi
        clear hlt
        go_wp2_with fail
        exact hK'.out _ _ ⟨m2, E2, hfin, hEb2, rfl, rfl, rfl, rfl, (by first | rfl | exact val_int hmi.out), rfl, rfl, rfl, rfl, rfl, rfl, rfl, rfl⟩
      ·have hfin : Hid (HV 23 126 N D m2 E2 ∧ m2 < 8 * 2 ^ 23 ∧ (m2 = 0 ∨ 4 * 2 ^ 23 ≤ m2 ∨ E2 ≤ -((126 : Nat) : Int) - 2) ∧ (m2 ≤ 1 ∨ -((126 : Nat) : Int) - 2 ≤ E2)) := hid ⟨hV.out.1, hV.out.2.1, hV.out.2.2.1, Or.inl (by omega)⟩
       obtain ⟨mi, hmi⟩ : ∃ mi : Int, mi = (m2 : Int) := ⟨_, rfl⟩
       rw [← hmi]
       have hm1 : ¬ 1 < mi := by omega
       replace hmi := hid hmi
       clear hlt
       go_wp2_with fail
       exact hK'.out _ _ ⟨m2, E2, hfin, hEb2, rfl, rfl, rfl, rfl, (by first | rfl | exact val_int hmi.out), rfl, rfl, rfl, rfl, rfl, rfl, rfl, rfl⟩
    case h2 =>
     rintro a w0 ⟨m, E, hP, hEb, hd0, hz0, f0, f1, f2, f3, f4, f5, f12, f13, f14, f15, rfl⟩
     obtain ⟨u, hu, ha⟩ := frame192 a hd0 hz0
     rw [(hu 0).trans f0, (hu 1).trans f1, (hu 2).trans f2, (hu 3).trans f3, (hu 4).trans f4, (hu 5).trans f5, (hu 12).trans f12, (hu 13).trans f13, (hu 14).trans f14, (hu 15).trans f15] at ha
     clear f0 f1 f2 f3 f4 f5 f12 f13 f14 f15 hu hd0 hz0
     subst ha
     have hE1 := hEb.1
     have hE2 := hEb.2
     have hm64 : m < 18446744073709551616 := by have := hP.out.2.1; omega
     have hout := HV.out (by decide) hD hP.out.1 hP.out.2.1 hP.out.2.2.1 hP.out.2.2.2
     rw [← hb.out] at hout
     have hm8 := hP.out.2.1
     have ha3 := and3 m hm64
     have ha1 := and1 (m / 4) (by omega)
     have hor := u64_or_nat (m % 4) (m / 4 % 2) (by omega) (by omega)
     have hrb := round_bits m
     obtain ⟨rr, hrr⟩ : ∃ rr, rr = rnd4 m := ⟨_, rfl⟩
     obtain ⟨ro, hro⟩ : ∃ ro, ro = m % 4 ||| m / 4 % 2 := ⟨_, rfl⟩
     obtain ⟨qn, hqn⟩ : ∃ qn, qn = m / 4 := ⟨_, rfl⟩
     rw [← hrr] at hout hrb
     rw [← hro] at hor hrb
     rw [← hqn] at ha1 hor hrb
     obtain ⟨r1, hr1⟩ : ∃ r1, r1 = m % 4 := ⟨_, rfl⟩
     obtain ⟨r2, hr2⟩ : ∃ r2, r2 = qn % 2 := ⟨_, rfl⟩
     rw [← hr1] at ha3 hor
     rw [← hr2] at ha1 hor
     obtain ⟨mi, hmi⟩ : ∃ mi : Int, mi = (m : Int) := ⟨_, rfl⟩
     rw [← hmi] at ha3 ⊢
     have hq4 : mi / 4 = (qn : Int) := by omega
     have hqb : qn < 16777216 := by omega
     have hmi0 : 0 ≤ mi := by omega
     obtain ⟨qi, hqi⟩ : ∃ qi : Int, qi = (qn : Int) := ⟨_, rfl⟩
     rw [← hqi] at hq4 ha1
     have hqi1 : 0 ≤ qi := by omega
     have hqi2 : qi < 16777216 := by omega
     replace hqi := hid hqi
     replace hmi := hid hmi
     replace hout := hid hout
     clear hm64 hm8 hrr hro hqn hr1 hr2
     refine wp_seq_k fun K1 h1 => ?_
     have h1' := hid h1
     clear h1
     go_wp2_with fail
     refine h1'.out _ _ ?_
     clear h1'
     refine wp_seq_k fun K1 h1 => ?_
     have h1' := hid h1
     clear h1
     go_wp2_with fail
     refine h1'.out _ _ ?_
     clear h1'
     refine wp_seq_k fun K1 h1 => ?_
     have h1' := hid h1
     clear h1
     go_wp2_with fail
     refine h1'.out _ _ ?_
     clear h1'
     refine wp_seq_k fun K1 h1 => ?_
     have h1' := hid h1
     clear h1
     go_wp2_with fail
     refine h1'.out _ _ ?_
     clear h1'
     refine cut_seq (fun a' w' => ∃ (m : Nat) (E : Int), Hid (HE 23 126 b m E) ∧ (-400100 ≤ E ∧ E ≤ 400100) ∧ a'.defers = [] ∧ a'.tmps.size = 192 ∧ a'.tmps.getD 0 undef = .string s0 ∧ a'.tmps.getD 1 undef = .pointer (some ⟨6, 0, none⟩) ∧ a'.tmps.getD 2 undef = .int .u64 m ∧ a'.tmps.getD 3 undef = .int .i64 E ∧ a'.tmps.getD 4 undef = .bool neg ∧ a'.tmps.getD 5 undef = .bool tr ∧ a'.tmps.getD 12 undef = .float .f64 0 ∧ a'.tmps.getD 13 undef = .nilIface ∧ a'.tmps.getD 14 undef = .int .i64 127 ∧ a'.tmps.getD 15 undef = .int .i64 (-126) ∧ w' = w.drew) ?h1 ?h2
     case h1 =>
      intro K hK
      have hK' := hid hK
      clear hK
      rcases hrb with ⟨h3, h4⟩ | ⟨h3, h4⟩
      ·subst h3
       by_cases hq : qn + 1 = 16777216
       ·have hfin : Hid (HE 23 126 b 8388608 (E + 3)) := hid (hout.out.2 (by rw [h4, hq]))
        have hq2 : qi + 1 = 16777216 := by have := hqi.out; omega
        have hqi3 : qi = 16777215 := by omega
        subst hqi3
        clear hqi hq4 ha1 hq hqb
        go_wp2_with fail
        exact hK'.out _ _ ⟨8388608, E + 3, hfin, by omega, rfl, rfl, rfl, rfl, (by first | rfl | exact val_int (by have := hqi.out; omega) | exact val_int (by omega)), (by first | rfl | exact val_int (by have := hqi.out; omega) | exact val_int (by omega)), rfl, rfl, rfl, rfl, rfl, rfl, rfl⟩
       ·have hfin : Hid (HE 23 126 b (qn + 1) (E + 2)) := hid (by have := hout.out.1 (by rw [h4]; omega); rwa [h4] at this)
        have hq2 : (qi + 1 == 16777216) = false := bne_of (by have := hqi.out; omega)
        clear hq hqb
        go_wp2_with fail
        exact hK'.out _ _ ⟨qn + 1, E + 2, hfin, by omega, rfl, rfl, rfl, rfl, (by first | rfl | exact val_int (by have := hqi.out; omega) | exact val_int (by omega)), (by first | rfl | exact val_int (by have := hqi.out; omega) | exact val_int (by omega)), rfl, rfl, rfl, rfl, rfl, rfl, rfl⟩
      ·have hfin : Hid (HE 23 126 b qn (E + 2)) := hid (by have := hout.out.1 (by rw [h4]; omega); rwa [h4] at this)
       have hr3 : ((ro : Int) == 3) = false := bne_of (by omega)
       clear h3 hqb
       go_wp2_with fail
       exact hK'.out _ _ ⟨qn, E + 2, hfin, by omega, rfl, rfl, rfl, rfl, (by first | rfl | exact val_int (by have := hqi.out; omega) | exact val_int (by omega)), (by first | rfl | exact val_int (by have := hqi.out; omega) | exact val_int (by omega)), rfl, rfl, rfl, rfl, rfl, rfl, rfl⟩
     case h2 =>
      rintro a w0 ⟨m, E, hP, hEb, hd0, hz0, f0, f1, f2, f3, f4, f5, f12, f13, f14, f15, rfl⟩
      obtain ⟨u, hu, ha⟩ := frame192 a hd0 hz0
      rw [(hu 0).trans f0, (hu 1).trans f1, (hu 2).trans f2, (hu 3).trans f3, (hu 4).trans f4, (hu 5).trans f5, (hu 12).trans f12, (hu 13).trans f13, (hu 14).trans f14, (hu 15).trans f15] at ha
      clear f0 f1 f2 f3 f4 f5 f12 f13 f14 f15 hu hd0 hz0
      subst ha
      have hE1 := hEb.1
      have hE2 := hEb.2
      have k203 := call203
      have k197 := call197
      obtain ⟨j, hj1, hj2⟩ := info232
      have hpq2 : ∀ w', (binOp .eql 230 (.pointer (some ⟨6, 0, none⟩)) (.pointer (some ⟨6, 0, none⟩))).run Tryz.prog w' = .ok (.bool true) w' := fun w' => run_eql_ptr_same w' (te := 232) _ (by kernel_rfl) hj1
      have hpq3 := hpq2
      clear hj1 hj2
      clear hb hs hbig hm
      rcases hP.out with ⟨g1, g2⟩ | ⟨g1, g2, g3, g4⟩
      ·-- below the least normal number
       subst g2
       have hbb : min b 2139095040 = b := Nat.min_eq_left (by omega)
       have hcmp : ¬ 2139095040 ≤ b := by omega
       have hmd : (b : Int) / 8388608 = 0 := by omega
       have han := and_low 23 b (by omega) (by decide)
       rw [show ((2 ^ 23 - 1 : Nat) : Int) = 8388607 from rfl, Nat.mod_eq_of_lt g1] at han
       have h00 : bits .and .i64 0 255 = 0 := by kernel_rfl
       have ho0 : bits .or .u64 (b : Int) 0 = (b : Int) := by
        have h := u64_or_nat b 0 (by omega) (by decide)
        simpa using h
       have hos := or_sum 31 b 1 (by omega) (by omega)
       rw [show (1 * 2 ^ 31 : Nat) = 2147483648 by decide, show (((2147483648 : Nat)) : Int) = 2147483648 from rfl] at hos
       have hbi : (b : Int) < 4294967296 := by omega
       replace hbb := hid hbb
       replace hcmp := hid hcmp
       clear g1 hP
       simp only [Int.natCast_add] at hos
       obtain ⟨y, hy⟩ := wide_of neg b
       rw [hbb.out] at hy
       have hcv : ∀ w, (convert 61 22 (.float .f32 (sg32 neg + b))).run Tryz.prog w = .ok (.float .f64 y) w := fun w => run_convert_float_float w 61 22 .f32 .f64 _ _ (by kernel_rfl) (by kernel_rfl) hy.1
       replace hy := hid hy
       cases neg
       ·rw [show sg32 false + b = b by simp [sg32]] at hcv hy
        go_wp2_with (first | rw [hcv])
        go_region
        go_wp2_with (first | rw [hcv] | rw [hpq2] | rw [hpq3])
        go_ret2
        exact ⟨hx32_intro _ _ _ _ _ hy.out (by rw [hbb.out]; simp [sg32]) (if_neg hcmp.out).symm, (Below.refl _ _).drew.drew⟩
       ·rw [show sg32 true + b = b + 2147483648 by simp [sg32]; try omega] at hcv hy
        go_wp2_with (first | rw [hcv])
        go_region
        go_wp2_with (first | rw [hcv])
        go_region
        go_wp2_with (first | rw [hcv] | rw [hpq2] | rw [hpq3])
        go_ret2
        exact ⟨hx32_intro _ _ _ _ _ hy.out (by rw [hbb.out]; simp [sg32]; try omega) (if_neg hcmp.out).symm, (Below.refl _ _).drew.drew.drew⟩
      ·by_cases hov : 127 < E
       ·-- too great
        have hcmp : 2139095040 ≤ b := by omega
        have hbb : min b 2139095040 = 2139095040 := Nat.min_eq_right hcmp
        have hmd : ((m : Int) / 8388608 == 0) = false := bne_of (by omega)
        have h01 : bits .and .u64 8388608 8388607 = 0 := by kernel_rfl
        have h02 : bits .and .i64 255 255 = 255 := by kernel_rfl
        have h03 : bits .or .u64 0 2139095040 = 2139095040 := by kernel_rfl
        have h04 : bits .or .u64 2139095040 2147483648 = 4286578688 := by kernel_rfl
        obtain ⟨mi, hmi⟩ : ∃ mi : Int, mi = (m : Int) := ⟨_, rfl⟩
        rw [← hmi] at hmd ⊢
        replace hmi := hid hmi
        replace hbb := hid hbb
        replace hcmp := hid hcmp
        clear g1 g2 g3 g4 hP
        obtain ⟨y, hy⟩ := wide_of neg b
        rw [hbb.out] at hy
        have hcv : ∀ w, (convert 61 22 (.float .f32 (sg32 neg + 2139095040))).run Tryz.prog w = .ok (.float .f64 y) w := fun w => run_convert_float_float w 61 22 .f32 .f64 _ _ (by kernel_rfl) (by kernel_rfl) hy.1
        replace hy := hid hy
        cases neg
        ·rw [show sg32 false + 2139095040 = 2139095040 by simp [sg32]] at hcv hy
         go_wp2_with (first | rw [hcv])
         go_region
         go_wp2_with (first | rw [hcv] | rw [hpq2] | rw [hpq3])
         go_ret2
         exact ⟨hx32_intro _ _ _ _ _ hy.out (by rw [hbb.out]; simp [sg32]) (if_pos hcmp.out).symm, (Below.refl _ _).drew.drew⟩
        ·rw [show sg32 true + 2139095040 = 2139095040 + 2147483648 by simp [sg32]; try omega] at hcv hy
         go_wp2_with (first | rw [hcv])
         go_region
         go_wp2_with (first | rw [hcv])
         go_region
         go_wp2_with (first | rw [hcv] | rw [hpq2] | rw [hpq3])
         go_ret2
         exact ⟨hx32_intro _ _ _ _ _ hy.out (by rw [hbb.out]; simp [sg32]; try omega) (if_pos hcmp.out).symm, (Below.refl _ _).drew.drew.drew⟩
       ·obtain ⟨z, hz⟩ : ∃ z : Nat, (z : Int) = E + 127 := ⟨(E + 127).toNat, by omega⟩
        have hz1 : z ≤ 254 := by omega
        obtain ⟨mf, hmf⟩ : ∃ mf, mf = m - 8388608 := ⟨_, rfl⟩
        have hbz : b = mf + z * 8388608 := by
         have e1 : (z : Int) * 8388608 = (E + ((126 : Nat) : Int)) * ((2 ^ 23 : Nat) : Int) + 8388608 := by
          rw [hz]
          have : ((2 ^ 23 : Nat) : Int) = 8388608 := rfl
          rw [this]
          omega
         omega
        have hlt : b < 2139095040 := by omega
        have hbb : min b 2139095040 = b := Nat.min_eq_left (by omega)
        have hcmp : ¬ 2139095040 ≤ b := by omega
        have hmd : ((m : Int) / 8388608 == 0) = false := bne_of (by omega)
        have han := and_low 23 m (by omega) (by decide)
        rw [show ((2 ^ 23 - 1 : Nat) : Int) = 8388607 from rfl, show m % 2 ^ 23 = mf by omega] at han
        have hza : bits .and .i64 (z : Int) 255 = (z : Int) := by
         have h := bits_mask .i64 8 (by decide) (fun n a b => by rw [IntKind.wrap_i64]; omega) 8 (by decide) (z : Int) (by omega) (by omega)
         rw [show ((2 : Int) ^ 8 - 1) = 255 from rfl, show ((2 : Int) ^ 8) = 256 from rfl] at h
         rw [h]; omega
        have hor := or_sum 23 mf z (by omega) (by omega)
        rw [show z * 2 ^ 23 = z * 8388608 from rfl, ← hbz] at hor
        simp only [Int.natCast_mul] at hor
        rw [show (((8388608 : Nat)) : Int) = 8388608 from rfl] at hor
        have hos := or_sum 31 b 1 (by omega) (by omega)
        rw [show (1 * 2 ^ 31 : Nat) = 2147483648 by decide, show (((2147483648 : Nat)) : Int) = 2147483648 from rfl] at hos
        simp only [Int.natCast_add] at hos
        have hE3 : E = (z : Int) - 127 := by omega
        have hz2 : (z : Int) ≤ 254 := by omega
        have hz0 : 0 < z := by omega
        have hw1 : IntKind.u32.wrap (b : Int) = (b : Int) := by rw [IntKind.wrap_u32]; omega
        have hw2 : IntKind.u32.wrap ((b : Int) + 2147483648) = (b : Int) + 2147483648 := by rw [IntKind.wrap_u32]; omega
        obtain ⟨mi, hmi⟩ : ∃ mi : Int, mi = (m : Int) := ⟨_, rfl⟩
        rw [← hmi] at hmd han ⊢
        subst hE3
        have hez : (z : Int) - 127 + 127 = (z : Int) := by omega
        have hez2 : (z : Int) - 127 - -127 = (z : Int) := by omega
        replace hmi := hid hmi
        replace hbb := hid hbb
        replace hcmp := hid hcmp
        replace hbz := hid hbz
        replace hmf := hid hmf
        clear g1 g2 g3 g4 hP hz hlt hz1 hov
        obtain ⟨y, hy⟩ := wide_of neg b
        rw [hbb.out] at hy
        have hcv : ∀ w, (convert 61 22 (.float .f32 (sg32 neg + b))).run Tryz.prog w = .ok (.float .f64 y) w := fun w => run_convert_float_float w 61 22 .f32 .f64 _ _ (by kernel_rfl) (by kernel_rfl) hy.1
        replace hy := hid hy
        cases neg
        ·rw [show sg32 false + b = b by simp [sg32]] at hcv hy
         go_wp2_with (first | rw [hcv])
         go_region
         go_wp2_with (first | rw [hcv] | rw [hpq2] | rw [hpq3])
         go_ret2
         exact ⟨hx32_intro _ _ _ _ _ hy.out (by rw [hbb.out]; simp [sg32]) (if_neg hcmp.out).symm, (Below.refl _ _).drew.drew⟩
        ·rw [show sg32 true + b = b + 2147483648 by simp [sg32]; try omega] at hcv hy
         go_wp2_with (first | rw [hcv])
         go_region
         go_wp2_with (first | rw [hcv])
         go_region
         go_wp2_with (first | rw [hcv] | rw [hpq2] | rw [hpq3])
         go_ret2
         exact ⟨hx32_intro _ _ _ _ _ hy.out (by rw [hbb.out]; simp [sg32]; try omega) (if_neg hcmp.out).symm, (Below.refl _ _).drew.drew.drew⟩
end
end Go.Proofs.YtlgneiaenanfaaaGreatDoor
