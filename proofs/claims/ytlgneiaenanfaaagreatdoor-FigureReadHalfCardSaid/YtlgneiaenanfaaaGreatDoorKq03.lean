/- Walks and plain laws, merged: FpB. No condition. -/
import Derived.Test.YtlgneiaenanfaaaGreatDoorKq02
namespace Go.Proofs.YtlgneiaenanfaaaGreatDoor
open Go.RowKit
set_option linter.unusedVariables false
set_option linter.unusedSimpArgs false
set_option maxRecDepth 100000
set_option maxHeartbeats 64000000
section
set_option maxRecDepth 100000
open Go
def rowOk (hi lo num den : Nat) : Bool :=
 decide (hi < 2 ^ 64) && decide (lo < 2 ^ 64) && decide (lo ≤ hi * 2 ^ 64) && decide (num ≤ (hi * 2 ^ 64 - lo) * den) && decide ((hi * 2 ^ 64 - lo) * den < num + den) && decide (2 ^ 127 * den ≤ num) && decide (4096 * num ≤ 4095 * (2 ^ 128 * den))
def rowsOk : List (Nat × Nat) → Nat → Bool
 | [], _ => true
 | (hi, lo) :: r, i => rowOk hi lo (numT i) (denT i) && rowsOk r (i + 1)
theorem rows_all : rowsOk Go.Pinned.pow10Rows 0 = true := by kernel_rfl
theorem rows_len : Go.Pinned.pow10Rows.length = 696 := by kernel_rfl
theorem rowsOk_at : ∀ (l : List (Nat × Nat)) (i k : Nat) (x : Nat × Nat), rowsOk l i = true → l[k]? = some x → rowOk x.1 x.2 (numT (i + k)) (denT (i + k)) = true
 | [], i, k, x, _, h => by simp at h
 | y :: r, i, 0, x, h, e => by
  simp only [List.getElem?_cons_zero, Option.some.injEq] at e
  subst e
  simp only [rowsOk, Bool.and_eq_true] at h
  exact h.1
 | y :: r, i, k + 1, x, h, e => by
  simp only [rowsOk, Bool.and_eq_true] at h
  have := rowsOk_at r (i + 1) k x h.2 (by simpa using e)
  rw [show i + (k + 1) = i + 1 + k by omega]
  exact this
structure Row (hi lo num den : Nat) : Prop where
 hil : hi < 18446744073709551616
 lol : lo < 18446744073709551616
 pos : lo ≤ hi * 18446744073709551616
 up : num ≤ (hi * 18446744073709551616 - lo) * den
 dn : (hi * 18446744073709551616 - lo) * den < num + den
 least : 170141183460469231731687303715884105728 * den ≤ num
 most : 4096 * num ≤ 4095 * (340282366920938463463374607431768211456 * den)
theorem den_pos (i : Nat) : 0 < denT i := Nat.mul_pos (Nat.pow_pos (by omega)) (Nat.pow_pos (by omega))
theorem row_at (i : Nat) (x : Nat × Nat) (h : Go.Pinned.pow10Rows[i]? = some x) : Row x.1 x.2 (numT i) (denT i) := by
 have := rowsOk_at _ 0 i x rows_all h
 rw [Nat.zero_add] at this
 unfold rowOk at this
 simp only [Bool.and_eq_true, decide_eq_true_eq] at this
 obtain ⟨⟨⟨⟨⟨⟨h1, h2⟩, h3⟩, h4⟩, h5⟩, h6⟩, h7⟩ := this
 exact ⟨h1, h2, h3, h4, h5, h6, h7⟩
theorem cert_at (i : Nat) (hi : i < 696) (x : Int) (a : Int) (hx : 9223372036854775808 ≤ x) (hx2 : x < 18446744073709551616) (hl : -(36893488147419103232 * (denT i : Int)) < x * numT i - a * (87112285931760246646623899502532662132736 * denT i))
  (hr : (x * numT i - a * (87112285931760246646623899502532662132736 * denT i) : Int) ≤ 18446744073709551616 * denT i) : (x * numT i - a * (87112285931760246646623899502532662132736 * denT i) : Int) = 0 := by
 obtain ⟨c, hc⟩ : ∃ c, certs[i]? = some c := ⟨certs[i]'(by rw [certs_len]; exact hi), List.getElem?_eq_getElem _⟩
 have h := certsOk_at _ 0 i c certs_ok hc
 rw [Nat.zero_add] at h
 obtain ⟨q1, y1, q2, y2⟩ := c
 have hd := den_pos i
 generalize numT i = num at *
 generalize denT i = den at *
 unfold certOk at h
 simp only [Bool.and_eq_true, Bool.or_eq_true, decide_eq_true_eq] at h
 obtain ⟨⟨⟨⟨⟨⟨h1, h2⟩, h3⟩, h4⟩, h5⟩, h6⟩, h7⟩ := h
 obtain ⟨t, ht⟩ : ∃ t, t = 2 ^ 136 * den := ⟨_, rfl⟩
 obtain ⟨w, hw⟩ : ∃ w, w = 2 ^ 65 * den := ⟨_, rfl⟩
 obtain ⟨w1, hw1⟩ : ∃ w, w = 2 ^ 64 * den := ⟨_, rfl⟩
 rw [← ht] at h1 h2
 rw [← ht, ← hw] at h6
 rw [← ht, ← hw, ← hw1] at h7
 have et : (t : Int) = 87112285931760246646623899502532662132736 * (den : Int) := by rw [ht]; rfl
 have ew : (w : Int) = 36893488147419103232 * (den : Int) := by rw [hw]; rfl
 have ew1 : (w1 : Int) = 18446744073709551616 * (den : Int) := by rw [hw1]; rfl
 rw [← et] at hl hr ⊢
 rw [← ew] at hl
 rw [← ew1] at hr
 have hww : w = 2 * w1 := by rw [hw, hw1]; omega
 have hw0 : 0 < w1 := by rw [hw1]; omega
 have d1 : ((q1 * num - y1 * t : Nat) : Int) = (q1 : Int) * num - (y1 : Int) * t := by rw [Int.ofNat_sub h1]; simp
 have d2 : ((y2 * t - q2 * num : Nat) : Int) = (y2 : Int) * t - (q2 : Int) * num := by rw [Int.ofNat_sub h2]; simp
 clear ht hw hw1 et ew ew1
 generalize q1 * num - y1 * t = e1 at *
 generalize y2 * t - q2 * num = e2 at *
 refine bas_use (num : Int) (t : Int) (w1 : Int) (w : Int) q1 y1 q2 y2 (((2 ^ 63 + q1 - 1) / q1 : Nat) : Int) (((2 ^ 63 + q2 - 1) / q2 : Nat) : Int) x a ?_ ?_ ?_ (by omega) (by omega) ?_ (by omega) (by omega) ?_ hx hx2 (by omega) (by omega)
 ·have := congrArg (Nat.cast (R := Int)) h5
  simpa using this
 ·rw [← d1]; omega
 ·rw [← d2]; omega
 ·rw [← d1, ← d2]; omega
 ·rw [← d1, ← d2]
  rcases h7 with (h7 | h7) | ⟨⟨h7, h8⟩, h9⟩
  ·left; omega
  ·right; left; omega
  ·right; right
   have mk : ∀ q : Nat, 0 < q → ((2 ^ 63 + q - 1) / q - 1) * q < 2 ^ 63 := fun q hq => by
    have h := Nat.div_mul_le_self (2 ^ 63 + q - 1) q
    rw [Nat.sub_mul, Nat.one_mul]
    omega
   have m1 := mk q1 h3
   have m2 := mk q2 h4
   have p1 : 0 < (2 ^ 63 + q1 - 1) / q1 := Nat.div_pos (by omega) h3
   have p2 : 0 < (2 ^ 63 + q2 - 1) / q2 := Nat.div_pos (by omega) h4
   generalize (2 ^ 63 + q1 - 1) / q1 = k1 at *
   generalize (2 ^ 63 + q2 - 1) / q2 = k2 at *
   have c8 : (w1 : Int) < (k1 : Int) * (e1 : Int) := by rw [← Int.natCast_mul]; omega
   have c9 : (w : Int) ≤ (k2 : Int) * (e2 : Int) := by rw [← Int.natCast_mul]; omega
   have n1 : ((k1 : Int) - 1) * q1 < 9223372036854775808 := by
    have : ((k1 : Int) - 1) = ((k1 - 1 : Nat) : Int) := by omega
    rw [this, ← Int.natCast_mul]
    omega
   have n2 : ((k2 : Int) - 1) * q2 < 9223372036854775808 := by
    have : ((k2 : Int) - 1) = ((k2 - 1 : Nat) : Int) := by omega
    rw [this, ← Int.natCast_mul]
    omega
   exact ⟨by omega, c8, c9, n1, n2⟩
theorem or_half (u : Nat) : u / 2 ||| u % 2 = 2 * (u / 2 / 2) + (if u / 2 % 2 = 1 ∨ u % 2 = 1 then 1 else 0) := by
 rcases Nat.mod_two_eq_zero_or_one u with h | h
 ·rw [h, Nat.or_zero]
  split <;> omega
 ·rw [h, or_one', if_pos (.inr rfl)]
theorem stk_low {n d : Nat} {t : Nat} (h : 2 * t ≤ stk n d) : 2 * t * d ≤ n := by
 rw [stk_val] at h
 have hq : 2 * t ≤ n / d := by split at h <;> omega
 have := Nat.mul_le_mul_right d hq
 have h2 := Nat.div_mul_le_self n d
 omega
def pfE (F Pm d i : Nat) : Int := min (Pm : Int) ((F : Int) + 1 - ((d.log2 + 1 : Nat) : Int) - ((lgT i : Int) - 1200))
def pfS (F Pm d i : Nat) : Int := 61 - pfE F Pm d i - ((d.log2 + 1 : Nat) : Int) - ((lgT i : Int) - 1200)
def pfU (F Pm d i hi lo : Nat) : Nat := uscF (d * 2 ^ (64 - (d.log2 + 1))) hi lo (pfS F Pm d i).toNat
def pfC (F u : Nat) : Nat := if 8 * 2 ^ F - 2 ≤ u then 1 else 0
def pfM (F u : Nat) : Nat := rnd4 (if 8 * 2 ^ F - 2 ≤ u then u / 2 ||| u % 2 else u)
def pfK (F Pm d i u : Nat) : Nat := ((Pm : Int) - pfE F Pm d i).toNat + pfC F u
theorem two_pow_ge {F : Nat} (hF : 10 ≤ F) : 1024 ≤ 2 ^ F := Nat.pow_le_pow_right (n := 2) (by omega) hF
theorem pf_near (F Pm d i hi lo : Nat) (hF : 10 ≤ F) (hF2 : F ≤ 52) (hd : d ≠ 0) (hd64 : d < 18446744073709551616) (hi696 : i < 696) (hrow : Row hi lo (numT i) (denT i)) (hs64 : pfS F Pm d i < 64) :
  let u := pfU F Pm d i hi lo
  Near F (d * 10 ^ (i - 348) * 2 ^ Pm) (10 ^ (348 - i)) (pfK F Pm d i u * 2 ^ F + pfM F u) ∧ pfM F u < 2 * 2 ^ F ∧ (pfM F u < 2 ^ F → pfK F Pm d i u = 0) := by
 simp only []
 obtain ⟨b, hb⟩ : ∃ b, b = d.log2 + 1 := ⟨_, rfl⟩
 have hb1 : 2 ^ (b - 1) ≤ d := by rw [hb]; exact Nat.log2_self_le hd
 have hb2 : d < 2 ^ b := by rw [hb]; exact Nat.lt_log2_self
 have hb64 : b ≤ 64 := by
  rcases Nat.lt_or_ge 64 b with h | h
  ·have := Nat.pow_le_pow_right (n := 2) (by omega) (show 64 ≤ b - 1 by omega)
   omega
  ·exact h
 have hb0 : 1 ≤ b := by omega
 obtain ⟨e, he⟩ : ∃ e, e = pfE F Pm d i := ⟨_, rfl⟩
 obtain ⟨s, hs⟩ : ∃ s, s = (pfS F Pm d i).toNat := ⟨_, rfl⟩
 have he2 := he
 unfold pfE at he2
 rw [← hb] at he2
 have hsv : pfS F Pm d i = 61 - e - (b : Int) - ((lgT i : Int) - 1200) := by unfold pfS; rw [← he, ← hb]
 obtain ⟨x, hx⟩ : ∃ x, x = d * 2 ^ (64 - b) := ⟨_, rfl⟩
 have hx1 : 9223372036854775808 ≤ x := by
  have h1 : 2 ^ (b - 1) * 2 ^ (64 - b) ≤ x := by rw [hx]; exact Nat.mul_le_mul_right _ hb1
  rw [← Nat.pow_add, show b - 1 + (64 - b) = 63 by omega] at h1
  omega
 have hx2 : x < 18446744073709551616 := by
  have h1 : x < 2 ^ b * 2 ^ (64 - b) := by rw [hx]; exact Nat.mul_lt_mul_of_pos_right hb2 (Nat.pow_pos (by omega))
  rw [← Nat.pow_add, show b + (64 - b) = 64 by omega] at h1
  omega
 have hden := den_pos i
 have hs8 : 8 ≤ s := by omega
 have hus : uscF x hi lo s = stk (x * numT i) (340282366920938463463374607431768211456 * 2 ^ s * denT i) :=
  usc_ok x hi lo s (numT i) (denT i) hs8 hx2 (by omega) hrow.lol hrow.pos hden hrow.up hrow.dn (fun a h1 h2 => cert_at i hi696 x a (by omega) (by omega) h1 h2)
 obtain ⟨u, hu⟩ : ∃ u, u = pfU F Pm d i hi lo := ⟨_, rfl⟩
 have hu2 : u = stk (x * numT i) (340282366920938463463374607431768211456 * 2 ^ s * denT i) := by
  rw [hu]; unfold pfU; rw [← hb, ← hx, ← hs]; exact hus
 rw [← hu]
 obtain ⟨n0, hn0⟩ : ∃ n0, n0 = x * numT i := ⟨_, rfl⟩
 obtain ⟨d0, hd0⟩ : ∃ d0, d0 = 340282366920938463463374607431768211456 * 2 ^ s * denT i := ⟨_, rfl⟩
 rw [← hn0, ← hd0] at hu2
 have hd0p : 0 < d0 := by rw [hd0]; exact Nat.mul_pos (Nat.mul_pos (by omega) (Nat.pow_pos (by omega))) hden
 obtain ⟨sf, hsf⟩ : ∃ c, c = pfC F u := ⟨_, rfl⟩
 obtain ⟨m, hm⟩ : ∃ m, m = pfM F u := ⟨_, rfl⟩
 have hG := two_pow_ge hF
 have hmr : Rd n0 (2 ^ sf * d0) m ∧ ((sf = 0 ∧ u < 8 * 2 ^ F - 2 ∧ m = rnd4 u) ∨ (sf = 1 ∧ 8 * 2 ^ F - 2 ≤ u)) := by
  unfold pfM at hm
  unfold pfC at hsf
  by_cases h : 8 * 2 ^ F - 2 ≤ u
  ·rw [if_pos h] at hm hsf
   rw [or_half, hu2, stk_half n0 d0 hd0p] at hm
   rw [hm, hsf]
   exact ⟨rnd_stk n0 _ (by omega), .inr ⟨rfl, h⟩⟩
  ·rw [if_neg h] at hm hsf
   rw [hsf]
   refine ⟨?_, .inl ⟨rfl, by omega, hm⟩⟩
   rw [hm, hu2, Nat.pow_zero, Nat.one_mul]
   exact rnd_stk n0 d0 hd0p
 obtain ⟨K, hK⟩ : ∃ K, K = pfK F Pm d i u := ⟨_, rfl⟩
 have hK2 : (K : Int) = Pm - e + sf := by rw [hK, hsf]; unfold pfK; rw [← he]; omega
 rw [← hK, ← hm]
 -- bounds on n0 / d0
 have hlow : 2 ^ 63 * 2 ^ 127 * denT i ≤ n0 := by
  rw [hn0, Nat.mul_assoc]
  exact Nat.mul_le_mul (by omega) (by have := hrow.least; omega)
 have hnum : 0 < numT i := by have := hrow.least; omega
 have hhigh : 4096 * n0 < 4095 * (2 ^ 64 * 2 ^ 128 * denT i) := by
  rw [hn0]
  have h1 := hrow.most
  have h2 : x * (4096 * numT i) < 2 ^ 64 * (4095 * (340282366920938463463374607431768211456 * denT i)) := Nat.mul_lt_mul_of_lt_of_le (by omega) h1 (by omega)
  have e1 : x * (4096 * numT i) = 4096 * (x * numT i) := by grind
  have e2 : 2 ^ 64 * (4095 * (340282366920938463463374607431768211456 * denT i)) = 4095 * (2 ^ 64 * 2 ^ 128 * denT i) := by
   generalize denT i = q; omega
  omega
 have hGd : 2 ^ 64 * 2 ^ 128 * denT i ≤ 16 * (2 ^ F * d0) := by
  have h1 : 2 ^ 64 ≤ 2 ^ (F + 4) * 2 ^ s := by
   rw [← Nat.pow_add]; exact Nat.pow_le_pow_right (by omega) (by omega)
  have h2 : 2 ^ (F + 4) = 16 * 2 ^ F := by rw [Nat.pow_add]; omega
  rw [h2] at h1
  have h3 := Nat.mul_le_mul_right (340282366920938463463374607431768211456 * denT i) h1
  have e1 : 2 ^ 64 * (340282366920938463463374607431768211456 * denT i) = 2 ^ 64 * 2 ^ 128 * denT i := by generalize denT i = q; omega
  have e2 : 16 * 2 ^ F * 2 ^ s * (340282366920938463463374607431768211456 * denT i) = 16 * (2 ^ F * d0) := by
   rw [hd0]; generalize 2 ^ F = g; generalize 2 ^ s = t; generalize denT i = q; grind
  omega
 have hlt : 4096 * n0 < 65520 * (2 ^ F * d0) := by omega
 have hunc : e < Pm → 4 * (2 ^ F * d0) ≤ n0 := by
  intro h
  have hs2 : s + F = 60 := by omega
  have h1 : 2 ^ (F + 2) * 2 ^ s = 4611686018427387904 := by rw [← Nat.pow_add, show F + 2 + s = 62 by omega]
  have h2 : 2 ^ (F + 2) = 4 * 2 ^ F := by rw [Nat.pow_add]; omega
  rw [h2] at h1
  have e2 : 4 * (2 ^ F * d0) = 4 * 2 ^ F * 2 ^ s * (340282366920938463463374607431768211456 * denT i) := by
   rw [hd0]; generalize 2 ^ F = g; generalize 2 ^ s = t; generalize denT i = q; grind
  rw [e2, h1]
  revert hlow
  generalize denT i = q
  intro hlow
  omega
 have hGp : d0 * 1024 ≤ 2 ^ F * d0 := by rw [Nat.mul_comm]; exact Nat.mul_le_mul_right d0 hG
 obtain ⟨hr, hc⟩ := hmr
 have hm2 : m < 2 * 2 ^ F := by
  rcases hc with ⟨_, h2, h3⟩ | ⟨h1, _⟩
  ·rw [h3]; unfold rnd4; omega
  ·rcases Nat.lt_or_ge m (2 * 2 ^ F) with h | h
   ·exact h
   ·exfalso
    have h4 := hr.lo
    rw [h1] at h4
    have h5 : 2 * (2 ^ F * d0) ≤ m * d0 := by rw [← Nat.mul_assoc]; exact Nat.mul_le_mul_right d0 h
    have e3 : m * (2 ^ 1 * d0) = 2 * (m * d0) := by grind
    rw [e3] at h4
    omega
 have hge : (∀ D, D = 2 ^ sf * d0 → 0 < K → 4 * (2 ^ F * D) ≤ n0 + D) := by
  intro D hD hKp
  rw [hD]
  rcases hc with ⟨h1, _, _⟩ | ⟨h1, h2⟩
  ·rw [h1, Nat.pow_zero, Nat.one_mul]
   have := hunc (by omega)
   omega
  ·rw [h1]
   have h3 := stk_low (n := n0) (d := d0) (t := 4 * 2 ^ F - 1) (by omega)
   have e3 : 2 * (4 * 2 ^ F - 1) * d0 = 8 * (2 ^ F * d0) - 2 * d0 := by
    rw [show 2 * (4 * 2 ^ F - 1) = 8 * 2 ^ F - 2 by omega, Nat.sub_mul, Nat.mul_assoc]
   have e4 : 2 ^ F * (2 ^ 1 * d0) = 2 * (2 ^ F * d0) := by grind
   rw [e3] at h3
   rw [e4]
   omega
 have hDp : 0 < 2 ^ sf * d0 := Nat.mul_pos (Nat.pow_pos (by omega)) hd0p
 have hk : K = 0 ∨ 2 ^ F ≤ m := by
  rcases Nat.eq_zero_or_pos K with h | h
  ·exact .inl h
  ·right
   have h1 := hge _ rfl h
   have h2 := hr.hi
   rcases Nat.lt_or_ge m (2 ^ F) with h3 | h3
   ·exfalso
    have h4 : (m + 1) * (2 ^ sf * d0) ≤ 2 ^ F * (2 ^ sf * d0) := Nat.mul_le_mul_right _ h3
    rw [Nat.add_mul, Nat.one_mul] at h4
    omega
   ·exact h3
 refine ⟨?_, hm2, fun h => by omega⟩
 refine near_mk F _ _ n0 (2 ^ sf * d0) K m (by omega) hDp (Nat.pow_pos (by omega)) ?_ (by omega) hk hr ?_
 ·rw [hn0, hd0, hx]
  unfold numT denT
  obtain ⟨a1, ha1⟩ : ∃ a, a = 1327 - lgT i := ⟨_, rfl⟩
  obtain ⟨a2, ha2⟩ : ∃ a, a = lgT i - 1327 := ⟨_, rfl⟩
  rw [← ha1, ← ha2]
  have hsum : Pm + (130 + (sf + (s + a2))) = 64 - b + (a1 + K) := by omega
  have hp : 2 ^ Pm * (2 ^ 130 * (2 ^ sf * (2 ^ s * 2 ^ a2))) = 2 ^ (64 - b) * (2 ^ a1 * 2 ^ K) := by
   rw [← Nat.pow_add, ← Nat.pow_add, ← Nat.pow_add, ← Nat.pow_add, ← Nat.pow_add, ← Nat.pow_add, hsum]
  have hp2 : 2 ^ 130 = 4 * 340282366920938463463374607431768211456 := by rfl
  rw [hp2] at hp
  generalize 10 ^ (i - 348) = A
  generalize 10 ^ (348 - i) = C
  generalize 2 ^ Pm = p1 at hp ⊢
  generalize 2 ^ sf = p2 at hp ⊢
  generalize 2 ^ s = p3 at hp ⊢
  generalize 2 ^ a2 = p4 at hp ⊢
  generalize 2 ^ (64 - b) = p5 at hp ⊢
  generalize 2 ^ a1 = p6 at hp ⊢
  generalize 2 ^ K = p7 at hp ⊢
  generalize 340282366920938463463374607431768211456 = c at hp ⊢
  calc d * A * p1 * (4 * (p2 * (c * p3 * (C * p4)))) = d * A * C * (p1 * (4 * c * (p2 * (p3 * p4)))) := by grind
   _ = d * A * C * (p5 * (p6 * p7)) := by rw [hp]
   _ = d * p5 * (A * p6) * (p7 * C) := by grind
 ·intro h1 h2
  rw [h1]
  exact hge _ rfl h2
def mark2 (a n : Nat) : Nat := 2 * (a / n) + (a % n != 0).toNat
theorem mark2_ge {a n e : Nat} (hn : 0 < n) : 2 * e ≤ mark2 a n ↔ e * n ≤ a := by
 unfold mark2
 have h1 : (a % n != 0).toNat ≤ 1 := Bool.toNat_le _
 rw [← Nat.le_div_iff_mul_le hn]
 omega
theorem mark2_le {a n e : Nat} (hn : 0 < n) : mark2 a n ≤ 2 * e ↔ a ≤ e * n := by
 unfold mark2
 have hd := Nat.div_add_mod a n
 have hr := Nat.mod_lt a hn
 rw [Nat.mul_comm] at hd
 generalize a / n = q at *
 generalize a % n = r at *
 rcases Nat.eq_zero_or_pos r with h | h
 ·subst h
  simp only [bne_self_eq_false, Bool.toNat_false, Nat.add_zero] at hd ⊢
  rw [← hd]
  exact ⟨fun h => Nat.mul_le_mul_right n (by omega), fun h => by have := Nat.le_of_mul_le_mul_right h hn; omega⟩
 ·have hb : (r != 0) = true := by simp; omega
  rw [hb, Bool.toNat_true]
  constructor
  ·intro h1
   have h2 : (q + 1) * n ≤ e * n := Nat.mul_le_mul_right n (by omega)
   rw [Nat.add_mul, Nat.one_mul] at h2
   omega
  ·intro h1
   rcases Nat.lt_or_ge q e with h2 | h2
   ·omega
   ·have := Nat.mul_le_mul_right n h2
    omega
theorem rd_mark {a n h m : Nat} (hn : 0 < n) (hr : Rd (4 * mark2 a n) (4 * h) m) : Rd (8 * a) (4 * h * n) m := by
 have e1 : m * (4 * h) = 4 * (m * h) := by grind
 have e2 : m * (4 * h * n) = 4 * (m * h * n) := by grind
 have e4 : 4 * h * n = 4 * (h * n) := by grind
 have hi := hr.hi
 have lo := hr.lo
 have hi2 := hr.hi2
 have lo2 := hr.lo2
 rw [e1] at hi lo hi2 lo2
 have up := mark2_le (a := a) (n := n) (e := 2 * (m * h) + h) hn
 have upg := mark2_ge (a := a) (n := n) (e := 2 * (m * h) + h) hn
 have e3 : (2 * (m * h) + h) * n = 2 * (m * h * n) + h * n := by grind
 rw [e3] at up upg
 have hi' := up.1 (by omega)
 rcases Nat.eq_zero_or_pos m with h0 | h0
 ·subst h0
  refine ⟨by omega, by rw [e2, e4]; omega, by omega, by omega⟩
 ·have dn := mark2_ge (a := a) (n := n) (e := 2 * (m * h) - h) hn
  have dnl := mark2_le (a := a) (n := n) (e := 2 * (m * h) - h) hn
  have hle : h ≤ 2 * (m * h) := by have := Nat.mul_le_mul_right h h0; omega
  have hle2 : h * n ≤ 2 * (m * h * n) := by have := Nat.mul_le_mul_right n (Nat.mul_le_mul_right h h0); rw [Nat.one_mul] at this; omega
  have e5 : (2 * (m * h) - h) * n = 2 * (m * h * n) - h * n := by rw [Nat.sub_mul]; congr 1; grind
  rw [e5] at dn dnl
  have lo' := dn.1 (by omega)
  refine ⟨by rw [e2, e4]; omega, by rw [e2, e4]; omega, fun q => ?_, fun q => ?_⟩
  ·rw [e2, e4] at q
   have := dnl.2 (by omega)
   exact lo2 (by omega)
  ·rw [e2, e4] at q
   have := upg.2 (by omega)
   exact hi2 (by omega)
theorem nearest_mark (f : Ieee.Format) (hF : 1 ≤ f.fractionBits) (neg : Bool) (A n : Nat) (place : Int) (hn : 0 < n) (hlog : f.fractionBits + 2 ≤ (mark2 A n).log2) (N D : Nat) (hD : 0 < D)
  (hx : N * 2 ^ (f.leastPlace - place).toNat * n = 2 * A * 2 ^ (place - f.leastPlace).toNat * D) :
  ∃ b, Near f.fractionBits N D b ∧ f.nearest neg (mark2 A n) place = f.word neg (min b f.infRung) := by
 have hm0 : mark2 A n ≠ 0 := fun e => by
  have h1 : (mark2 A n).log2 = 0 := by rw [e]; exact Nat.log2_zero
  omega
 unfold Ieee.Format.nearest
 rw [if_neg hm0]
 simp only []
 obtain ⟨last, hlast⟩ : ∃ l, l = max (place + ((mark2 A n).log2 : Int) - (f.fractionBits : Int)) f.leastPlace := ⟨_, rfl⟩
 rw [← hlast]
 refine ⟨_, ?_, rfl⟩
 rw [Nat.shiftLeft_eq]
 unfold Ieee.Format.binade
 generalize f.leastPlace = lp at *
 generalize f.fractionBits = F at *
 have hlo : 2 ^ (mark2 A n).log2 ≤ mark2 A n := Nat.log2_self_le hm0
 have hhi : mark2 A n < 2 ^ ((mark2 A n).log2 + 1) := Nat.lt_log2_self
 obtain ⟨L, hL⟩ : ∃ L, L = (mark2 A n).log2 := ⟨_, rfl⟩
 rw [← hL] at hlo hhi hlast hlog
 obtain ⟨dr, hdr⟩ : ∃ u, u = (last - place).toNat := ⟨_, rfl⟩
 obtain ⟨K, hK⟩ : ∃ u, u = (last - lp).toNat := ⟨_, rfl⟩
 obtain ⟨a, ha⟩ : ∃ u, u = (place - lp).toNat := ⟨_, rfl⟩
 obtain ⟨c, hc⟩ : ∃ u, u = (lp - place).toNat := ⟨_, rfl⟩
 have hu : (place - last).toNat = 0 := by omega
 have hdr2 : 2 ≤ dr := by omega
 rw [← ha, ← hc] at hx
 rw [hu, ← hdr, ← hK, Nat.pow_zero, Nat.mul_one]
 have hr0 := cut_rd neg (mark2 A n) dr
 generalize Ieee.Toward.even.cut neg (mark2 A n) dr = m at *
 have e4 : 2 ^ dr = 4 * 2 ^ (dr - 2) := by rw [show (4 : Nat) = 2 ^ 2 by rfl, ← Nat.pow_add]; congr 1; omega
 have hr : Rd (8 * A) (2 ^ dr * n) m := by
  rw [e4] at hr0 ⊢
  exact rd_mark hn hr0
 have e5 : 2 ^ L = 2 * 2 ^ (L - 1) := by rw [← Nat.pow_succ']; congr 1; omega
 have hA1 : A < 2 ^ L * n := by
  rcases Nat.lt_or_ge A (2 ^ L * n) with h | h
  ·exact h
  ·have := (mark2_ge hn).2 h
   rw [Nat.pow_succ'] at hhi
   omega
 have hA2 : 2 ^ (L - 1) * n ≤ A := (mark2_ge hn).1 (by omega)
 obtain ⟨X, hX⟩ : ∃ X, X = 2 ^ dr * n := ⟨_, rfl⟩
 have hXp : 0 < X := by rw [hX]; exact Nat.mul_pos (Nat.pow_pos (by omega)) hn
 have hgp : 0 < 2 ^ F := Nat.pow_pos (by omega)
 have hB1 : A < 2 ^ F * X := by
  have h1 : 2 ^ L ≤ 2 ^ F * 2 ^ dr := by rw [← Nat.pow_add]; exact Nat.pow_le_pow_right (by omega) (by omega)
  have h2 := Nat.mul_le_mul_right n h1
  rw [Nat.mul_assoc, ← hX] at h2
  omega
 have hB2 : 0 < K → 2 ^ F * X ≤ 2 * A := fun hk => by
  have h1 : 2 ^ F * 2 ^ dr ≤ 2 ^ L := by rw [← Nat.pow_add]; exact Nat.pow_le_pow_right (by omega) (by omega)
  have h2 := Nat.mul_le_mul_right n h1
  rw [Nat.mul_assoc, ← hX, e5, Nat.mul_assoc] at h2
  omega
 rw [← hX] at hr
 refine near_mk F N D (8 * A) X K m hF hXp hD ?_ ?_ ?_ hr ?_
 ·have e1 : a + dr = K + c := by omega
  have hcp : 0 < 2 ^ c := Nat.pow_pos (by omega)
  refine Nat.eq_of_mul_eq_mul_right hcp ?_
  have e2 : 2 ^ a * 2 ^ dr = 2 ^ K * 2 ^ c := by rw [← Nat.pow_add, ← Nat.pow_add, e1]
  have e3 : N * (4 * X) * 2 ^ c = 4 * (N * 2 ^ c * n) * 2 ^ dr := by rw [hX]; grind
  rw [e3, hx]
  have e6 : 4 * (2 * A * 2 ^ a * D) * 2 ^ dr = 8 * (A * D) * (2 ^ a * 2 ^ dr) := by grind
  rw [e6, e2]
  grind
 ·have h1 := hr.lo
  rcases Nat.lt_or_ge (2 * 2 ^ F) m with h2 | h2
  ·exfalso
   have h3 := Nat.mul_le_mul_right X (show 2 * 2 ^ F + 1 ≤ m from h2)
   rw [Nat.add_mul, Nat.one_mul, Nat.mul_assoc] at h3
   omega
  ·exact h2
 ·rcases Nat.eq_zero_or_pos K with h1 | h1
  ·exact .inl h1
  ·right
   have h2 := hB2 h1
   have h3 := hr.hi
   rcases Nat.lt_or_ge m (2 ^ F) with h4 | h4
   ·exfalso
    have h5 := Nat.mul_le_mul_right X (show m + 1 ≤ 2 ^ F from h4)
    rw [Nat.add_mul, Nat.one_mul] at h5
    omega
   ·exact h4
 ·intro h1 h2
  have h3 := hB2 h2
  rw [h1]
  omega
theorem pf_zero (F Pm d i hi lo : Nat) (hF : 10 ≤ F) (hF2 : F ≤ 52) (hd : d ≠ 0) (hrow : Row hi lo (numT i) (denT i)) (hs64 : 64 ≤ pfS F Pm d i) :
  Near F (d * 10 ^ (i - 348) * 2 ^ Pm) (10 ^ (348 - i)) 0 := by
 obtain ⟨b, hb⟩ : ∃ b, b = d.log2 + 1 := ⟨_, rfl⟩
 have hb2 : d < 2 ^ b := by rw [hb]; exact Nat.lt_log2_self
 have hsv : pfS F Pm d i = 61 - pfE F Pm d i - (b : Int) - ((lgT i : Int) - 1200) := by unfold pfS; rw [← hb]
 have he : pfE F Pm d i = min (Pm : Int) ((F : Int) + 1 - (b : Int) - ((lgT i : Int) - 1200)) := by unfold pfE; rw [← hb]
 have hm := hrow.most
 have hden := den_pos i
 have h1 : numT i < 340282366920938463463374607431768211456 * denT i := by
  have := hrow.least
  generalize denT i = q at *
  omega
 unfold numT denT at h1
 have e0 : lgT i - 1327 = 0 := by omega
 rw [e0, Nat.pow_zero, Nat.mul_one] at h1
 obtain ⟨k, hk⟩ : ∃ k, 1327 - lgT i = 129 + b + Pm + k := ⟨1327 - lgT i - (129 + b + Pm), by omega⟩
 rw [hk] at h1
 have hv0 : val F 0 = 0 := by simp [val]
 have hv1 : val F 1 = 1 := by
  have := val_succ F 0
  rw [hv0] at this
  simp only [Nat.zero_add] at this
  rw [this]
  simp [step]
 refine ⟨.inl rfl, .inl ?_⟩
 simp only [Nat.zero_add]
 rw [hv0, hv1, Nat.zero_add, Nat.one_mul]
 generalize 10 ^ (i - 348) = A at *
 generalize 10 ^ (348 - i) = C at *
 have hp : 2 ^ (129 + b + Pm + k) = 340282366920938463463374607431768211456 * 2 * 2 ^ b * 2 ^ Pm * 2 ^ k := by
  rw [Nat.pow_add, Nat.pow_add, Nat.pow_add]
 rw [hp] at h1
 generalize 2 ^ Pm = p at *
 have hkp : 0 < 2 ^ k := Nat.pow_pos (by omega)
 generalize 2 ^ k = z at *
 generalize 2 ^ b = y at *
 have h2 : A * (2 * y * p) < C := by
  have e1 : A * (340282366920938463463374607431768211456 * 2 * y * p * z) = 340282366920938463463374607431768211456 * (A * (2 * y * p) * z) := by grind
  rw [e1] at h1
  have h3 := Nat.lt_of_mul_lt_mul_left h1
  have h4 : A * (2 * y * p) ≤ A * (2 * y * p) * z := Nat.le_mul_of_pos_right _ hkp
  omega
 have h5 : 2 * (d * A * p) ≤ A * (2 * y * p) := by
  have : A * (2 * y * p) = 2 * (y * A * p) := by grind
  rw [this]
  exact Nat.mul_le_mul_left 2 (Nat.mul_le_mul_right p (Nat.mul_le_mul_right A (Nat.le_of_lt hb2)))
 omega
end
end Go.Proofs.YtlgneiaenanfaaaGreatDoor
