/- Walks and plain laws, merged: FqI FqJ. No condition. -/
import Derived.Test.YtlgneiaenanfaaaGreatDoorKq17
namespace Go.Proofs.YtlgneiaenanfaaaGreatDoor
open Go.RowKit
set_option linter.unusedVariables false
set_option linter.unusedSimpArgs false
set_option maxRecDepth 100000
set_option maxHeartbeats 64000000
set_option exponentiation.threshold 70000
section
set_option maxRecDepth 100000
open Go
def ptab : List Nat := [1, 3, 6, 9, 13, 16, 19, 23, 26]
def pn (k : Nat) : Nat := if k < 9 then ptab.getD k 0 else 27
theorem pn_bd (k : Nat) : 1 ≤ pn k ∧ pn k ≤ 27 := by
 unfold pn
 by_cases h : k < 9
 ·rw [if_pos h]
  have h2 : k = 0 ∨ k = 1 ∨ k = 2 ∨ k = 3 ∨ k = 4 ∨ k = 5 ∨ k = 6 ∨ k = 7 ∨ k = 8 := by omega
  rcases h2 with rfl | rfl | rfl | rfl | rfl | rfl | rfl | rfl | rfl <;> decide
 ·rw [if_neg h]; decide
theorem pn_pow (k : Nat) (hk : 1 ≤ k) : 2 ^ pn k ≤ 10 ^ k := by
 unfold pn
 by_cases h : k < 9
 ·rw [if_pos h]
  have h2 : k = 1 ∨ k = 2 ∨ k = 3 ∨ k = 4 ∨ k = 5 ∨ k = 6 ∨ k = 7 ∨ k = 8 := by omega
  rcases h2 with rfl | rfl | rfl | rfl | rfl | rfl | rfl | rfl <;> decide
 ·rw [if_neg h]
  calc 2 ^ 27 ≤ 10 ^ 9 := by decide
   _ ≤ 10 ^ k := Nat.pow_le_pow_right (by decide) (by omega)
theorem fb_right {N D e dp d0 : Nat} (hD : 0 < D) (hlo : D * 2 ^ e * 10 ^ (dp - 1) ≤ N) (hhi : N < D * 10 ^ d0) (hdp : 1 ≤ dp) (h310 : d0 ≤ 310) : e + pn dp ≤ 1033 ∧ dp + 3 * (e / 10) ≤ d0 := by
 have h1 : 2 ^ e * 10 ^ (dp - 1) < 10 ^ d0 := by
  refine Nat.lt_of_mul_lt_mul_left (a := D) ?_
  rw [← Nat.mul_assoc]
  omega
 constructor
 ·apply Classical.byContradiction
  intro hc
  have h2 := pn_pow dp hdp
  have h3 : 2 ^ (e + pn dp) * 10 ^ (dp - 1) < 10 ^ (d0 + 1) * 10 ^ (dp - 1) := by
   have e1 : 2 ^ (e + pn dp) * 10 ^ (dp - 1) = 2 ^ e * 10 ^ (dp - 1) * 2 ^ pn dp := by rw [Nat.pow_add]; simp only [Nat.mul_assoc, Nat.mul_left_comm, Nat.mul_comm]
   have e2 : 10 ^ (d0 + 1) * 10 ^ (dp - 1) = 10 ^ d0 * 10 ^ dp := by rw [← Nat.pow_add, ← Nat.pow_add]; congr 1; omega
   rw [e1, e2]
   calc 2 ^ e * 10 ^ (dp - 1) * 2 ^ pn dp < 10 ^ d0 * 2 ^ pn dp := Nat.mul_lt_mul_of_pos_right h1 (Nat.pow_pos (by decide))
    _ ≤ 10 ^ d0 * 10 ^ dp := Nat.mul_le_mul_left _ h2
  have h4 := Nat.lt_of_mul_lt_mul_right h3
  have h5 : 2 ^ 1034 ≤ 2 ^ (e + pn dp) := Nat.pow_le_pow_right (by decide) (by omega)
  have h6 : 10 ^ (d0 + 1) ≤ 10 ^ 311 := Nat.pow_le_pow_right (by decide) (by omega)
  have h7 : (10 ^ 311 : Nat) ≤ 2 ^ 1034 := Nat.le_of_ble_eq_true (by kernel_rfl)
  exact absurd (Nat.lt_of_le_of_lt (Nat.le_trans (Nat.le_trans h6 h7) h5) h4) (Nat.lt_irrefl _)
 ·have h2 : 10 ^ (3 * (e / 10)) ≤ 2 ^ e := by
   calc 10 ^ (3 * (e / 10)) = (10 ^ 3) ^ (e / 10) := Nat.pow_mul ..
    _ ≤ (2 ^ 10) ^ (e / 10) := Nat.pow_le_pow_left (by decide) _
    _ = 2 ^ (10 * (e / 10)) := (Nat.pow_mul ..).symm
    _ ≤ 2 ^ e := Nat.pow_le_pow_right (by decide) (by omega)
  have h3 : 10 ^ (3 * (e / 10) + (dp - 1)) < 10 ^ d0 := by
   rw [Nat.pow_add]
   exact Nat.lt_of_le_of_lt (Nat.mul_le_mul_right _ h2) h1
  have h4 := (Nat.pow_lt_pow_iff_right (by decide : 1 < 10)).1 h3
  omega
theorem fb_less {X Y n : Nat} (hY : 0 < Y) (h : Y ≤ X) (hn : 1 ≤ n) : X / (Y * 2 ^ n) < X / Y := by
 have h1 : 1 ≤ X / Y := (Nat.le_div_iff_mul_le hY).2 (by omega)
 have h2 : X / (Y * 2 ^ n) = X / Y / 2 ^ n := by rw [Nat.div_div_eq_div_mul]
 rw [h2]
 exact Nat.div_lt_self h1 (by calc 1 < 2 ^ 1 := by decide
                 _ ≤ 2 ^ n := Nat.pow_le_pow_right (by decide) hn)
theorem dv_one {l : List Nat} {dp : Int} {n d : Nat} (h : DV l dp n d) (hl : DG l) (hd : 0 < d) (h0 : ∃ x r, l = x :: r ∧ x ≠ 0) : 0 < dp ↔ d ≤ n := by
 constructor
 ·intro hp
  have := h.lo h0
  rw [show (1 - dp).toNat = 0 by omega, Nat.pow_zero, Nat.mul_one] at this
  have h1 : 1 ≤ 10 ^ (dp - 1).toNat := Nat.pow_pos (by decide)
  have h2 : d * 1 ≤ d * 10 ^ (dp - 1).toNat := Nat.mul_le_mul_left _ h1
  omega
 ·intro hle
  apply Classical.byContradiction
  intro hc
  have := DV.hi h hl hd
  rw [show dp.toNat = 0 by omega, Nat.pow_zero, Nat.mul_one] at this
  have h1 : 1 ≤ 10 ^ (-dp).toNat := Nat.pow_pos (by decide)
  have h2 : n * 1 ≤ n * 10 ^ (-dp).toNat := Nat.mul_le_mul_left _ h1
  omega
theorem dv_half {l : List Nat} {dp : Int} {n d : Nat} (h : DV l dp n d) (hl : DG l) (hd : 0 < d) (h0 : ∃ x r, l = x :: r ∧ x ≠ 0) (hdp : dp ≤ 0) : (dp < 0 ∨ dp = 0 ∧ l.getD 0 0 < 5) ↔ 2 * n < d := by
 obtain ⟨x, r, rfl, hx⟩ := h0
 have hx9 : x ≤ 9 := hl x (by simp)
 have hr := dnum_lt (l := r) (fun d hd => hl d (List.mem_cons_of_mem _ hd))
 by_cases hneg : dp < 0
 ·refine ⟨fun _ => ?_, fun _ => Or.inl hneg⟩
  have := DV.hi h hl hd
  rw [show dp.toNat = 0 by omega, Nat.pow_zero, Nat.mul_one] at this
  have h1 : 10 ≤ 10 ^ (-dp).toNat := by
   calc 10 = 10 ^ 1 := rfl
    _ ≤ 10 ^ (-dp).toNat := Nat.pow_le_pow_right (by decide) (by omega)
  have h2 : n * 10 ≤ n * 10 ^ (-dp).toNat := Nat.mul_le_mul_left _ h1
  omega
 ·obtain rfl : dp = 0 := by omega
  unfold DV at h
  rw [dnum_cons, List.length_cons, show ((0 : Int) - ((r.length + 1 : Nat) : Int)).toNat = 0 by omega, show (((r.length + 1 : Nat) : Int) - 0).toNat = r.length + 1 by omega, Nat.pow_zero, Nat.mul_one, Nat.pow_succ] at h
  generalize 10 ^ r.length = T at *
  have hT : 0 < T := by omega
  have e1 : n * (T * 10) = T * (10 * n) := by simp only [Nat.mul_assoc, Nat.mul_left_comm, Nat.mul_comm]
  have key : ∀ a : Nat, (x * T + dnum r) * d < a * T * d ↔ x * T + dnum r < a * T := fun a => ⟨fun h => Nat.lt_of_mul_lt_mul_right h, fun h => Nat.mul_lt_mul_of_pos_right h hd⟩
  have k5 := key 5
  rw [h] at k5
  have e2 : 5 * T * d = T * (5 * d) := by simp only [Nat.mul_assoc, Nat.mul_left_comm, Nat.mul_comm]
  rw [e1, e2] at k5
  have k6 : T * (10 * n) < T * (5 * d) ↔ 10 * n < 5 * d := ⟨fun h => Nat.lt_of_mul_lt_mul_left h, fun h => Nat.mul_lt_mul_of_pos_left h hT⟩
  have k7 : x * T + dnum r < 5 * T ↔ x < 5 := by
   constructor
   ·intro h2
    apply Classical.byContradiction
    intro hc
    have : 5 * T ≤ x * T := Nat.mul_le_mul_right _ (by omega)
    omega
   ·intro h2
    have : (x + 1) * T ≤ 5 * T := Nat.mul_le_mul_right _ h2
    rw [Nat.add_mul, Nat.one_mul] at this
    omega
  show (_ ∨ _ ∧ x < 5) ↔ _
  omega
end
section
set_option maxRecDepth 100000
open Go
theorem pow3_le {e : Nat} : 10 ^ (3 * (e / 10)) ≤ 2 ^ e := by
 calc 10 ^ (3 * (e / 10)) = (10 ^ 3) ^ (e / 10) := Nat.pow_mul ..
  _ ≤ (2 ^ 10) ^ (e / 10) := Nat.pow_le_pow_left (by decide) _
  _ = 2 ^ (10 * (e / 10)) := (Nat.pow_mul ..).symm
  _ ≤ 2 ^ e := Nat.pow_le_pow_right (by decide) (by omega)
theorem fb_end {F Pm x N D X Y m : Nat} {e : Int} (hF : 1 ≤ F) (hx : Pm = x + F) (hD : 0 < D) (hX : X = N * 2 ^ (-(e + 1)).toNat * 2 ^ (F + 1)) (hY : Y = D * 2 ^ (e + 1).toNat) (hlo : -(x : Int) ≤ e) (hr : Rd (4 * X) Y m) (hlt : X < Y * 2 ^ (F + 1)) (hhalf : e = -(x : Int) ∨ Y * 2 ^ F ≤ X) :
  nr F (N * 2 ^ Pm) D = (e + x).toNat * 2 ^ F + m ∧ m ≤ 2 * 2 ^ F ∧ (e = -(x : Int) ∨ 2 ^ F ≤ m) := by
 obtain ⟨K, hK⟩ : ∃ K : Nat, (K : Int) = e + x := ⟨(e + x).toNat, by omega⟩
 have hKn : (e + x).toNat = K := by omega
 have hYp : 0 < Y := by rw [hY]; exact Nat.mul_pos hD (Nat.pow_pos (by decide))
 obtain ⟨T, hT⟩ : ∃ T, T = 2 ^ F := ⟨_, rfl⟩
 have hT1 : 2 ^ (F + 1) = 2 * T := by rw [hT, Nat.pow_succ, Nat.mul_comm]
 have hlt2 : X < 2 * (T * Y) := by
  rw [hT1] at hlt
  have : Y * (2 * T) = 2 * (T * Y) := by simp only [Nat.mul_assoc, Nat.mul_left_comm, Nat.mul_comm]
  omega
 have hm : m ≤ 2 * T := by
  apply Classical.byContradiction
  intro hc
  have h1 : (2 * T + 1) * Y ≤ m * Y := Nat.mul_le_mul_right _ (by omega)
  have h2 : (2 * T + 1) * Y = 2 * (T * Y) + Y := by rw [Nat.add_mul, Nat.one_mul, Nat.mul_assoc]
  have := hr.lo
  omega
 have hge : e = -(x : Int) ∨ T ≤ m := by
  rcases hhalf with h | h
  ·exact Or.inl h
  ·refine Or.inr ?_
   apply Classical.byContradiction
   intro hc
   have h1 : (m + 1) * Y ≤ T * Y := Nat.mul_le_mul_right _ (by omega)
   rw [Nat.add_mul, Nat.one_mul] at h1
   rw [← hT, Nat.mul_comm] at h
   have := hr.hi
   omega
 rw [hKn, ← hT]
 refine ⟨?_, hm, hge⟩
 rw [hT] at hm hge ⊢
 refine nr_eq hD (near_mk F (N * 2 ^ Pm) D (4 * X) Y K m hF hYp hD ?_ hm ?_ hr ?_)
 ·have h1 : 2 ^ Pm * 2 ^ (e + 1).toNat = 2 ^ (-(e + 1)).toNat * 2 ^ (F + 1) * 2 ^ K := by
   rw [← Nat.pow_add, ← Nat.pow_add, ← Nat.pow_add]; congr 1; omega
  rw [hX, hY]
  calc N * 2 ^ Pm * (4 * (D * 2 ^ (e + 1).toNat)) = 4 * (N * D) * (2 ^ Pm * 2 ^ (e + 1).toNat) := by simp only [Nat.mul_assoc, Nat.mul_left_comm, Nat.mul_comm]
   _ = 4 * (N * D) * (2 ^ (-(e + 1)).toNat * 2 ^ (F + 1) * 2 ^ K) := by rw [h1]
   _ = _ := by simp only [Nat.mul_assoc, Nat.mul_left_comm, Nat.mul_comm]
 ·rcases hge with h | h
  ·exact Or.inl (by omega)
  ·exact Or.inr h
 ·intro hm2 hK0
  rcases hhalf with h | h
  ·omega
  ·have : m * Y = Y * 2 ^ F := by rw [hm2, Nat.mul_comm]
   omega
theorem fb_len {N D e L : Nat} {ds1 : List Nat} {dp dp1 p : Int} (hD : 0 < D) (hv : DV ds1 dp1 N (D * 2 ^ e)) (hl : DG ds1) (h0 : ∃ x r, ds1 = x :: r ∧ x ≠ 0) (hdp : dp1 ≤ 0) (hhi : N < D * 10 ^ dp.toNat) (hd0 : dp = L + p) (hL : L ≤ 64) (he : 1 ≤ e) (he2 : e ≤ 1024) (hhalf : D * 2 ^ e ≤ 2 * N)
  (hdiv : ∀ e f : Nat, (e : Int) - p ≤ f → D * 2 ^ e ∣ N * 10 ^ f) (hlz : ds1.length ≤ 64 ∨ ∀ x, ds1.getLast? = some x → x ≠ 0) : ds1.length ≤ 781 := by
 rcases hlz with h | hlast
 ·omega
 have hY : 0 < D * 2 ^ e := Nat.mul_pos hD (Nat.pow_pos (by decide))
 have hne : ds1 ≠ [] := by obtain ⟨x, r, e, _⟩ := h0; rw [e]; simp
 have h1 := len_bd hv hl hY hlast hne (hdiv e ((e : Int) - p).toNat (by omega))
 have h2 : 2 ^ (e - 1) < 10 ^ dp.toNat := by
  refine Nat.lt_of_mul_lt_mul_left (a := D) ?_
  have e1 : D * 2 ^ e = 2 * (D * 2 ^ (e - 1)) := by
   obtain ⟨k, rfl⟩ : ∃ k, e = k + 1 := ⟨e - 1, by omega⟩
   rw [Nat.pow_succ, show k + 1 - 1 = k by omega]
   simp only [Nat.mul_assoc, Nat.mul_left_comm, Nat.mul_comm]
  omega
 have h3 := Nat.lt_of_le_of_lt (pow3_le (e := e - 1)) h2
 have h4 := (Nat.pow_lt_pow_iff_right (by decide : 1 < 10)).1 h3
 omega
theorem half_two (F : Nat) {X Y : Nat} (h : Y ≤ 2 * X) : Y * 2 ^ F ≤ X * 2 ^ (F + 1) := by
 rw [Nat.pow_succ]
 have h6 : Y * 2 ^ F ≤ 2 * X * 2 ^ F := Nat.mul_le_mul_right _ h
 have h7 : X * (2 ^ F * 2) = 2 * X * 2 ^ F := by simp only [Nat.mul_assoc, Nat.mul_left_comm, Nat.mul_comm]
 omega
end
end Go.Proofs.YtlgneiaenanfaaaGreatDoor
