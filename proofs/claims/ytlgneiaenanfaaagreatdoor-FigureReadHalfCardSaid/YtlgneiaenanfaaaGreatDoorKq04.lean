/- Walks and plain laws, merged: FpC FpD. No condition. -/
import Derived.Test.YtlgneiaenanfaaaGreatDoorKq03
namespace Go.Proofs.YtlgneiaenanfaaaGreatDoor
open Go.RowKit
set_option linter.unusedVariables false
set_option linter.unusedSimpArgs false
set_option maxRecDepth 100000
set_option maxHeartbeats 64000000
section
set_option maxRecDepth 100000
open Go
theorem val_zero (F : Nat) : val F 0 = 0 := by simp [val]
theorem val_ge (F : Nat) : ∀ b, b ≤ val F b
 | 0 => Nat.zero_le _
 | b + 1 => by
  have h1 := val_ge F b
  have h2 := val_succ F b
  have h3 := step_pos F b
  omega
theorem val_le (F : Nat) {b c : Nat} (h : b ≤ c) : val F b ≤ val F c := by
 rcases Nat.lt_or_eq_of_le h with h | h
 ·exact Nat.le_of_lt (val_lt F h)
 ·rw [h]; exact Nat.le_refl _
theorem edge (p : Nat → Prop) (h0 : p 0) : ∀ k, ¬ p k → ∃ a, p a ∧ ¬ p (a + 1)
 | 0, h => absurd h0 h
 | k + 1, h => by
  rcases Classical.em (p k) with h1 | h1
  ·exact ⟨k, h1, h⟩
  ·exact edge p h0 k h1
theorem near_of (F N D a : Nat) (hD : 0 < D) (h1 : val F a * D ≤ N) (h2 : N < val F (a + 1) * D) : Near F N D (if 2 * N < (val F a + val F (a + 1)) * D ∨ 2 * N = (val F a + val F (a + 1)) * D ∧ a % 2 = 0 then a else a + 1) := by
 have l1 := val_lt F (show a < a + 1 by omega)
 have l2 := val_lt F (show a + 1 < a + 2 by omega)
 have m1 : val F a * D < val F (a + 1) * D := Nat.mul_lt_mul_of_pos_right l1 hD
 have m2 : val F (a + 1) * D < val F (a + 2) * D := Nat.mul_lt_mul_of_pos_right l2 hD
 have e1 : (val F a + val F (a + 1)) * D = val F a * D + val F (a + 1) * D := Nat.add_mul _ _ _
 have e2 : (val F (a + 1) + val F (a + 2)) * D = val F (a + 1) * D + val F (a + 2) * D := Nat.add_mul _ _ _
 split
 ·rename_i h
  refine ⟨?_, ?_⟩
  ·rcases Nat.eq_zero_or_pos a with h0 | h0
   ·exact .inl h0
   ·right; left
    have l0 := val_lt F (show a - 1 < a by omega)
    have m0 : val F (a - 1) * D < val F a * D := Nat.mul_lt_mul_of_pos_right l0 hD
    rw [Nat.add_mul]
    omega
  ·exact h
 ·rename_i h
  refine ⟨.inr ?_, .inl ?_⟩
  ·rw [Nat.add_sub_cancel]
   rcases Nat.lt_trichotomy (2 * N) ((val F a + val F (a + 1)) * D) with h3 | h3 | h3
   ·exact absurd (.inl h3) h
   ·right
    exact ⟨h3.symm, by
     have : ¬ a % 2 = 0 := fun q => h (.inr ⟨h3, q⟩)
     omega⟩
   ·exact .inl h3
  ·rw [e2]
   omega
theorem rung_at (F N D : Nat) (hD : 0 < D) : ∃ a, val F a * D ≤ N ∧ N < val F (a + 1) * D := by
 obtain ⟨a, h1, h2⟩ := edge (fun a => val F a * D ≤ N) (by simp [val_zero]) (N + 1) (by
  have h1 := val_ge F (N + 1)
  have h2 : (N + 1) * 1 ≤ val F (N + 1) * D := Nat.mul_le_mul h1 hD
  omega)
 exact ⟨a, h1, by omega⟩
theorem near_ex (F N D : Nat) (hD : 0 < D) : ∃ b, Near F N D b := by
 obtain ⟨a, h1, h2⟩ := rung_at F N D hD
 exact ⟨_, near_of F N D a hD h1 h2⟩
theorem near_mono {F n1 n2 d b1 b2 : Nat} (hd : 0 < d) (h1 : Near F n1 d b1) (h2 : Near F n2 d b2) (hn : n1 ≤ n2) : b1 ≤ b2 := by
 rcases Nat.lt_or_ge b2 b1 with h | h
 ·have a1 := h2.hi
  have a2 := h1.lo
  have h3 : val F b2 + val F (b2 + 1) ≤ val F (b1 - 1) + val F b1 := by
   have := val_le F (show b2 ≤ b1 - 1 by omega)
   have := val_le F (show b2 + 1 ≤ b1 by omega)
   omega
  have h4 := Nat.mul_le_mul_right d h3
  rcases a2 with a2 | a2 | ⟨a2, a3⟩
  ·omega
  ·rcases a1 with a1 | ⟨a1, _⟩ <;> omega
  ·rcases a1 with a1 | ⟨a1, a4⟩
   ·omega
   ·exfalso
    have h7 : (val F b2 + val F (b2 + 1)) * d = (val F (b1 - 1) + val F b1) * d := by omega
    have h8 := Nat.eq_of_mul_eq_mul_right hd h7
    rcases Nat.lt_or_eq_of_le (show b2 + 1 ≤ b1 from h) with h9 | h9
    ·have := val_lt F (show b2 < b1 - 1 by omega)
     have := val_lt F h9
     omega
    ·omega
 ·exact h
theorem near_between {F n1 n n2 d b : Nat} (hd : 0 < d) (h1 : Near F n1 d b) (h2 : Near F n2 d b) (l1 : n1 ≤ n) (l2 : n ≤ n2) : Near F n d b := by
 obtain ⟨c, hc⟩ := near_ex F n d hd
 have e1 := near_mono hd h1 hc l1
 have e2 := near_mono hd hc h2 l2
 obtain rfl : c = b := by omega
 exact hc
theorem near_scale {F n d b k : Nat} (hk : 0 < k) (h : Near F n d b) : Near F (n * k) (d * k) b := by
 have m : ∀ x y : Nat, x * (y * k) = x * y * k := fun x y => (Nat.mul_assoc _ _ _).symm
 have m2 : 2 * (n * k) = 2 * n * k := (Nat.mul_assoc _ _ _).symm
 refine ⟨?_, ?_⟩
 ·rw [m, m2]
  rcases h.lo with h | h | ⟨h, h2⟩
  ·exact .inl h
  ·exact .inr (.inl (Nat.mul_lt_mul_of_pos_right h hk))
  ·exact .inr (.inr ⟨by rw [h], h2⟩)
 ·rw [m2, m]
  rcases h.hi with h | ⟨h, h2⟩
  ·exact .inl (Nat.mul_lt_mul_of_pos_right h hk)
  ·exact .inr ⟨by rw [h], h2⟩
theorem near_unscale {F n d b k : Nat} (hk : 0 < k) (h : Near F (n * k) (d * k) b) : Near F n d b := by
 have m : ∀ x y : Nat, x * (y * k) = x * y * k := fun x y => (Nat.mul_assoc _ _ _).symm
 have m2 : 2 * (n * k) = 2 * n * k := (Nat.mul_assoc _ _ _).symm
 have h1 := h.lo
 have h2 := h.hi
 rw [m, m2] at h1
 rw [m2, m] at h2
 refine ⟨?_, ?_⟩
 ·rcases h1 with h | h | ⟨h, h2⟩
  ·exact .inl h
  ·exact .inr (.inl (Nat.lt_of_mul_lt_mul_right h))
  ·exact .inr (.inr ⟨Nat.eq_of_mul_eq_mul_right hk h, h2⟩)
 ·rcases h2 with h | ⟨h, h2⟩
  ·exact .inl (Nat.lt_of_mul_lt_mul_right h)
  ·exact .inr ⟨Nat.eq_of_mul_eq_mul_right hk h, h2⟩
theorem near_rat {F n1 d1 n2 d2 b : Nat} (h1 : 0 < d1) (h2 : 0 < d2) (e : n1 * d2 = n2 * d1) (h : Near F n1 d1 b) : Near F n2 d2 b := by
 refine near_unscale (k := d1) h1 ?_
 rw [← e, Nat.mul_comm d2 d1]
 exact near_scale h2 h
noncomputable def nr (F N D : Nat) : Nat := if h : 0 < D then Classical.choose (near_ex F N D h) else 0
theorem nr_near (F N D : Nat) (hD : 0 < D) : Near F N D (nr F N D) := by
 unfold nr
 rw [dif_pos hD]
 exact Classical.choose_spec (near_ex F N D hD)
theorem nr_eq {F N D b : Nat} (hD : 0 < D) (h : Near F N D b) : nr F N D = b := (nr_near F N D hD).eq hD h
theorem nr_rat {F n1 d1 n2 d2 : Nat} (h1 : 0 < d1) (h2 : 0 < d2) (e : n1 * d2 = n2 * d1) : nr F n1 d1 = nr F n2 d2 := (nr_eq h2 (near_rat h1 h2 e (nr_near F n1 d1 h1))).symm
theorem nr_mono {F n1 n2 d : Nat} (hd : 0 < d) (h : n1 ≤ n2) : nr F n1 d ≤ nr F n2 d := near_mono hd (nr_near F n1 d hd) (nr_near F n2 d hd) h
theorem nr_zero (F d : Nat) (hd : 0 < d) : nr F 0 d = 0 := by
 refine nr_eq hd ⟨.inl rfl, .inl ?_⟩
 have := val_lt F (show 0 < 0 + 1 by omega)
 exact Nat.mul_pos (by omega) hd
theorem nr_val (F b d : Nat) (hd : 0 < d) : nr F (val F b * d) d = b := by
 have l2 := val_lt F (show b < b + 1 by omega)
 refine nr_eq hd ⟨?_, .inl ?_⟩
 ·rcases Nat.eq_zero_or_pos b with h | h
  ·exact .inl h
  ·right; left
   have l1 := val_lt F (show b - 1 < b by omega)
   have := Nat.mul_lt_mul_of_pos_right l1 hd
   rw [Nat.add_mul]
   omega
 ·have := Nat.mul_lt_mul_of_pos_right l2 hd
  rw [Nat.add_mul]
  omega
theorem nr_ge {F N D E : Nat} (hD : 0 < D) (h : val F E * D ≤ N) : E ≤ nr F N D := by
 have := nr_mono (F := F) hD h
 rwa [nr_val F E D hD] at this
def pM (F b : Nat) : Nat := if b / 2 ^ F = 0 then b else b % 2 ^ F + 2 ^ F
def pE (F b : Nat) : Nat := b / 2 ^ F - 1
theorem val_parts (F b : Nat) : val F b = pM F b * 2 ^ pE F b := by
 unfold val pM pE
 split
 ·rename_i h; rw [h]; simp
 ·rfl
theorem mid_parts (F b : Nat) : val F b + val F (b + 1) = (2 * pM F b + 1) * 2 ^ pE F b := by
 rw [val_succ, val_parts]
 unfold step
 rw [Nat.add_mul, Nat.one_mul]
 show _ + (_ + 2 ^ pE F b) = _
 generalize 2 ^ pE F b = z
 grind
theorem pM_odd (F b : Nat) (hF : 1 ≤ F) : pM F b % 2 = b % 2 := by
 unfold pM
 have h1 : 2 ^ F = 2 * 2 ^ (F - 1) := by rw [← Nat.pow_succ']; congr 1; omega
 split
 ·rfl
 ·rw [h1]
  have h2 : b % (2 * 2 ^ (F - 1)) % 2 = b % 2 := Nat.mod_mul_right_mod b 2 _
  omega
def cmpN (a b : Nat) : Int := if a < b then -1 else if b < a then 1 else 0
theorem cmpN_le {a b : Nat} : cmpN a b ≤ 0 ↔ a ≤ b := by unfold cmpN; split <;> (try split) <;> omega
theorem cmpN_lt {a b : Nat} : cmpN a b < 0 ↔ a < b := by unfold cmpN; split <;> (try split) <;> omega
theorem cmpN_eq {a b : Nat} : cmpN a b = 0 ↔ a = b := by unfold cmpN; split <;> (try split) <;> omega
theorem cmpN_mul {a b k : Nat} (hk : 0 < k) : cmpN (a * k) (b * k) = cmpN a b := by
 unfold cmpN
 by_cases h1 : a < b
 ·rw [if_pos h1, if_pos (Nat.mul_lt_mul_of_pos_right h1 hk)]
 ·by_cases h2 : b < a
  ·rw [if_neg h1, if_pos h2, if_neg (fun h => h1 (Nat.lt_of_mul_lt_mul_right h)), if_pos (Nat.mul_lt_mul_of_pos_right h2 hk)]
  ·rw [if_neg h1, if_neg h2, if_neg (fun h => h1 (Nat.lt_of_mul_lt_mul_right h)), if_neg (fun h => h2 (Nat.lt_of_mul_lt_mul_right h))]
def ag (mant : Nat) (power : Int) (num den : Nat) : Int := cmpN (mant * 2 ^ power.toNat * den) (num * 2 ^ (-power).toNat)
theorem ag_eq (mant num den e Q : Nat) : ag mant ((e : Int) - (Q : Int)) num den = cmpN (mant * 2 ^ e * den) (num * 2 ^ Q) := by
 unfold ag
 rcases Nat.le_total Q e with h | h
 ·have e1 : ((e : Int) - (Q : Int)).toNat = e - Q := by omega
  have e2 : (-((e : Int) - (Q : Int))).toNat = 0 := by omega
  rw [e1, e2, Nat.pow_zero, Nat.mul_one]
  have e3 : 2 ^ e = 2 ^ (e - Q) * 2 ^ Q := by rw [← Nat.pow_add]; congr 1; omega
  rw [e3, ← cmpN_mul (k := 2 ^ Q) (Nat.pow_pos (by omega))]
  congr 1
  generalize 2 ^ (e - Q) = x
  generalize 2 ^ Q = y
  grind
 ·have e1 : ((e : Int) - (Q : Int)).toNat = 0 := by omega
  have e2 : (-((e : Int) - (Q : Int))).toNat = Q - e := by omega
  rw [e1, e2, Nat.pow_zero, Nat.mul_one]
  have e3 : 2 ^ Q = 2 ^ (Q - e) * 2 ^ e := by rw [← Nat.pow_add]; congr 1; omega
  rw [e3, ← cmpN_mul (k := 2 ^ e) (Nat.pow_pos (by omega))]
  congr 1
  ·generalize 2 ^ e = x; grind
  ·generalize 2 ^ (Q - e) = x; generalize 2 ^ e = y; grind
theorem ag_val (F b Pm num den : Nat) : ag (pM F b) ((pE F b : Int) - (Pm : Int)) num den = cmpN (val F b * den) (num * 2 ^ Pm) := by
 rw [ag_eq, val_parts]
theorem ag_mid (F b Pm num den : Nat) : ag (2 * pM F b + 1) ((pE F b : Int) - (Pm : Int) - 1) num den = cmpN ((val F b + val F (b + 1)) * den) (2 * (num * 2 ^ Pm)) := by
 have e : (pE F b : Int) - (Pm : Int) - 1 = (pE F b : Int) - ((Pm + 1 : Nat) : Int) := by omega
 rw [e, ag_eq, mid_parts, Nat.pow_succ]
 congr 1
 generalize 2 ^ Pm = z
 grind
def upN (F Pm num den low : Nat) : Nat :=
 if ag (2 * pM F low + 1) ((pE F low : Int) - (Pm : Int) - 1) num den < 0 ∨ ag (2 * pM F low + 1) ((pE F low : Int) - (Pm : Int) - 1) num den = 0 ∧ pM F low % 2 = 1 then low + 1 else low
theorem up_near (F E Pm num den low : Nat) (hF : 1 ≤ F) (hd : 0 < den) (hE : low < E) (h1 : val F low * den ≤ num * 2 ^ Pm) (h2 : low + 1 = E ∨ num * 2 ^ Pm < val F (low + 1) * den) :
  (nr F (num * 2 ^ Pm) den < E → upN F Pm num den low = nr F (num * 2 ^ Pm) den) ∧ (E ≤ nr F (num * 2 ^ Pm) den → upN F Pm num den low = E) := by
 have hup : upN F Pm num den low = if 2 * (num * 2 ^ Pm) < (val F low + val F (low + 1)) * den ∨ 2 * (num * 2 ^ Pm) = (val F low + val F (low + 1)) * den ∧ low % 2 = 0 then low else low + 1 := by
  unfold upN
  rw [ag_mid, pM_odd F low hF]
  have c1 := @cmpN_lt ((val F low + val F (low + 1)) * den) (2 * (num * 2 ^ Pm))
  have c2 := @cmpN_eq ((val F low + val F (low + 1)) * den) (2 * (num * 2 ^ Pm))
  generalize (val F low + val F (low + 1)) * den = x at *
  generalize 2 * (num * 2 ^ Pm) = y at *
  simp only [c1, c2]
  by_cases q1 : x < y
  ·rw [if_pos (.inl q1), if_neg (by omega)]
  ·by_cases q2 : x = y
   ·by_cases q3 : low % 2 = 1
    ·rw [if_pos (.inr ⟨q2, q3⟩), if_neg (by omega)]
    ·rw [if_neg (by omega), if_pos (.inr ⟨q2.symm, by omega⟩)]
   ·rw [if_neg (by omega), if_pos (.inl (by omega))]
 by_cases h3 : num * 2 ^ Pm < val F (low + 1) * den
 ·have hn := near_of F (num * 2 ^ Pm) den low hd h1 h3
  rw [← hup] at hn
  have he := nr_eq hd hn
  refine ⟨fun _ => he.symm, fun h => ?_⟩
  have : upN F Pm num den low ≤ low + 1 := by rw [hup]; split <;> omega
  omega
 ·have h4 : low + 1 = E := h2.resolve_right h3
  have h5 := nr_ge (F := F) (N := num * 2 ^ Pm) (D := den) (E := E) hd (by rw [← h4]; omega)
  refine ⟨fun h => by omega, fun _ => ?_⟩
  rw [hup, if_neg, h4]
  have l1 := val_lt F (show low < low + 1 by omega)
  have l2 := Nat.mul_lt_mul_of_pos_right l1 hd
  rw [Nat.add_mul]
  omega
/-! ### digits times a power of a base -/
noncomputable def rdV (F Pm B M : Nat) (p : Int) : Nat := nr F (M * B ^ p.toNat * 2 ^ Pm) (B ^ (-p).toNat)
theorem rdV_zero (F Pm B : Nat) (p : Int) (hB : 0 < B) : rdV F Pm B 0 p = 0 := by
 unfold rdV
 rw [Nat.zero_mul, Nat.zero_mul]
 exact nr_zero F _ (Nat.pow_pos hB)
theorem rdV_huge {F Pm B M E K : Nat} {p : Int} (hB : 0 < B) (hE : val F E = 2 ^ K * 2 ^ Pm) (h : 2 ^ K * B ^ (-p).toNat ≤ M * B ^ p.toNat) : E ≤ rdV F Pm B M p := by
 unfold rdV
 refine nr_ge (Nat.pow_pos hB) ?_
 rw [hE]
 have := Nat.mul_le_mul_right (2 ^ Pm) h
 generalize 2 ^ K = x at *
 generalize 2 ^ Pm = y at *
 have e : x * y * B ^ (-p).toNat = x * B ^ (-p).toNat * y := by grind
 rw [e]
 exact this
theorem rdV_tiny {F Pm B M : Nat} {p : Int} (hB : 0 < B) (h : 2 * (M * B ^ p.toNat * 2 ^ Pm) < B ^ (-p).toNat) : rdV F Pm B M p = 0 := by
 unfold rdV
 refine nr_eq (Nat.pow_pos hB) ⟨.inl rfl, .inl ?_⟩
 have h1 := val_succ F 0
 rw [val_zero] at h1
 have h2 := step_pos F 0
 rw [val_zero, h1]
 have := Nat.mul_le_mul_right (B ^ (-p).toNat) (show 1 ≤ 0 + (0 + step F 0) by omega)
 omega
theorem rdV_same {F Pm B M M' : Nat} {p p' : Int} (hB : 0 < B) (h : M * B ^ p.toNat * B ^ (-p').toNat = M' * B ^ p'.toNat * B ^ (-p).toNat) : rdV F Pm B M p = rdV F Pm B M' p' := by
 unfold rdV
 refine nr_rat (Nat.pow_pos hB) (Nat.pow_pos hB) ?_
 generalize 2 ^ Pm = y
 have e1 : M * B ^ p.toNat * y * B ^ (-p').toNat = M * B ^ p.toNat * B ^ (-p').toNat * y := by grind
 have e2 : M' * B ^ p'.toNat * y * B ^ (-p).toNat = M' * B ^ p'.toNat * B ^ (-p).toNat * y := by grind
 rw [e1, e2, h]
theorem rdV_shift {F Pm B M k : Nat} {p : Int} (hB : 0 < B) : rdV F Pm B (M * B ^ k) p = rdV F Pm B M (p + k) := by
 refine rdV_same hB ?_
 have e : B ^ k * B ^ p.toNat * B ^ (-(p + k)).toNat = B ^ (p + k).toNat * B ^ (-p).toNat := by
  rw [← Nat.pow_add, ← Nat.pow_add, ← Nat.pow_add]
  congr 1
  omega
 calc M * B ^ k * B ^ p.toNat * B ^ (-(p + k)).toNat = M * (B ^ k * B ^ p.toNat * B ^ (-(p + k)).toNat) := by grind
  _ = M * (B ^ (p + k).toNat * B ^ (-p).toNat) := by rw [e]
  _ = _ := by grind
theorem rdV_mono {F Pm B M M' : Nat} {p : Int} (hB : 0 < B) (h : M ≤ M') : rdV F Pm B M p ≤ rdV F Pm B M' p := by
 unfold rdV
 exact nr_mono (Nat.pow_pos hB) (Nat.mul_le_mul_right _ (Nat.mul_le_mul_right _ h))
structure Fm (f : Ieee.Format) (Pm : Nat) : Prop where
 F1 : 1 ≤ f.fractionBits
 lp : f.leastPlace = -(Pm : Int)
 sw : f.infRung < f.signWeight
theorem fm_read {f : Ieee.Format} {Pm : Nat} (h : Fm f Pm) (s : Bool) (b : Nat) (hb : b < f.infRung) : f.read (f.word s b) = .number s (pM f.fractionBits b) ((pE f.fractionBits b : Int) - (Pm : Int)) := by
 have hw : f.word s b / f.signWeight % 2 = (if s then 1 else 0) ∧ f.word s b % f.signWeight = b := by
  have := h.sw
  unfold Ieee.Format.word
  have hp : 0 < f.signWeight := by omega
  cases s
  ·simp only [Bool.false_eq_true, if_false]
   exact ⟨by rw [Nat.div_eq_of_lt (by omega)], Nat.mod_eq_of_lt (by omega)⟩
  ·simp only [if_true]
   have h1 : (f.signWeight + b) / f.signWeight = 1 := by rw [Nat.add_div_left _ hp, Nat.div_eq_of_lt (by omega)]
   have h2 : (f.signWeight + b) % f.signWeight = b := by rw [Nat.add_mod_left, Nat.mod_eq_of_lt (by omega)]
   rw [h1, h2]
   exact ⟨rfl, rfl⟩
 unfold Ieee.Format.read
 simp only []
 rw [hw.2, hw.1]
 have hs : ((if s = true then 1 else 0) == 1) = s := by cases s <;> rfl
 rw [hs, h.lp]
 unfold pM pE
 have hB : f.binade = 2 ^ f.fractionBits := rfl
 rw [hB]
 have hg : 0 < 2 ^ f.fractionBits := Nat.pow_pos (by omega)
 by_cases h1 : b < 2 ^ f.fractionBits
 ·rw [if_pos h1, if_pos (Nat.div_eq_of_lt h1), Nat.div_eq_of_lt h1]
  congr 1
  omega
 ·have h2 : b / 2 ^ f.fractionBits ≠ 0 := by
   have := Nat.div_pos (show 2 ^ f.fractionBits ≤ b by omega) hg
   omega
  rw [if_neg h1, if_pos hb, if_neg h2]
  congr 1
  ·omega
  ·omega
theorem fm_near {f : Ieee.Format} {Pm : Nat} (h : Fm f Pm) (s : Bool) (mag : Nat) (place : Int) (hm : mag ≠ 0) (N D : Nat) (hD : 0 < D) (hx : N * 2 ^ (-place - (Pm : Int)).toNat = mag * 2 ^ (place + (Pm : Int)).toNat * D) :
  f.nearest s mag place = f.word s (min (nr f.fractionBits N D) f.infRung) := by
 obtain ⟨b, h1, h2⟩ := nearest_near f h.F1 s mag place hm N D hD (by
  rw [h.lp, show (-(Pm : Int) - place).toNat = (-place - (Pm : Int)).toNat by congr 1; omega, show (place - -(Pm : Int)).toNat = (place + (Pm : Int)).toNat by congr 1; omega]
  exact hx)
 rw [h2, nr_eq hD h1]
theorem fm_mul {f : Ieee.Format} {Pm : Nat} (h : Fm f Pm) (s t : Bool) (x y : Nat) (hx : x < f.infRung) (hy : y < f.infRung) (hx0 : x ≠ 0) (hy0 : y ≠ 0) :
  f.mul (f.word s x) (f.word t y) = some (f.word (s ^^ t) (min (nr f.fractionBits (val f.fractionBits x * val f.fractionBits y) (2 ^ Pm)) f.infRung)) := by
 unfold Ieee.Format.mul
 rw [fm_read h s x hx, fm_read h t y hy]
 simp only [Ieee.Datum.product, Option.map_some, Ieee.Format.write]
 have pp : ∀ b, b ≠ 0 → pM f.fractionBits b ≠ 0 := fun b hb => by
  unfold pM
  split
  ·exact hb
  ·have : 0 < 2 ^ f.fractionBits := Nat.pow_pos (by omega)
   omega
 rw [fm_near h _ _ _ (Nat.mul_ne_zero (pp x hx0) (pp y hy0)) (val f.fractionBits x * val f.fractionBits y) (2 ^ Pm) (Nat.pow_pos (by omega))]
 rw [val_parts, val_parts]
 generalize pM f.fractionBits x = a
 generalize pM f.fractionBits y = b
 generalize pE f.fractionBits x = i
 generalize pE f.fractionBits y = j
 have e : i + j + (-((i : Int) - Pm + ((j : Int) - Pm)) - (Pm : Int)).toNat = (((i : Int) - Pm + ((j : Int) - Pm)) + (Pm : Int)).toNat + Pm := by omega
 have e2 : 2 ^ i * 2 ^ j * 2 ^ (-((i : Int) - Pm + ((j : Int) - Pm)) - (Pm : Int)).toNat = 2 ^ (((i : Int) - Pm + ((j : Int) - Pm)) + (Pm : Int)).toNat * 2 ^ Pm := by
  rw [← Nat.pow_add, ← Nat.pow_add, ← Nat.pow_add, e]
 generalize 2 ^ (-((i : Int) - Pm + ((j : Int) - Pm)) - (Pm : Int)).toNat = z at *
 generalize 2 ^ (((i : Int) - Pm + ((j : Int) - Pm)) + (Pm : Int)).toNat = u at *
 generalize 2 ^ Pm = w at *
 generalize 2 ^ i = p at *
 generalize 2 ^ j = q at *
 calc a * p * (b * q) * z = a * b * (p * q * z) := by grind
  _ = a * b * (u * w) := by rw [e2]
  _ = a * b * u * w := by grind
theorem fm_div {f : Ieee.Format} {Pm : Nat} (h : Fm f Pm) (s t : Bool) (x y : Nat) (hx : x < f.infRung) (hy : y < f.infRung) (hx0 : x ≠ 0) (hy0 : y ≠ 0) :
  f.div (f.word s x) (f.word t y) = some (f.word (s ^^ t) (min (nr f.fractionBits (val f.fractionBits x * 2 ^ Pm) (val f.fractionBits y)) f.infRung)) := by
 unfold Ieee.Format.div
 rw [fm_read h s x hx, fm_read h t y hy]
 have pp : ∀ b, b ≠ 0 → pM f.fractionBits b ≠ 0 := fun b hb => by
  unfold pM
  split
  ·exact hb
  ·have : 0 < 2 ^ f.fractionBits := Nat.pow_pos (by omega)
   omega
 have hn := pp y hy0
 have hm := pp x hx0
 have hvy : 0 < val f.fractionBits y := by
  rw [val_parts]
  exact Nat.mul_pos (by omega) (Nat.pow_pos (by omega))
 have hv := val_parts f.fractionBits x
 have hv2 := val_parts f.fractionBits y
 generalize val f.fractionBits x = vx at *
 generalize val f.fractionBits y = vy at *
 generalize pM f.fractionBits x = a at *
 generalize pM f.fractionBits y = n at *
 generalize pE f.fractionBits x = i at *
 generalize pE f.fractionBits y = j at *
 simp only [Ieee.Datum.quotient, if_neg hn, Option.map_some, Ieee.Format.write, Nat.shiftLeft_eq]
 obtain ⟨g, hg⟩ : ∃ g, g = f.fractionBits + 2 + n.log2 - a.log2 := ⟨_, rfl⟩
 rw [← hg]
 have hmk : 2 * (a * 2 ^ g / n) + (a * 2 ^ g % n != 0).toNat = mark2 (a * 2 ^ g) n := rfl
 rw [hmk]
 have hbig : 2 ^ (f.fractionBits + 1) * n ≤ a * 2 ^ g := by
  have h1 : 2 ^ a.log2 ≤ a := Nat.log2_self_le hm
  have h2 : n < 2 ^ (n.log2 + 1) := Nat.lt_log2_self
  have h3 : 2 ^ (f.fractionBits + 2 + n.log2) ≤ 2 ^ a.log2 * 2 ^ g := by rw [← Nat.pow_add]; exact Nat.pow_le_pow_right (by omega) (by omega)
  have h4 : 2 ^ (f.fractionBits + 2 + n.log2) = 2 ^ (f.fractionBits + 1) * 2 ^ (n.log2 + 1) := by rw [← Nat.pow_add]; congr 1; omega
  have h5 := Nat.mul_le_mul_left (2 ^ (f.fractionBits + 1)) (Nat.le_of_lt h2)
  have h6 := Nat.mul_le_mul_right (2 ^ g) h1
  omega
 have hlog : f.fractionBits + 2 ≤ (mark2 (a * 2 ^ g) n).log2 := by
  have h1 := (mark2_ge (a := a * 2 ^ g) (n := n) (e := 2 ^ (f.fractionBits + 1)) (by omega)).2 hbig
  have h2 : 2 ^ (f.fractionBits + 2) ≤ mark2 (a * 2 ^ g) n := by
   have : 2 ^ (f.fractionBits + 2) = 2 * 2 ^ (f.fractionBits + 1) := by rw [← Nat.pow_succ']
   omega
  exact (Nat.le_log2 (by have : 0 < 2 ^ (f.fractionBits + 2) := Nat.pow_pos (by omega); omega)).2 h2
 obtain ⟨b, h1, h2⟩ := nearest_mark f h.F1 (s ^^ t) (a * 2 ^ g) n ((i : Int) - Pm - ((j : Int) - Pm) - g - 1) (by omega) hlog (vx * 2 ^ Pm) vy hvy (by
  rw [h.lp, hv, hv2]
  obtain ⟨c1, hc1⟩ : ∃ c, c = (-(Pm : Int) - ((i : Int) - Pm - ((j : Int) - Pm) - g - 1)).toNat := ⟨_, rfl⟩
  obtain ⟨c2, hc2⟩ : ∃ c, c = ((i : Int) - Pm - ((j : Int) - Pm) - g - 1 - -(Pm : Int)).toNat := ⟨_, rfl⟩
  rw [← hc1, ← hc2]
  have e : i + Pm + c1 = 1 + g + c2 + j := by omega
  have e2 : 2 ^ i * 2 ^ Pm * 2 ^ c1 = 2 * 2 ^ g * 2 ^ c2 * 2 ^ j := by
   rw [← Nat.pow_add, ← Nat.pow_add, e, Nat.pow_add, Nat.pow_add, Nat.pow_add]
  generalize 2 ^ i = p1 at *
  generalize 2 ^ Pm = p2 at *
  generalize 2 ^ c1 = p3 at *
  generalize 2 ^ g = p4 at *
  generalize 2 ^ c2 = p5 at *
  generalize 2 ^ j = p6 at *
  calc a * p1 * p2 * p3 * n = a * n * (p1 * p2 * p3) := by grind
   _ = a * n * (2 * p4 * p5 * p6) := by rw [e2]
   _ = 2 * (a * p4) * p5 * (n * p6) := by grind)
 rw [h2, nr_eq hvy h1]
theorem rep (F mag e : Nat) (h0 : 0 < mag) (h : mag < 2 * 2 ^ F) : ∃ b, val F b = mag * 2 ^ e := by
 obtain ⟨j, hj⟩ : ∃ j, j = min e (F - mag.log2) := ⟨_, rfl⟩
 have h1 : 2 ^ mag.log2 ≤ mag := Nat.log2_self_le (by omega)
 have h2 : mag < 2 ^ (mag.log2 + 1) := Nat.lt_log2_self
 have hL : mag.log2 ≤ F := by
  have h3 : 2 ^ mag.log2 < 2 ^ (F + 1) := by rw [Nat.pow_succ']; omega
  have := (Nat.pow_lt_pow_iff_right (a := 2) (by omega)).1 h3
  omega
 refine ⟨(e - j) * 2 ^ F + mag * 2 ^ j, ?_⟩
 rw [val_mk' F (e - j) (mag * 2 ^ j)]
 ·rw [Nat.mul_assoc, ← Nat.pow_add]
  congr 2
  omega
 ·have h3 : mag * 2 ^ j < 2 ^ (mag.log2 + 1) * 2 ^ j := Nat.mul_lt_mul_of_pos_right h2 (Nat.pow_pos (by omega))
  have h4 : 2 ^ (mag.log2 + 1) * 2 ^ j ≤ 2 * 2 ^ F := by
   rw [← Nat.pow_add, ← Nat.pow_succ']
   exact Nat.pow_le_pow_right (by omega) (by omega)
  omega
 ·by_cases he : e ≤ F - mag.log2
  ·left; omega
  ·right
   have h3 : 2 ^ mag.log2 * 2 ^ j ≤ mag * 2 ^ j := Nat.mul_le_mul_right _ h1
   have h4 : 2 ^ F = 2 ^ mag.log2 * 2 ^ j := by
    rw [← Nat.pow_add]
    congr 1
    omega
   omega
end
section
set_option maxRecDepth 100000
open Go
def dnum (l : List Nat) : Nat := l.foldl (fun a d => 10 * a + d) 0
theorem dfold (l : List Nat) : ∀ a, l.foldl (fun a d => 10 * a + d) a = a * 10 ^ l.length + dnum l := by
 induction l with
 | nil => intro a; simp [dnum]
 | cons d r ih =>
  intro a
  have h1 := ih (10 * a + d)
  have h2 := ih (10 * 0 + d)
  unfold dnum
  simp only [List.foldl_cons, List.length_cons] at *
  rw [h1, h2, Nat.pow_succ]
  generalize 10 ^ r.length = z
  generalize dnum r = y
  grind
theorem dnum_nil : dnum [] = 0 := rfl
theorem dnum_app (a b : List Nat) : dnum (a ++ b) = dnum a * 10 ^ b.length + dnum b := by
 unfold dnum
 rw [List.foldl_append]
 exact dfold b _
theorem dnum_snoc (a : List Nat) (d : Nat) : dnum (a ++ [d]) = 10 * dnum a + d := by
 rw [dnum_app]
 simp [dnum]
 omega
theorem dnum_cons (d : Nat) (r : List Nat) : dnum (d :: r) = d * 10 ^ r.length + dnum r := by
 have := dnum_app [d] r
 simpa [dnum] using this
theorem dnum_lt {l : List Nat} (h : ∀ d ∈ l, d ≤ 9) : dnum l < 10 ^ l.length := by
 induction l with
 | nil => simp [dnum]
 | cons d r ih =>
  have h1 := ih (fun x hx => h x (List.mem_cons_of_mem _ hx))
  have h2 := h d List.mem_cons_self
  rw [dnum_cons, List.length_cons, Nat.pow_succ]
  have h3 := Nat.mul_le_mul_right (10 ^ r.length) h2
  generalize 10 ^ r.length = z at *
  omega
theorem dnum_ge {d : Nat} {r : List Nat} (h : d ≠ 0) : 10 ^ r.length ≤ dnum (d :: r) := by
 rw [dnum_cons]
 have := Nat.mul_le_mul_right (10 ^ r.length) (show 1 ≤ d by omega)
 omega
theorem dnum_zeros (n : Nat) : dnum (List.replicate n 0) = 0 := by
 induction n with
 | zero => rfl
 | succ n ih => rw [List.replicate_succ, dnum_cons, ih]; simp
theorem dnum_last {l : List Nat} {d : Nat} (h : dnum (l ++ [d]) % 10 = 0) (hd : d ≤ 9) : d = 0 := by
 rw [dnum_snoc] at h
 omega
/-! ### the value of digits behind a point -/
def DV (l : List Nat) (dp : Int) (n d : Nat) : Prop := dnum l * 10 ^ (dp - l.length).toNat * d = n * 10 ^ ((l.length : Int) - dp).toNat
theorem pow_split {a b c e : Nat} {B : Nat} (h : a + b = c + e) : B ^ a * B ^ b = B ^ c * B ^ e := by rw [← Nat.pow_add, ← Nat.pow_add, h]
theorem DV_trim {l : List Nat} {dp : Int} {n d k : Nat} : DV (l ++ List.replicate k 0) dp n d ↔ DV l dp n d := by
 unfold DV
 rw [dnum_app, dnum_zeros, Nat.add_zero, List.length_append, List.length_replicate]
 have hp : 10 ^ k * 10 ^ (dp - ((l.length + k : Nat) : Int)).toNat * 10 ^ ((l.length : Int) - dp).toNat = 10 ^ (dp - (l.length : Int)).toNat * 10 ^ (((l.length + k : Nat) : Int) - dp).toNat := by
  rw [← Nat.pow_add, ← Nat.pow_add, ← Nat.pow_add]
  congr 1
  omega
 have p1 : 0 < 10 ^ ((l.length : Int) - dp).toNat := Nat.pow_pos (by omega)
 have p2 : 0 < 10 ^ (((l.length + k : Nat) : Int) - dp).toNat := Nat.pow_pos (by omega)
 generalize 10 ^ (dp - ((l.length + k : Nat) : Int)).toNat = a at *
 generalize 10 ^ ((l.length : Int) - dp).toNat = b at *
 generalize 10 ^ (dp - (l.length : Int)).toNat = c at *
 generalize 10 ^ (((l.length + k : Nat) : Int) - dp).toNat = e at *
 generalize 10 ^ k = z at *
 generalize dnum l = x at *
 constructor
 ·intro h
  refine Nat.eq_of_mul_eq_mul_right p2 ?_
  calc x * c * d * e = x * d * (c * e) := by grind
   _ = x * d * (z * a * b) := by rw [hp]
   _ = x * z * a * d * b := by grind
   _ = n * e * b := by rw [h]
   _ = n * b * e := by grind
 ·intro h
  refine Nat.eq_of_mul_eq_mul_right p1 ?_
  calc x * z * a * d * b = x * d * (z * a * b) := by grind
   _ = x * d * (c * e) := by rw [hp]
   _ = x * c * d * e := by grind
   _ = n * b * e := by rw [h]
   _ = n * e * b := by grind
theorem DV_scale {l : List Nat} {dp : Int} {n d k : Nat} (hk : 0 < k) : DV l dp (n * k) (d * k) ↔ DV l dp n d := by
 unfold DV
 generalize dnum l * 10 ^ (dp - l.length).toNat = x
 generalize 10 ^ ((l.length : Int) - dp).toNat = y
 constructor
 ·intro h
  refine Nat.eq_of_mul_eq_mul_right hk ?_
  calc x * d * k = x * (d * k) := by grind
   _ = n * k * y := h
   _ = n * y * k := by grind
 ·intro h
  calc x * (d * k) = x * d * k := by grind
   _ = n * y * k := by rw [h]
   _ = n * k * y := by grind
theorem DV_right {l o : List Nat} {dp : Int} {n d k r t : Nat} (h : DV l dp n d) (hq : dnum o * (10 * 2 ^ k) * 10 ^ (l.length - t) = dnum l * 10 ^ (t - l.length)) (hr : t = r + o.length) (hr1 : 1 ≤ r) :
  DV o (dp - ((r : Int) - 1)) n (d * 2 ^ k) := by
 unfold DV at *
 have hp : 10 * 10 ^ (l.length - t) * 10 ^ (dp - (l.length : Int)).toNat * 10 ^ ((o.length : Int) - (dp - ((r : Int) - 1))).toNat =
   10 ^ (t - l.length) * 10 ^ ((l.length : Int) - dp).toNat * 10 ^ (dp - ((r : Int) - 1) - (o.length : Int)).toNat := by
  rw [← Nat.pow_succ', ← Nat.pow_add, ← Nat.pow_add, ← Nat.pow_add, ← Nat.pow_add]
  congr 1
  omega
 have p1 : 0 < 10 ^ (t - l.length) := Nat.pow_pos (by omega)
 have p2 : 0 < 10 ^ ((l.length : Int) - dp).toNat := Nat.pow_pos (by omega)
 have p3 : 0 < 10 ^ (l.length - t) := Nat.pow_pos (by omega)
 have p4 : 0 < 10 ^ (dp - (l.length : Int)).toNat := Nat.pow_pos (by omega)
 have p5 : 0 < 10 ^ (dp - ((r : Int) - 1) - (o.length : Int)).toNat := Nat.pow_pos (by omega)
 generalize 10 ^ (t - l.length) = a at *
 generalize 10 ^ ((l.length : Int) - dp).toNat = b at *
 generalize 10 ^ (l.length - t) = c at *
 generalize 10 ^ (dp - (l.length : Int)).toNat = e at *
 generalize 10 ^ (dp - ((r : Int) - 1) - (o.length : Int)).toNat = f at *
 generalize 10 ^ ((o.length : Int) - (dp - ((r : Int) - 1))).toNat = g at *
 generalize dnum l = x at *
 generalize dnum o = y at *
 generalize 2 ^ k = z at *
 -- x e d = n b;  y (10 z) c = x a;  10 c e g = a b f;  want y f (d z) = n g
 refine Nat.eq_of_mul_eq_mul_right (show 0 < 10 * c * e * a * b by exact Nat.mul_pos (Nat.mul_pos (Nat.mul_pos (by omega) p4) p1) p2) ?_
 calc y * f * (d * z) * (10 * c * e * a * b) = (y * (10 * z) * c) * (e * d) * (a * b * f) := by grind
  _ = (x * a) * (e * d) * (a * b * f) := by rw [hq]
  _ = (x * e * d) * a * (a * b * f) := by grind
  _ = (n * b) * a * (10 * c * e * g) := by rw [h, hp]
  _ = n * g * (10 * c * e * a * b) := by grind
theorem DV_left {l o : List Nat} {dp δ : Int} {n d k : Nat} (h : DV l dp n d) (hq : dnum o = dnum l * 2 ^ k) (hl : (o.length : Int) = l.length + δ) : DV o (dp + δ) (n * 2 ^ k) d := by
 unfold DV at *
 have e1 : (dp + δ - (o.length : Int)) = dp - (l.length : Int) := by omega
 have e2 : ((o.length : Int) - (dp + δ)) = (l.length : Int) - dp := by omega
 rw [e1, e2, hq]
 generalize 10 ^ (dp - (l.length : Int)).toNat = a at *
 generalize 10 ^ ((l.length : Int) - dp).toNat = b at *
 calc dnum l * 2 ^ k * a * d = dnum l * a * d * 2 ^ k := by grind
  _ = n * b * 2 ^ k := by rw [h]
  _ = n * 2 ^ k * b := by grind
end
end Go.Proofs.YtlgneiaenanfaaaGreatDoor
