/- Walks and plain laws, merged: FqF FqG. No condition. -/
import Derived.Test.YtlgneiaenanfaaaGreatDoorKq10
import Derived.Laws.FloatArith
namespace Go.Proofs.YtlgneiaenanfaaaGreatDoor
open Go.RowKit
set_option linter.unusedVariables false
set_option linter.unusedSimpArgs false
set_option maxRecDepth 100000
set_option maxHeartbeats 64000000
set_option exponentiation.threshold 70000
section
set_option maxRecDepth 100000
open Go
def HR (N D n d : Nat) (z : Int) : Prop := N * d * 2 ^ (-z).toNat = n * D * 2 ^ z.toNat
theorem HR.half {N D n d : Nat} {z : Int} (h : HR N D n d z) : HR N D n (2 * d) (z + 1) := by
 unfold HR at *
 by_cases hz : 0 ≤ z
 ·rw [show (-z).toNat = 0 by omega, Nat.pow_zero, Nat.mul_one] at h
  rw [show (-(z + 1)).toNat = 0 by omega, show (z + 1).toNat = z.toNat + 1 by omega, Nat.pow_zero, Nat.mul_one, Nat.pow_succ]
  calc N * (2 * d) = N * d * 2 := by simp only [Nat.mul_assoc, Nat.mul_left_comm, Nat.mul_comm]
   _ = n * D * 2 ^ z.toNat * 2 := by rw [h]
   _ = _ := by simp only [Nat.mul_assoc]
 ·rw [show z.toNat = 0 by omega, show (-z).toNat = (-(z + 1)).toNat + 1 by omega, Nat.pow_succ, Nat.pow_zero, Nat.mul_one] at h
  rw [show (z + 1).toNat = 0 by omega, Nat.pow_zero, Nat.mul_one, ← h]
  simp only [Nat.mul_assoc, Nat.mul_left_comm, Nat.mul_comm]
theorem HR.dbl {N D n d : Nat} {z : Int} (h : HR N D n d z) : HR N D (2 * n) d (z - 1) := by
 unfold HR at *
 by_cases hz : 1 ≤ z
 ·rw [show (-z).toNat = 0 by omega, Nat.pow_zero, Nat.mul_one, show z.toNat = (z - 1).toNat + 1 by omega, Nat.pow_succ] at h
  rw [show (-(z - 1)).toNat = 0 by omega, Nat.pow_zero, Nat.mul_one, h]
  simp only [Nat.mul_assoc, Nat.mul_left_comm, Nat.mul_comm]
 ·rw [show z.toNat = 0 by omega, Nat.pow_zero, Nat.mul_one] at h
  rw [show (z - 1).toNat = 0 by omega, show (-(z - 1)).toNat = (-z).toNat + 1 by omega, Nat.pow_succ, Nat.pow_zero, Nat.mul_one, ← Nat.mul_assoc, h]
  simp only [Nat.mul_assoc, Nat.mul_left_comm, Nat.mul_comm]
theorem HR.halves {N D n : Nat} {z : Int} : ∀ (j d : Nat), HR N D n d z → HR N D n (2 ^ j * d) (z + j)
 | 0, d, h => by simpa using h
 | j + 1, d, h => by
  have := (HR.halves j d h).half
  rw [← Nat.mul_assoc, Nat.mul_comm 2 (2 ^ j), ← Nat.pow_succ] at this
  rw [show z + ((j + 1 : Nat) : Int) = z + (j : Int) + 1 by omega]
  exact this
theorem HR.start (F Pm M : Nat) (p : Int) : HR (M * 2 ^ p.toNat * 2 ^ Pm) (2 ^ (-p).toNat) M 1 (p + Pm) := by
 unfold HR
 rw [Nat.mul_one, Nat.mul_assoc, Nat.mul_assoc, Nat.mul_assoc, ← Nat.pow_add, ← Nat.pow_add, ← Nat.pow_add]
 congr 2
 omega
theorem HR.cancel {N D m j : Nat} {z : Int} (h : HR N D (m * 2 ^ j) (2 ^ j * 1) z) : HR N D m 1 z := by
 unfold HR at *
 have hp : 0 < 2 ^ j := Nat.pow_pos (by decide)
 refine Nat.eq_of_mul_eq_mul_right hp ?_
 rw [Nat.mul_one] at h ⊢
 calc N * 2 ^ (-z).toNat * 2 ^ j = N * 2 ^ j * 2 ^ (-z).toNat := by simp only [Nat.mul_assoc, Nat.mul_left_comm, Nat.mul_comm]
  _ = m * 2 ^ j * D * 2 ^ z.toNat := h
  _ = m * D * 2 ^ z.toNat * 2 ^ j := by simp only [Nat.mul_assoc, Nat.mul_left_comm, Nat.mul_comm]
theorem hex_near {F N D n d K u : Nat} (hF : 1 ≤ F) (hd : 0 < d) (hD : 0 < D) (hu : stk n d = u) (h : HR N D n d ((K : Int) - 2)) (h8 : u < 8 * 2 ^ F) (hK : K = 0 ∨ 4 * 2 ^ F ≤ u) : Near F N D (K * 2 ^ F + rnd4 u) := by
 have hx : N * (4 * d) = n * (2 ^ K * D) := by
  unfold HR at h
  by_cases h2 : 2 ≤ K
  ·rw [show (-((K : Int) - 2)).toNat = 0 by omega, Nat.pow_zero, Nat.mul_one, show ((K : Int) - 2).toNat = K - 2 by omega] at h
   have e : 2 ^ K = 2 ^ (K - 2) * 4 := by rw [show (4 : Nat) = 2 ^ 2 from rfl, ← Nat.pow_add]; congr 1; omega
   rw [e]
   calc N * (4 * d) = N * d * 4 := by simp only [Nat.mul_assoc, Nat.mul_left_comm, Nat.mul_comm]
    _ = n * D * 2 ^ (K - 2) * 4 := by rw [h]
    _ = _ := by simp only [Nat.mul_assoc, Nat.mul_left_comm, Nat.mul_comm]
  ·by_cases h1 : K = 1
   ·subst h1
    rw [show (-(((1 : Nat) : Int) - 2)).toNat = 1 by omega, show (((1 : Nat) : Int) - 2).toNat = 0 by omega] at h
    simp only [Nat.pow_zero, Nat.mul_one, Nat.pow_one] at h ⊢
    calc N * (4 * d) = N * d * 2 * 2 := by simp only [Nat.mul_assoc, Nat.mul_left_comm, Nat.mul_comm]
     _ = n * D * 2 := by rw [h]
     _ = _ := by simp only [Nat.mul_assoc, Nat.mul_left_comm, Nat.mul_comm]
   ·obtain rfl : K = 0 := by omega
    rw [show (-(((0 : Nat) : Int) - 2)).toNat = 2 by omega, show (((0 : Nat) : Int) - 2).toNat = 0 by omega] at h
    simp only [Nat.pow_zero, Nat.mul_one, Nat.one_mul] at h ⊢
    rw [← h]
    simp only [Nat.mul_assoc, Nat.mul_left_comm, Nat.mul_comm]
 have hr := rnd_stk n d hd
 rw [hu] at hr
 have hp : 0 < 2 ^ F := Nat.pow_pos (by decide)
 refine near_mk F N D n d K (rnd4 u) hF hd hD hx (by unfold rnd4; omega) ?_ hr ?_
 ·rcases hK with h | h
  ·exact Or.inl h
  ·exact Or.inr (by unfold rnd4; omega)
 ·intro e hK0
  have h4 : 4 * 2 ^ F ≤ u := by omega
  have := stk_low (n := n) (d := d) (t := 2 * 2 ^ F) (by rw [hu]; omega)
  have e2 : 2 * (2 * 2 ^ F) * d = 4 * (2 ^ F * d) := by rw [← Nat.mul_assoc 2 2, Nat.mul_assoc]
  rw [e]
  omega
theorem hex_zero {F N D n d c u : Nat} (hd : 0 < d) (hD : 0 < D) (hu : stk n d = u) (h : N * d * 2 ^ c = n * D) (h1 : u ≤ 1) (hc : 3 ≤ c) : Near F N D 0 := by
 have hn : n < 2 * d := by
  apply Classical.byContradiction
  intro hc
  have h2 : 2 ≤ n / d := (Nat.le_div_iff_mul_le hd).2 (by omega)
  have h3 : n / d ≤ stk n d := by unfold stk; exact Nat.left_le_or
  omega
 have v1 : val F 1 = 1 := by
  have := val_mk' F 0 1 (by have : 0 < 2 ^ F := Nat.pow_pos (by decide); omega) (Or.inl rfl)
  simpa using this
 refine ⟨Or.inl rfl, Or.inl ?_⟩
 rw [val_zero, Nat.zero_add, Nat.zero_add, v1, Nat.one_mul]
 have h8 : 8 ≤ 2 ^ c := by
  calc 8 = 2 ^ 3 := rfl
   _ ≤ 2 ^ c := Nat.pow_le_pow_right (by decide) hc
 have e1 : N * d * 8 ≤ n * D := by rw [← h]; exact Nat.mul_le_mul_left _ h8
 have e2 : n * D < 2 * d * D := Nat.mul_lt_mul_of_pos_right hn hD
 refine Nat.lt_of_mul_lt_mul_right (a := d) ?_
 have e3 : 2 * N * d = 2 * (N * d) := Nat.mul_assoc ..
 have e4 : D * d * 2 = 2 * d * D := by simp only [Nat.mul_assoc, Nat.mul_left_comm, Nat.mul_comm]
 omega
theorem stk_one (m : Nat) : stk m 1 = m := by
 unfold stk
 rw [Nat.div_one, Nat.mod_one, if_pos rfl, Nat.or_zero]
theorem half_or (n d : Nat) (hd : 0 < d) : stk n d / 2 ||| stk n d % 2 = stk n (2 * d) := by rw [or_half, stk_half n d hd]
theorem k_lost {B mx : Nat} {h : Bool} (hB : B = if h then 16 else 10) {D : List Int} (hD : ∀ c ∈ D, pD h c = true) (ht : kT mx D = true) : kM B mx D * B ^ (kN D - kK mx D) < gat B D 0 ∧ kK mx D = mx := by
 have hz : ∀ c ∈ dropZ D, pD h c = true := fun c hc => hD c ((List.dropWhile_suffix _).subset hc)
 have hlen : mx < (dropZ D).length := by
  apply Classical.byContradiction
  intro hc
  unfold kT at ht
  rw [List.drop_eq_nil_of_le (by omega)] at ht
  simp at ht
 have hK : kK mx D = mx := by unfold kK kN; omega
 refine ⟨?_, hK⟩
 have e : gat B D 0 = gat B ((dropZ D).take mx ++ (dropZ D).drop mx) 0 := by rw [List.take_append_drop, gat_dropZ]
 rw [e, gat_app, gat_add, List.length_drop, hK]
 unfold kM kN
 have hpos : 0 < gat B ((dropZ D).drop mx) 0 := by
  have key : ∀ l : List Int, (∀ c ∈ l, pD h c = true) → l.any (fun c => c != 48) = true → 0 < gat B l 0 := by
   intro l
   induction l with
   | nil => intro _ h2; simp at h2
   | cons c r ih =>
    intro h1 h2
    rw [gat_cons, gat_add, Nat.zero_mul, Nat.zero_add]
    by_cases hc : c = 48
    ·subst hc
     simp at h2
     have := ih (fun x hx => h1 x (List.mem_cons_of_mem _ hx)) (by simp; exact h2)
     omega
    ·have hp := h1 c List.mem_cons_self
     have hv : 0 < hxv c := by
      unfold hxv
      cases h
      ·have := isD_iff.1 hp
       have hp' : isD c = true := hp
       rw [if_pos hp']
       omega
      ·have := isH_iff.1 hp
       by_cases hd : isD c = true
       ·rw [if_pos hd]
        have := isD_iff.1 hd
        omega
       ·have h9 : ¬ (48 ≤ c ∧ c ≤ 57) := fun e => hd (isD_iff.2 e)
        rw [if_neg hd]
        split <;> omega
     have hB0 : 0 < B ^ r.length := Nat.pow_pos (by rw [hB]; split <;> omega)
     have := Nat.mul_pos hv hB0
     omega
  exact key _ (fun c hc => hz c (List.mem_of_mem_drop hc)) ht
 omega
theorem Fig.Ok.hexS {g : Fig} (hg : g.Ok) (hh : g.hex = true) (F Pm : Nat) : ∃ N D n d, 0 < d ∧ 0 < D ∧ rdV F Pm 2 g.M (g.p 10000) = nr F N D ∧ HR N D n d (g.e + Pm) ∧ stk n d = (if g.t then g.d ||| 1 else g.d) ∧ (g.t = false → n = g.d ∧ d = 1) ∧ (g.t = true → 1152921504606846976 ≤ g.d) := by
 have hC : g.C = 16 := by unfold Fig.C; rw [hh]; rfl
 have hq : g.q = 4 := by unfold Fig.q; rw [hh]; rfl
 have hX : g.mx = 16 := by unfold Fig.mx; rw [hh]; rfl
 obtain ⟨k1, k2, k3⟩ := hg.kept
 rw [hC] at k1 k2 k3
 have h16 : (16 : Nat) ^ g.lost = 2 ^ (4 * g.lost) := by rw [Nat.pow_mul]
 have hs := HR.start F Pm g.M (g.p 10000)
 have hs2 := HR.halves (4 * g.lost) 1 hs
 have he : g.p 10000 + (Pm : Int) + ((4 * g.lost : Nat) : Int) = g.e + (Pm : Int) := by unfold Fig.e; rw [hq]; omega
 rw [he] at hs2
 have hD : 0 < 2 ^ (-(g.p 10000)).toNat := Nat.pow_pos (by decide)
 cases ht : g.t
 ·refine ⟨_, _, g.d, 1, by omega, hD, rfl, ?_, by simp [stk_one], fun _ => ⟨rfl, rfl⟩, fun e => by cases e⟩
  rw [k3 ht, h16] at hs2 ⊢
  exact hs2.cancel
 ·refine ⟨_, _, g.M, 2 ^ (4 * g.lost), Nat.pow_pos (by decide), hD, rfl, by rw [Nat.mul_one] at hs2; exact hs2, ?_, (fun e => by cases e), ?_⟩
  ·have hl := (k_lost (B := g.C) (mx := g.mx) (h := g.hex) rfl hg.pDD ht).1
   rw [hC, hX] at hl
   have hl2 : g.d * 16 ^ g.lost < g.M := by
    unfold Fig.d Fig.lost Fig.M
    rw [hC, hX]
    exact hl
   rw [← h16]
   have hp : 0 < 16 ^ g.lost := Nat.pow_pos (by decide)
   have hq1 : g.M / 16 ^ g.lost = g.d := Nat.div_eq_of_lt_le k1 k2
   have hr1 : g.M % 16 ^ g.lost ≠ 0 := by
    intro e
    have := Nat.div_add_mod g.M (16 ^ g.lost)
    rw [hq1, e, Nat.add_zero, Nat.mul_comm] at this
    omega
   unfold stk
   rw [hq1, if_neg hr1]
   simp
  ·intro _
   have hK := (k_lost (B := g.C) (mx := g.mx) (h := g.hex) rfl hg.pDD ht).2
   have hlen : 16 ≤ (dropZ g.D).length := by
    unfold kK kN at hK
    rw [hX] at hK
    omega
   unfold Fig.d kM
   rw [hC, hX]
   cases hz : dropZ g.D with
   | nil => rw [hz] at hlen; simp at hlen
   | cons c r =>
    have hc48 : c ≠ 48 := by
     have hb := List.head?_dropWhile_not (fun c : Int => c == 48) g.D
     unfold dropZ at hz
     rw [hz] at hb
     simpa using hb
    have hp : pD g.hex c = true := hg.pDD c ((List.dropWhile_suffix _).subset (by unfold dropZ at hz; rw [hz]; exact List.mem_cons_self))
    have hv : 1 ≤ hxv c := by
     rw [hh] at hp
     have := isH_iff.1 hp
     unfold hxv
     by_cases hd : isD c = true
     ·rw [if_pos hd]
      have := isD_iff.1 hd
      omega
     ·have h9 : ¬ (48 ≤ c ∧ c ≤ 57) := fun e => hd (isD_iff.2 e)
      rw [if_neg hd]
      split <;> omega
    rw [List.take_succ_cons, gat_cons, gat_add, List.length_take]
    rw [hz] at hlen
    simp at hlen
    rw [Nat.min_eq_left (by omega), Nat.zero_mul, Nat.zero_add]
    have h15 : 16 ^ 15 ≤ hxv c * 16 ^ 15 := Nat.le_mul_of_pos_left _ hv
    have e : (16 : Nat) ^ 15 = 1152921504606846976 := by decide
    rw [e] at h15 ⊢
    exact Nat.le_trans h15 (Nat.le_add_right _ _)
end
section
set_option maxRecDepth 100000
open Go
def Wd (X y : Nat) : Prop := floatToFloatBits .f32 X .f64 = some y ∧ floatToFloatBits .f64 y .f32 = some X
theorem read_zero {f : Ieee.Format} {Pm : Nat} (h : Fm f Pm) (hi : 0 < f.infRung) (s : Bool) : f.read (f.word s 0) = .number s 0 (-(Pm : Int)) := by
 rw [fm_read h s 0 hi]
 have e1 : pM f.fractionBits 0 = 0 := by unfold pM; simp
 have e2 : pE f.fractionBits 0 = 0 := by unfold pE; simp
 rw [e1, e2]
 simp
theorem near_zero (f : Ieee.Format) (s : Bool) (p : Int) : f.nearest s 0 p = f.word s 0 := by
 unfold Ieee.Format.nearest
 rw [if_pos rfl]
theorem wide_fin (s : Bool) (r : Nat) (h0 : r ≠ 0) (hr : r < 2139095040) : ∃ b, b < 9218868437227405312 ∧ Ieee.double.nearest s (pM 23 r) ((pE 23 r : Int) - 149) = Ieee.double.word s b ∧ Ieee.single.nearest s (pM 52 b) ((pE 52 b : Int) - 1074) = Ieee.single.word s r := by
 have hv := val_parts 23 r
 have hm0 : pM 23 r ≠ 0 := by
  intro e
  rw [e, Nat.zero_mul] at hv
  have := val_lt 23 (b := 0) (c := r) (by omega)
  omega
 have hm : pM 23 r < 2 * 2 ^ 23 := by
  unfold pM
  split
  ·omega
  ·have := Nat.mod_lt r (show 0 < 2 ^ 23 by decide)
   omega
 have hpe : pE 23 r ≤ 254 := by unfold pE; omega
 obtain ⟨b, hb⟩ := rep 52 (pM 23 r) (pE 23 r + 925) (by omega) (by omega)
 have hnr : nr 52 (pM 23 r * 2 ^ (pE 23 r + 925)) 1 = b := by
  rw [← hb]
  have := nr_val 52 b 1 (by decide)
  rwa [Nat.mul_one] at this
 have hlt : b < 9218868437227405312 := by
  apply Classical.byContradiction
  intro hc
  have h1 := val_le 52 (b := 9218868437227405312) (c := b) (by omega)
  rw [val_inf64, hb] at h1
  have h2 : pM 23 r * 2 ^ (pE 23 r + 925) ≤ 2 ^ 24 * 2 ^ 1179 := Nat.mul_le_mul (by omega) (Nat.pow_le_pow_right (by decide) (by omega))
  have h3 : ¬ (2 ^ 1024 * 2 ^ 1074 : Nat) ≤ 2 ^ 24 * 2 ^ 1179 := by
   have : Nat.ble (2 ^ 1024 * 2 ^ 1074) (2 ^ 24 * 2 ^ 1179) = false := by kernel_rfl
   intro h
   rw [Nat.ble_eq_true_of_le h] at this
   cases this
  omega
 refine ⟨b, hlt, ?_, ?_⟩
 ·have h := fm_near fm64 s (pM 23 r) ((pE 23 r : Int) - 149) hm0 (pM 23 r * 2 ^ (pE 23 r + 925)) 1 (by decide) (by
   rw [show (-((pE 23 r : Int) - 149) - ((1074 : Nat) : Int)).toNat = 0 by omega, show ((pE 23 r : Int) - 149 + ((1074 : Nat) : Int)).toNat = pE 23 r + 925 by omega, Nat.pow_zero])
  rw [h, inf64, show Ieee.double.fractionBits = 52 from rfl, hnr, Nat.min_eq_left (by omega)]
 ·have hv2 := val_parts 52 b
  have hb0 : pM 52 b ≠ 0 := by
   intro e
   rw [e, Nat.zero_mul] at hv2
   have := Nat.mul_pos (Nat.pos_of_ne_zero hm0) (show 0 < 2 ^ (pE 23 r + 925) from Nat.pow_pos (by decide))
   omega
  have key : pM 52 b * 2 ^ pE 52 b = val 23 r * 2 ^ 925 := by
   rw [← hv2, hb, hv, Nat.pow_add, Nat.mul_assoc]
  have h := fm_near fm32 s (pM 52 b) ((pE 52 b : Int) - 1074) hb0 (val 23 r) 1 (by decide) (by
   by_cases hc : 925 ≤ pE 52 b
   ·rw [show (-((pE 52 b : Int) - 1074) - ((149 : Nat) : Int)).toNat = 0 by omega, show ((pE 52 b : Int) - 1074 + ((149 : Nat) : Int)).toNat = pE 52 b - 925 by omega, Nat.pow_zero, Nat.mul_one, Nat.mul_one]
    refine Nat.eq_of_mul_eq_mul_right (show 0 < 2 ^ 925 from Nat.pow_pos (by decide)) ?_
    rw [← key, Nat.mul_assoc, ← Nat.pow_add, show pE 52 b - 925 + 925 = pE 52 b by omega]
   ·rw [show (-((pE 52 b : Int) - 1074) - ((149 : Nat) : Int)).toNat = 925 - pE 52 b by omega, show ((pE 52 b : Int) - 1074 + ((149 : Nat) : Int)).toNat = 0 by omega, Nat.pow_zero, Nat.mul_one, Nat.mul_one]
    refine Nat.eq_of_mul_eq_mul_right (show 0 < 2 ^ pE 52 b from Nat.pow_pos (by decide)) ?_
    rw [key, Nat.mul_assoc, ← Nat.pow_add, show 925 - pE 52 b + pE 52 b = 925 by omega])
  have hn := nr_val 23 r 1 (by decide)
  rw [Nat.mul_one] at hn
  rw [h, inf32, show Ieee.single.fractionBits = 23 from rfl, hn, Nat.min_eq_left (by omega)]
theorem wide_word (s : Bool) (r : Nat) (hr : r ≤ 2139095040) : ∃ y, Wd (Ieee.single.word s r) y := by
 have hne : ¬ (FloatKind.f32 = FloatKind.f64) := by decide
 have hne2 : ¬ (FloatKind.f64 = FloatKind.f32) := by decide
 by_cases hi : r = 2139095040
 ·subst hi
  refine ⟨Ieee.double.word s 9218868437227405312, ?_, ?_⟩
  ·unfold floatToFloatBits
   rw [if_neg hne]
   have e : FloatKind.f32.decode (Ieee.single.word s 2139095040) = .infinity s := by
    have := fm_inf fm32 (by decide) s
    rw [inf32] at this
    exact this
   rw [e]
   show some (Ieee.double.word s Ieee.double.infRung) = _
   rw [inf64]
  ·unfold floatToFloatBits
   rw [if_neg hne2]
   have e : FloatKind.f64.decode (Ieee.double.word s 9218868437227405312) = .infinity s := by
    have := fm_inf fm64 (by decide) s
    rw [inf64] at this
    exact this
   rw [e]
   show some (Ieee.single.word s Ieee.single.infRung) = _
   rw [inf32]
 ·by_cases h0 : r = 0
  ·subst h0
   refine ⟨Ieee.double.word s 0, ?_, ?_⟩
   ·unfold floatToFloatBits
    rw [if_neg hne]
    have e : FloatKind.f32.decode (Ieee.single.word s 0) = .number s 0 (-((149 : Nat) : Int)) := read_zero fm32 (by decide) s
    have e2 : FloatKind.f64.encode (.number s 0 (-((149 : Nat) : Int))) = Ieee.double.word s 0 := near_zero Ieee.double s (-((149 : Nat) : Int))
    have e3 : FloatKind.f64.decode (Ieee.double.word s 0) = .number s 0 (-((1074 : Nat) : Int)) := read_zero fm64 (by decide) s
    rw [e]
    show (if (FloatKind.f64.decode (FloatKind.f64.encode (.number s 0 (-((149 : Nat) : Int))))).isInfinity then none else some (FloatKind.f64.encode (.number s 0 (-((149 : Nat) : Int))))) = _
    rw [e2, e3]
    rfl
   ·unfold floatToFloatBits
    rw [if_neg hne2]
    have e : FloatKind.f64.decode (Ieee.double.word s 0) = .number s 0 (-((1074 : Nat) : Int)) := read_zero fm64 (by decide) s
    have e2 : FloatKind.f32.encode (.number s 0 (-((1074 : Nat) : Int))) = Ieee.single.word s 0 := near_zero Ieee.single s (-((1074 : Nat) : Int))
    have e3 : FloatKind.f32.decode (Ieee.single.word s 0) = .number s 0 (-((149 : Nat) : Int)) := read_zero fm32 (by decide) s
    rw [e]
    show (if (FloatKind.f32.decode (FloatKind.f32.encode (.number s 0 (-((1074 : Nat) : Int))))).isInfinity then none else some (FloatKind.f32.encode (.number s 0 (-((1074 : Nat) : Int))))) = _
    rw [e2, e3]
    rfl
  ·obtain ⟨b, hb, h1, h2⟩ := wide_fin s r h0 (by omega)
   have r32 := fm_read fm32 s r (by rw [inf32]; omega)
   have r64 := fm_read fm64 s b (by rw [inf64]; exact hb)
   refine ⟨Ieee.double.word s b, ?_, ?_⟩
   ·unfold floatToFloatBits
    rw [if_neg hne]
    have e : FloatKind.f32.decode (Ieee.single.word s r) = .number s (pM 23 r) ((pE 23 r : Int) - ((149 : Nat) : Int)) := r32
    have e2 : FloatKind.f64.encode (.number s (pM 23 r) ((pE 23 r : Int) - ((149 : Nat) : Int))) = Ieee.double.word s b := h1
    have e3 : FloatKind.f64.decode (Ieee.double.word s b) = .number s (pM 52 b) ((pE 52 b : Int) - ((1074 : Nat) : Int)) := r64
    rw [e]
    show (if (FloatKind.f64.decode (FloatKind.f64.encode (.number s (pM 23 r) ((pE 23 r : Int) - ((149 : Nat) : Int))))).isInfinity then none else some (FloatKind.f64.encode (.number s (pM 23 r) ((pE 23 r : Int) - ((149 : Nat) : Int))))) = _
    rw [e2, e3]
    rfl
   ·unfold floatToFloatBits
    rw [if_neg hne2]
    have e : FloatKind.f64.decode (Ieee.double.word s b) = .number s (pM 52 b) ((pE 52 b : Int) - ((1074 : Nat) : Int)) := r64
    have e2 : FloatKind.f32.encode (.number s (pM 52 b) ((pE 52 b : Int) - ((1074 : Nat) : Int))) = Ieee.single.word s r := h2
    have e3 : FloatKind.f32.decode (Ieee.single.word s r) = .number s (pM 23 r) ((pE 23 r : Int) - ((149 : Nat) : Int)) := r32
    rw [e]
    show (if (FloatKind.f32.decode (FloatKind.f32.encode (.number s (pM 52 b) ((pE 52 b : Int) - ((1074 : Nat) : Int))))).isInfinity then none else some (FloatKind.f32.encode (.number s (pM 52 b) ((pE 52 b : Int) - ((1074 : Nat) : Int))))) = _
    rw [e2, e3]
    rfl
end
end Go.Proofs.YtlgneiaenanfaaaGreatDoor
