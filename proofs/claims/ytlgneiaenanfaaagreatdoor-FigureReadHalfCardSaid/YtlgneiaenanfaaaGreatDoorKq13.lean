/- Walks and plain laws, merged: FgJ. No condition. -/
import Derived.Laws.FloatArith
import Derived.Test.YtlgneiaenanfaaaGreatDoorKq08
import Derived.Test.YtlgneiaenanfaaaGreatDoorKq10
namespace Go.Proofs.YtlgneiaenanfaaaGreatDoor
open Go.RowKit
set_option linter.unusedVariables false
set_option linter.unusedSimpArgs false
set_option maxRecDepth 100000
set_option maxHeartbeats 64000000
section
set_option maxRecDepth 100000
set_option exponentiation.threshold 2000
def Fl64 (w : World) : Prop := ∃ b og, w.cell? ⟨14, 0, none⟩ = some (.slice (some ⟨b, og, none⟩) 23 23) ∧ (∀ i y, pw64[i]? = some y → w.cell? ⟨b, og + i, none⟩ = some (.float .f64 y)) ∧ w.cell? ⟨7, 0, none⟩ = some (.int .u64 52)
theorem sgw64 (neg : Bool) (b : Nat) : sg64 neg + b = Ieee.double.word neg b := by rw [word64]; rfl
theorem neg64 (b : Nat) (h : b < 9223372036854775808) : Op.negFloat .f64 b = Ieee.double.word true b := by
 rw [word64]
 exact xor_top b 63 h
theorem hK64 : val Ieee.double.fractionBits Ieee.double.infRung = 2 ^ 1024 * 2 ^ 1074 := by rw [inf64]; exact val_inf64
theorem big64 : (4503599627370496 * 2 : Nat) < 2 ^ 1024 := Nat.le_of_ble_eq_true (by kernel_rfl)
theorem fin64 (d : Nat) (h0 : d ≠ 0) (h1 : d < 4503599627370496) : nr 52 (d * 2 ^ 1074) 1 < 9218868437227405312 ∧ nr 52 (d * 2 ^ 1074) 1 ≠ 0 ∧ floatOfInt .f64 (d : Int) = nr 52 (d * 2 ^ 1074) 1 := by
 have h := ex_int fm64 (K := 1024) hK64 false d h0 (by show d < 2 * 2 ^ 52; omega) (by have := big64; omega)
 rw [inf64] at h
 refine ⟨h.1, h.2.1, ?_⟩
 have e : floatOfInt .f64 (d : Int) = Ieee.double.nearest (decide ((d : Int) < 0)) (d : Int).natAbs 0 := rfl
 rw [e, show decide ((d : Int) < 0) = false from decide_eq_false (by omega), show (d : Int).natAbs = d by omega, h.2.2, word64]
 simp
 rfl
theorem mulp64 (neg : Bool) (b a k y : Nat) (hb : val 52 b = a * 2 ^ 1074) (hb2 : b < 9218868437227405312) (ha : a ≠ 0) (hy : pw64[k]? = some y) :
  floatBits .mul .f64 (Ieee.double.word neg b) y = some (Ieee.double.word neg (min (nr 52 (a * 10 ^ k * 2 ^ 1074) 1) 9218868437227405312)) := by
 obtain ⟨h1, h2⟩ := pw64_at hy
 have h := ex_mul fm64 neg b y a (10 ^ k) hb h1 (by rw [inf64]; exact hb2) (by rw [inf64]; exact h2) ha (Nat.pos_iff_ne_zero.1 (Nat.pow_pos (by decide)))
 rw [inf64, word64 false y] at h
 simp only [Bool.false_eq_true, if_false, Nat.zero_add] at h
 exact h
theorem divp64 (neg : Bool) (b a k y : Nat) (hb : val 52 b = a * 2 ^ 1074) (hb2 : b < 9218868437227405312) (ha : a ≠ 0) (hy : pw64[k]? = some y) :
  floatBits .quo .f64 (Ieee.double.word neg b) y = some (Ieee.double.word neg (min (nr 52 (a * 2 ^ 1074) (10 ^ k)) 9218868437227405312)) := by
 obtain ⟨h1, h2⟩ := pw64_at hy
 have h := ex_div fm64 neg b y a (10 ^ k) hb h1 (by rw [inf64]; exact hb2) (by rw [inf64]; exact h2) ha (Nat.pos_iff_ne_zero.1 (Nat.pow_pos (by decide)))
 rw [inf64, word64 false y] at h
 simp only [Bool.false_eq_true, if_false, Nat.zero_add] at h
 exact h
theorem lim64 : val 52 4831355200913801216 = 10 ^ 15 * 2 ^ 1074 := (Nat.eq_of_beq_eq_true (by kernel_rfl))
theorem gt64 (neg : Bool) (b : Nat) (hb : b < 9218868437227405312) : (FloatKind.f64.format.order (Ieee.double.word neg b) 4831355200913801216 == some Ordering.gt) = (!neg && decide (10 ^ 15 * 2 ^ 1074 < val 52 b)) := by
 have h := fm_gt fm64 neg b 4831355200913801216 (by rw [inf64]; exact hb) (by rw [inf64]; decide) (by show 0 < val 52 4831355200913801216; rw [lim64]; exact Nat.mul_pos (by decide) (Nat.pow_pos (by decide)))
 rw [show Ieee.double.fractionBits = 52 from rfl, lim64, word64 false 4831355200913801216] at h
 exact h
theorem lt64 (neg : Bool) (b : Nat) (hb : b < 9218868437227405312) : (FloatKind.f64.format.order (Ieee.double.word neg b) 14054727237768577024 == some Ordering.lt) = (neg && decide (10 ^ 15 * 2 ^ 1074 < val 52 b)) := by
 have h := fm_lt fm64 neg b 4831355200913801216 (by rw [inf64]; exact hb) (by rw [inf64]; decide) (by show 0 < val 52 4831355200913801216; rw [lim64]; exact Nat.mul_pos (by decide) (Nat.pow_pos (by decide)))
 rw [show Ieee.double.fractionBits = 52 from rfl, lim64, word64 true 4831355200913801216] at h
 exact h
theorem pw64_get (k : Nat) (h : k < 23) : ∃ y, pw64[k]? = some y := ⟨pw64[k]'(by show k < 23; exact h), List.getElem?_eq_getElem (by show k < 23; exact h)⟩
def Ex64 (neg : Bool) (d : Nat) (k : Int) (e : Ending) : Prop := ∃ X ok, e = .returned (.tuple #[.float .f64 X, .bool ok]) ∧ (ok = true → X = sg64 neg + min (rdV 52 1074 10 d k) 9218868437227405312) ∧ (ok = true → k ≤ 60)
theorem exact204 (neg : Bool) (d : Nat) (hd0 : d ≠ 0) (hd : d < 18446744073709551616) (k : Int) (hk : -400 ≤ k ∧ k ≤ 400) (w : World) (hT : Fl64 w) :
  Calls Tryz.prog 204 #[.int .u64 d, .int .i64 k, .bool neg] w fun e w' => Ex64 neg d k e ∧ w = w' := by
 obtain ⟨g, og, c14, ct, c7⟩ := hT
 replace ct := hid ct
 by_cases hs : d < 4503599627370496
 ·obtain ⟨i1, i2, i3⟩ := fin64 d hd0 hs
  have hv := rep_nr 52 1074 d hd0 (by show d < 2 * 2 ^ 52; omega)
  obtain ⟨b, hb⟩ : ∃ b, b = nr 52 (d * 2 ^ 1074) 1 := ⟨_, rfl⟩
  rw [← hb] at i1 i2 i3 hv
  have e0 : (d : Int) / 4503599627370496 = 0 := by omega
  obtain ⟨W, hW⟩ : ∃ W, W = Ieee.double.word neg b := ⟨_, rfl⟩
  have n0 : neg = false → b = W := by rintro rfl; rw [hW, word64]; simp
  have n1 : neg = true → Op.negFloat .f64 b = W := by rintro rfl; rw [hW]; exact neg64 b (by omega)
  replace n0 := hid n0
  replace n1 := hid n1
  replace hb := hid hb
  replace hv := hid hv
  replace hW := hid hW
  have hh := hid hs
  clear hs hd
  replace i2 := hid i2
  replace hd0 := hid hd0
  by_cases k0 : k = 0
  ·subst k0
   have hr : Hid (W = sg64 neg + min (rdV 52 1074 10 d 0) 9218868437227405312) := hid (by
    have e := rdV_up 52 1074 d 0
    rw [show ((0 : Nat) : Int) = 0 from rfl, Nat.pow_zero, Nat.mul_one, ← hb.out] at e
    rw [e, Nat.min_eq_left (Nat.le_of_lt i1), hW.out, sgw64])
   clear hb hv i1
   go_enter Tryz.func204, Tryz.ntmps204
   cases neg
   ·obtain rfl := n0.out rfl
    clear n0 n1 hW
    go_wp2_with (rw [n2])
    go_ret2
    exact ⟨⟨_, _, rfl, (fun _ => hr.out), (by first | exact fun _ => by omega | exact fun h => Bool.noConfusion h)⟩, rfl⟩
   ·have n2 : Op.unary .neg (.float .f64 b) = pure (.float .f64 W) := by rw [← n1.out rfl]; rfl
    clear n0 n1 hW
    go_wp2_with (rw [n2])
    go_ret2
    exact ⟨⟨_, _, rfl, (fun _ => hr.out), (by first | exact fun _ => by omega | exact fun h => Bool.noConfusion h)⟩, rfl⟩
  have bk0 := bne_of k0
  by_cases kp : 0 < k
  ·obtain ⟨n, rfl⟩ : ∃ n : Nat, k = (n : Int) := ⟨k.toNat, by omega⟩
   by_cases k22 : n ≤ 22
   ·-- one product
    obtain ⟨y, hy⟩ := pw64_get n (by omega)
    have cy := ct.out n y hy
    have m1 := mulp64 neg b d n y hv.out i1 hd0.out hy
    rw [← hW.out] at m1
    obtain ⟨V, hV⟩ : ∃ V, V = Ieee.double.word neg (min (nr 52 (d * 10 ^ n * 2 ^ 1074) 1) 9218868437227405312) := ⟨_, rfl⟩
    rw [← hV] at m1
    have ha : ∀ w, (binOp .mul 22 (.float .f64 W) (.float .f64 y)).run Tryz.prog w = .ok (.float .f64 V) w := fun w => run_float_arith w .mul 22 .f64 _ _ _ m1
    have hr : Hid (V = sg64 neg + min (rdV 52 1074 10 d (n : Int)) 9218868437227405312) := hid (by rw [hV, rdV_up, sgw64])
    have g1 := gt64 neg b i1
    have g2 := lt64 neg b i1
    rw [← hW.out] at g1 g2
    generalize (!neg && decide (10 ^ 15 * 2 ^ 1074 < val 52 b)) = p1 at g1
    generalize (neg && decide (10 ^ 15 * 2 ^ 1074 < val 52 b)) = p2 at g2
    clear hb hv i1 hy hV m1
    go_enter Tryz.func204, Tryz.ntmps204
    cases neg
    ·obtain rfl := n0.out rfl
     clear n0 n1 hW
     cases p1 <;> cases p2
     all_goals go_wp2_with (first | rw [n2] | rw [ha])
     all_goals go_ret2
     all_goals exact ⟨⟨_, _, rfl, (by first | exact fun _ => hr.out | exact fun h => Bool.noConfusion h), (by first | exact fun _ => by omega | exact fun h => Bool.noConfusion h)⟩, rfl⟩
    ·have n2 : Op.unary .neg (.float .f64 b) = pure (.float .f64 W) := by rw [← n1.out rfl]; rfl
     clear n0 n1 hW
     cases p1 <;> cases p2
     all_goals go_wp2_with (first | rw [n2] | rw [ha])
     all_goals go_ret2
     all_goals exact ⟨⟨_, _, rfl, (by first | exact fun _ => hr.out | exact fun h => Bool.noConfusion h), (by first | exact fun _ => by omega | exact fun h => Bool.noConfusion h)⟩, rfl⟩
   ·by_cases k37 : n ≤ 37
    ·-- two products
     obtain ⟨j, rfl⟩ : ∃ j, n = j + 22 := ⟨n - 22, by omega⟩
     obtain ⟨y, hy⟩ := pw64_get j (by omega)
     have cy := ct.out j y hy
     obtain ⟨z, hz⟩ := pw64_get 22 (by omega)
     have cz := ct.out 22 z hz
     have m1 := mulp64 neg b d j y hv.out i1 hd0.out hy
     rw [← hW.out] at m1
     obtain ⟨b1, hb1⟩ : ∃ b1, b1 = min (nr 52 (d * 10 ^ j * 2 ^ 1074) 1) 9218868437227405312 := ⟨_, rfl⟩
     rw [← hb1] at m1
     obtain ⟨V, hV⟩ : ∃ V, V = Ieee.double.word neg b1 := ⟨_, rfl⟩
     rw [← hV] at m1
     have ha : ∀ w, (binOp .mul 22 (.float .f64 W) (.float .f64 y)).run Tryz.prog w = .ok (.float .f64 V) w := fun w => run_float_arith w .mul 22 .f64 _ _ _ m1
     have hlt : b1 < 9218868437227405312 := by
      rw [hb1]
      have : nr 52 (d * 10 ^ j * 2 ^ 1074) 1 < 9218868437227405312 := by
       apply Classical.byContradiction
       intro hc
       have h1 : d * 10 ^ j ≤ 4503599627370496 * 10 ^ 15 := Nat.mul_le_mul (by have := hh.out; omega) (Nat.pow_le_pow_right (by decide) (by omega))
       have h2 : nr 52 (d * 10 ^ j * 2 ^ 1074) 1 ≤ nr 52 (val 52 (9218868437227405312 - 1) * 1) 1 := nr_mono (by decide) (Nat.le_trans (Nat.mul_le_mul_right _ h1) (Nat.le_of_ble_eq_true (by kernel_rfl)))
       rw [nr_val _ _ _ (by decide)] at h2
       omega
      omega
     have g1 := gt64 neg b1 hlt
     have g2 := lt64 neg b1 hlt
     rw [← hV] at g1 g2
     have m2 : ∃ U, (10 ^ 15 * 2 ^ 1074 < val 52 b1 ∨ U = sg64 neg + min (rdV 52 1074 10 d ((j + 22 : Nat) : Int)) 9218868437227405312) ∧ floatBits .mul .f64 V z = some U := by
      by_cases ht : 10 ^ 15 * 2 ^ 1074 < val 52 b1
      ·obtain ⟨q1, q2⟩ := pw64_at hz
       have hx0 : b1 ≠ 0 := by intro e; rw [e, val_zero] at ht; omega
       have hz0 : z ≠ 0 := by intro e; rw [e, val_zero] at q1; have : 0 < 10 ^ 22 * 2 ^ 1074 := Nat.mul_pos (by decide) (Nat.pow_pos (by decide)); omega
       have h := fm_mul fm64 neg false b1 z (by rw [inf64]; exact hlt) (by rw [inf64]; exact q2) hx0 hz0
       rw [word64 false z] at h
       simp only [Bool.false_eq_true, if_false, Nat.zero_add] at h
       rw [hV]
       exact ⟨_, .inl ht, h⟩
      ·have hT := ex_test (F := 52) (Pm := 1074) (K := 1024) (INF := 9218868437227405312) (T := 10 ^ 15) (d := d * 10 ^ j) val_inf64 (by decide) (by have := big64; omega) (by rw [← hb1]; omega)
       have hv2 := rep_nr 52 1074 (d * 10 ^ j) (Nat.pos_iff_ne_zero.1 (Nat.mul_pos (Nat.pos_of_ne_zero hd0.out) (Nat.pow_pos (by decide)))) (by show d * 10 ^ j < 2 * 2 ^ 52; omega)
       have hb2 : b1 = nr 52 (d * 10 ^ j * 2 ^ 1074) 1 := by omega
       rw [← hb2] at hv2
       have h := mulp64 neg b1 (d * 10 ^ j) 22 z hv2 hlt (Nat.pos_iff_ne_zero.1 (Nat.mul_pos (Nat.pos_of_ne_zero hd0.out) (Nat.pow_pos (by decide)))) hz
       rw [← hV] at h
       refine ⟨_, .inr ?_, h⟩
       rw [rdV_up, sgw64, Nat.mul_assoc d, ← Nat.pow_add]
     obtain ⟨U, hU, m2⟩ := m2
     have hc : ∀ w, (binOp .mul 22 (.float .f64 V) (.float .f64 z)).run Tryz.prog w = .ok (.float .f64 U) w := fun w => run_float_arith w .mul 22 .f64 _ _ _ m2
     obtain ⟨p, hp⟩ : ∃ p : Bool, p = decide (10 ^ 15 * 2 ^ 1074 < val 52 b1) := ⟨_, rfl⟩
     rw [← hp] at g1 g2
     have hr : Hid (p = false → U = sg64 neg + min (rdV 52 1074 10 d ((j + 22 : Nat) : Int)) 9218868437227405312) := hid (by
      intro e
      rcases hU with h | h
      ·rw [e] at hp; exact absurd h (of_decide_eq_false hp.symm)
      ·exact h)
     have hj1 : ((j + 22 : Nat) : Int) - 22 = (j : Int) := by omega
     have hj2 : (22 : Int) < ((j + 22 : Nat) : Int) := by omega
     have hj3 : ((j + 22 : Nat) : Int) ≤ 37 := by omega
     obtain ⟨kk, hkk⟩ : ∃ kk : Int, kk = ((j + 22 : Nat) : Int) := ⟨_, rfl⟩
     rw [← hkk] at hj1 hj2 hj3 bk0 kp hk hr ⊢
     clear hb hv i1 hy hV m1 hz hb1 hlt m2 hU hp hkk k22 k37
     go_enter Tryz.func204, Tryz.ntmps204
     cases neg
     ·obtain rfl := n0.out rfl
      clear n0 n1 hW
      cases p
      all_goals simp only [Bool.not_false, Bool.not_true, Bool.true_and, Bool.false_and] at g1 g2
      all_goals go_wp2_with (first | rw [n2] | rw [ha] | rw [hc])
      all_goals go_ret2
      all_goals exact ⟨⟨_, _, rfl, (by first | exact fun _ => hr.out rfl | exact fun _ => hr.out trivial | exact fun h => Bool.noConfusion h), (by first | exact fun _ => by omega | exact fun h => Bool.noConfusion h)⟩, rfl⟩
     ·have n2 : Op.unary .neg (.float .f64 b) = pure (.float .f64 W) := by rw [← n1.out rfl]; rfl
      clear n0 n1 hW
      cases p
      all_goals simp only [Bool.not_false, Bool.not_true, Bool.true_and, Bool.false_and] at g1 g2
      all_goals go_wp2_with (first | rw [n2] | rw [ha] | rw [hc])
      all_goals go_ret2
      all_goals exact ⟨⟨_, _, rfl, (by first | exact fun _ => hr.out rfl | exact fun _ => hr.out trivial | exact fun h => Bool.noConfusion h), (by first | exact fun _ => by omega | exact fun h => Bool.noConfusion h)⟩, rfl⟩
    ·have hj3 : ¬ (n : Int) ≤ 37 := by omega
     clear hb hv i1
     go_enter Tryz.func204, Tryz.ntmps204
     cases neg
     ·obtain rfl := n0.out rfl
      clear n0 n1 hW
      go_wp2_with (rw [n2])
      go_ret2
      exact ⟨⟨_, _, rfl, (fun h => Bool.noConfusion h), (fun h => Bool.noConfusion h)⟩, rfl⟩
     ·have n2 : Op.unary .neg (.float .f64 b) = pure (.float .f64 W) := by rw [← n1.out rfl]; rfl
      clear n0 n1 hW
      go_wp2_with (rw [n2])
      go_ret2
      exact ⟨⟨_, _, rfl, (fun h => Bool.noConfusion h), (fun h => Bool.noConfusion h)⟩, rfl⟩
  ·obtain ⟨n, rfl⟩ : ∃ n : Nat, k = -(n : Int) := ⟨(-k).toNat, by omega⟩
   by_cases k22 : n ≤ 22
   ·obtain ⟨y, hy⟩ := pw64_get n (by omega)
    have cy := ct.out n y hy
    have m1 := divp64 neg b d n y hv.out i1 hd0.out hy
    rw [← hW.out] at m1
    obtain ⟨V, hV⟩ : ∃ V, V = Ieee.double.word neg (min (nr 52 (d * 2 ^ 1074) (10 ^ n)) 9218868437227405312) := ⟨_, rfl⟩
    rw [← hV] at m1
    have ha : ∀ w, (binOp .quo 22 (.float .f64 W) (.float .f64 y)).run Tryz.prog w = .ok (.float .f64 V) w := fun w => run_float_arith w .quo 22 .f64 _ _ _ m1
    have hr : Hid (V = sg64 neg + min (rdV 52 1074 10 d (-(n : Int))) 9218868437227405312) := hid (by rw [hV, rdV_dn, sgw64])
    clear hb hv i1 hy hV m1
    go_enter Tryz.func204, Tryz.ntmps204
    cases neg
    ·obtain rfl := n0.out rfl
     clear n0 n1 hW
     go_wp2_with (first | rw [n2] | rw [ha])
     go_ret2
     exact ⟨⟨_, _, rfl, (fun _ => hr.out), (by first | exact fun _ => by omega | exact fun h => Bool.noConfusion h)⟩, rfl⟩
    ·have n2 : Op.unary .neg (.float .f64 b) = pure (.float .f64 W) := by rw [← n1.out rfl]; rfl
     clear n0 n1 hW
     go_wp2_with (first | rw [n2] | rw [ha])
     go_ret2
     exact ⟨⟨_, _, rfl, (fun _ => hr.out), (by first | exact fun _ => by omega | exact fun h => Bool.noConfusion h)⟩, rfl⟩
   ·have hj3 : ¬ (-22 : Int) ≤ -(n : Int) := by omega
    clear hb hv i1
    go_enter Tryz.func204, Tryz.ntmps204
    cases neg
    ·obtain rfl := n0.out rfl
     clear n0 n1 hW
     go_wp2_with (rw [n2])
     go_ret2
     exact ⟨⟨_, _, rfl, (fun h => Bool.noConfusion h), (fun h => Bool.noConfusion h)⟩, rfl⟩
    ·have n2 : Op.unary .neg (.float .f64 b) = pure (.float .f64 W) := by rw [← n1.out rfl]; rfl
     clear n0 n1 hW
     go_wp2_with (rw [n2])
     go_ret2
     exact ⟨⟨_, _, rfl, (fun h => Bool.noConfusion h), (fun h => Bool.noConfusion h)⟩, rfl⟩
 ·have e0 : ((d : Int) / 4503599627370496 == 0) = false := bne_of (by omega)
  go_enter Tryz.func204, Tryz.ntmps204
  go_wp2_with (rw [n2])
  go_ret2
  exact ⟨⟨_, _, rfl, (fun h => Bool.noConfusion h), (fun h => Bool.noConfusion h)⟩, rfl⟩
def Fl32 (w : World) : Prop := ∃ b og, w.cell? ⟨12, 0, none⟩ = some (.slice (some ⟨b, og, none⟩) 11 11) ∧ (∀ i y, pw32[i]? = some y → w.cell? ⟨b, og + i, none⟩ = some (.float .f32 y))
theorem sgw32 (neg : Bool) (b : Nat) : sg32 neg + b = Ieee.single.word neg b := by rw [word32]; rfl
theorem neg32 (b : Nat) (h : b < 2147483648) : Op.negFloat .f32 b = Ieee.single.word true b := by
 rw [word32]
 exact xor_top b 31 h
theorem hK32 : val Ieee.single.fractionBits Ieee.single.infRung = 2 ^ 128 * 2 ^ 149 := by rw [inf32]; exact val_inf32
theorem big32 : (8388608 * 2 : Nat) < 2 ^ 128 := Nat.le_of_ble_eq_true (by kernel_rfl)
theorem fin32 (d : Nat) (h0 : d ≠ 0) (h1 : d < 8388608) : nr 23 (d * 2 ^ 149) 1 < 2139095040 ∧ nr 23 (d * 2 ^ 149) 1 ≠ 0 ∧ floatOfInt .f32 (d : Int) = nr 23 (d * 2 ^ 149) 1 := by
 have h := ex_int fm32 (K := 128) hK32 false d h0 (by show d < 2 * 2 ^ 23; omega) (by have := big32; omega)
 rw [inf32] at h
 refine ⟨h.1, h.2.1, ?_⟩
 have e : floatOfInt .f32 (d : Int) = Ieee.single.nearest (decide ((d : Int) < 0)) (d : Int).natAbs 0 := rfl
 rw [e, show decide ((d : Int) < 0) = false from decide_eq_false (by omega), show (d : Int).natAbs = d by omega, h.2.2, word32]
 simp
 rfl
theorem mulp32 (neg : Bool) (b a k y : Nat) (hb : val 23 b = a * 2 ^ 149) (hb2 : b < 2139095040) (ha : a ≠ 0) (hy : pw32[k]? = some y) :
  floatBits .mul .f32 (Ieee.single.word neg b) y = some (Ieee.single.word neg (min (nr 23 (a * 10 ^ k * 2 ^ 149) 1) 2139095040)) := by
 obtain ⟨h1, h2⟩ := pw32_at hy
 have h := ex_mul fm32 neg b y a (10 ^ k) hb h1 (by rw [inf32]; exact hb2) (by rw [inf32]; exact h2) ha (Nat.pos_iff_ne_zero.1 (Nat.pow_pos (by decide)))
 rw [inf32, word32 false y] at h
 simp only [Bool.false_eq_true, if_false, Nat.zero_add] at h
 exact h
theorem divp32 (neg : Bool) (b a k y : Nat) (hb : val 23 b = a * 2 ^ 149) (hb2 : b < 2139095040) (ha : a ≠ 0) (hy : pw32[k]? = some y) :
  floatBits .quo .f32 (Ieee.single.word neg b) y = some (Ieee.single.word neg (min (nr 23 (a * 2 ^ 149) (10 ^ k)) 2139095040)) := by
 obtain ⟨h1, h2⟩ := pw32_at hy
 have h := ex_div fm32 neg b y a (10 ^ k) hb h1 (by rw [inf32]; exact hb2) (by rw [inf32]; exact h2) ha (Nat.pos_iff_ne_zero.1 (Nat.pow_pos (by decide)))
 rw [inf32, word32 false y] at h
 simp only [Bool.false_eq_true, if_false, Nat.zero_add] at h
 exact h
theorem lim32 : val 23 1259902592 = 10 ^ 7 * 2 ^ 149 := (Nat.eq_of_beq_eq_true (by kernel_rfl))
theorem gt32 (neg : Bool) (b : Nat) (hb : b < 2139095040) : (FloatKind.f32.format.order (Ieee.single.word neg b) 1259902592 == some Ordering.gt) = (!neg && decide (10 ^ 7 * 2 ^ 149 < val 23 b)) := by
 have h := fm_gt fm32 neg b 1259902592 (by rw [inf32]; exact hb) (by rw [inf32]; decide) (by show 0 < val 23 1259902592; rw [lim32]; exact Nat.mul_pos (by decide) (Nat.pow_pos (by decide)))
 rw [show Ieee.single.fractionBits = 23 from rfl, lim32, word32 false 1259902592] at h
 exact h
theorem lt32 (neg : Bool) (b : Nat) (hb : b < 2139095040) : (FloatKind.f32.format.order (Ieee.single.word neg b) 3407386240 == some Ordering.lt) = (neg && decide (10 ^ 7 * 2 ^ 149 < val 23 b)) := by
 have h := fm_lt fm32 neg b 1259902592 (by rw [inf32]; exact hb) (by rw [inf32]; decide) (by show 0 < val 23 1259902592; rw [lim32]; exact Nat.mul_pos (by decide) (Nat.pow_pos (by decide)))
 rw [show Ieee.single.fractionBits = 23 from rfl, lim32, word32 true 1259902592] at h
 exact h
theorem pw32_get (k : Nat) (h : k < 11) : ∃ y, pw32[k]? = some y := ⟨pw32[k]'(by show k < 11; exact h), List.getElem?_eq_getElem (by show k < 11; exact h)⟩
def Ex32 (neg : Bool) (d : Nat) (k : Int) (e : Ending) : Prop := ∃ X ok, e = .returned (.tuple #[.float .f32 X, .bool ok]) ∧ (ok = true → X = sg32 neg + min (rdV 23 149 10 d k) 2139095040) ∧ (ok = true → k ≤ 18)
theorem exact198 (neg : Bool) (d : Nat) (hd0 : d ≠ 0) (hd : d < 18446744073709551616) (k : Int) (hk : -400 ≤ k ∧ k ≤ 400) (w : World) (hT : Fl32 w) :
  Calls Tryz.prog 198 #[.int .u64 d, .int .i64 k, .bool neg] w fun e w' => Ex32 neg d k e ∧ w = w' := by
 obtain ⟨g, og, c14, ct⟩ := hT
 replace ct := hid ct
 by_cases hs : d < 8388608
 ·obtain ⟨i1, i2, i3⟩ := fin32 d hd0 hs
  have hv := rep_nr 23 149 d hd0 (by show d < 2 * 2 ^ 23; omega)
  obtain ⟨b, hb⟩ : ∃ b, b = nr 23 (d * 2 ^ 149) 1 := ⟨_, rfl⟩
  rw [← hb] at i1 i2 i3 hv
  have e0 : (d : Int) / 8388608 = 0 := by omega
  obtain ⟨W, hW⟩ : ∃ W, W = Ieee.single.word neg b := ⟨_, rfl⟩
  have n0 : neg = false → b = W := by rintro rfl; rw [hW, word32]; simp
  have n1 : neg = true → Op.negFloat .f32 b = W := by rintro rfl; rw [hW]; exact neg32 b (by omega)
  replace n0 := hid n0
  replace n1 := hid n1
  replace hb := hid hb
  replace hv := hid hv
  replace hW := hid hW
  have hh := hid hs
  clear hs hd
  replace i2 := hid i2
  replace hd0 := hid hd0
  by_cases k0 : k = 0
  ·subst k0
   have hr : Hid (W = sg32 neg + min (rdV 23 149 10 d 0) 2139095040) := hid (by
    have e := rdV_up 23 149 d 0
    rw [show ((0 : Nat) : Int) = 0 from rfl, Nat.pow_zero, Nat.mul_one, ← hb.out] at e
    rw [e, Nat.min_eq_left (Nat.le_of_lt i1), hW.out, sgw32])
   clear hb hv i1
   go_enter Tryz.func198, Tryz.ntmps198
   cases neg
   ·obtain rfl := n0.out rfl
    clear n0 n1 hW
    go_wp2_with (rw [n2])
    go_ret2
    exact ⟨⟨_, _, rfl, (fun _ => hr.out), (by first | exact fun _ => by omega | exact fun h => Bool.noConfusion h)⟩, rfl⟩
   ·have n2 : Op.unary .neg (.float .f32 b) = pure (.float .f32 W) := by rw [← n1.out rfl]; rfl
    clear n0 n1 hW
    go_wp2_with (rw [n2])
    go_ret2
    exact ⟨⟨_, _, rfl, (fun _ => hr.out), (by first | exact fun _ => by omega | exact fun h => Bool.noConfusion h)⟩, rfl⟩
  have bk0 := bne_of k0
  by_cases kp : 0 < k
  ·obtain ⟨n, rfl⟩ : ∃ n : Nat, k = (n : Int) := ⟨k.toNat, by omega⟩
   by_cases k22 : n ≤ 10
   ·-- one product
    obtain ⟨y, hy⟩ := pw32_get n (by omega)
    have cy := ct.out n y hy
    have m1 := mulp32 neg b d n y hv.out i1 hd0.out hy
    rw [← hW.out] at m1
    obtain ⟨V, hV⟩ : ∃ V, V = Ieee.single.word neg (min (nr 23 (d * 10 ^ n * 2 ^ 149) 1) 2139095040) := ⟨_, rfl⟩
    rw [← hV] at m1
    have ha : ∀ w, (binOp .mul 61 (.float .f32 W) (.float .f32 y)).run Tryz.prog w = .ok (.float .f32 V) w := fun w => run_float_arith w .mul 61 .f32 _ _ _ m1
    have hr : Hid (V = sg32 neg + min (rdV 23 149 10 d (n : Int)) 2139095040) := hid (by rw [hV, rdV_up, sgw32])
    have g1 := gt32 neg b i1
    have g2 := lt32 neg b i1
    rw [← hW.out] at g1 g2
    generalize (!neg && decide (10 ^ 7 * 2 ^ 149 < val 23 b)) = p1 at g1
    generalize (neg && decide (10 ^ 7 * 2 ^ 149 < val 23 b)) = p2 at g2
    clear hb hv i1 hy hV m1
    go_enter Tryz.func198, Tryz.ntmps198
    cases neg
    ·obtain rfl := n0.out rfl
     clear n0 n1 hW
     cases p1 <;> cases p2
     all_goals go_wp2_with (first | rw [n2] | rw [ha])
     all_goals go_ret2
     all_goals exact ⟨⟨_, _, rfl, (by first | exact fun _ => hr.out | exact fun h => Bool.noConfusion h), (by first | exact fun _ => by omega | exact fun h => Bool.noConfusion h)⟩, rfl⟩
    ·have n2 : Op.unary .neg (.float .f32 b) = pure (.float .f32 W) := by rw [← n1.out rfl]; rfl
     clear n0 n1 hW
     cases p1 <;> cases p2
     all_goals go_wp2_with (first | rw [n2] | rw [ha])
     all_goals go_ret2
     all_goals exact ⟨⟨_, _, rfl, (by first | exact fun _ => hr.out | exact fun h => Bool.noConfusion h), (by first | exact fun _ => by omega | exact fun h => Bool.noConfusion h)⟩, rfl⟩
   ·by_cases k37 : n ≤ 17
    ·-- two products
     obtain ⟨j, rfl⟩ : ∃ j, n = j + 10 := ⟨n - 10, by omega⟩
     obtain ⟨y, hy⟩ := pw32_get j (by omega)
     have cy := ct.out j y hy
     obtain ⟨z, hz⟩ := pw32_get 10 (by omega)
     have cz := ct.out 10 z hz
     have m1 := mulp32 neg b d j y hv.out i1 hd0.out hy
     rw [← hW.out] at m1
     obtain ⟨b1, hb1⟩ : ∃ b1, b1 = min (nr 23 (d * 10 ^ j * 2 ^ 149) 1) 2139095040 := ⟨_, rfl⟩
     rw [← hb1] at m1
     obtain ⟨V, hV⟩ : ∃ V, V = Ieee.single.word neg b1 := ⟨_, rfl⟩
     rw [← hV] at m1
     have ha : ∀ w, (binOp .mul 61 (.float .f32 W) (.float .f32 y)).run Tryz.prog w = .ok (.float .f32 V) w := fun w => run_float_arith w .mul 61 .f32 _ _ _ m1
     have hlt : b1 < 2139095040 := by
      rw [hb1]
      have : nr 23 (d * 10 ^ j * 2 ^ 149) 1 < 2139095040 := by
       apply Classical.byContradiction
       intro hc
       have h1 : d * 10 ^ j ≤ 8388608 * 10 ^ 7 := Nat.mul_le_mul (by have := hh.out; omega) (Nat.pow_le_pow_right (by decide) (by omega))
       have h2 : nr 23 (d * 10 ^ j * 2 ^ 149) 1 ≤ nr 23 (val 23 (2139095040 - 1) * 1) 1 := nr_mono (by decide) (Nat.le_trans (Nat.mul_le_mul_right _ h1) (Nat.le_of_ble_eq_true (by kernel_rfl)))
       rw [nr_val _ _ _ (by decide)] at h2
       omega
      omega
     have g1 := gt32 neg b1 hlt
     have g2 := lt32 neg b1 hlt
     rw [← hV] at g1 g2
     have m2 : ∃ U, (10 ^ 7 * 2 ^ 149 < val 23 b1 ∨ U = sg32 neg + min (rdV 23 149 10 d ((j + 10 : Nat) : Int)) 2139095040) ∧ floatBits .mul .f32 V z = some U := by
      by_cases ht : 10 ^ 7 * 2 ^ 149 < val 23 b1
      ·obtain ⟨q1, q2⟩ := pw32_at hz
       have hx0 : b1 ≠ 0 := by intro e; rw [e, val_zero] at ht; omega
       have hz0 : z ≠ 0 := by intro e; rw [e, val_zero] at q1; have : 0 < 10 ^ 10 * 2 ^ 149 := Nat.mul_pos (by decide) (Nat.pow_pos (by decide)); omega
       have h := fm_mul fm32 neg false b1 z (by rw [inf32]; exact hlt) (by rw [inf32]; exact q2) hx0 hz0
       rw [word32 false z] at h
       simp only [Bool.false_eq_true, if_false, Nat.zero_add] at h
       rw [hV]
       exact ⟨_, .inl ht, h⟩
      ·have hT := ex_test (F := 23) (Pm := 149) (K := 128) (INF := 2139095040) (T := 10 ^ 7) (d := d * 10 ^ j) val_inf32 (by decide) (by have := big32; omega) (by rw [← hb1]; omega)
       have hv2 := rep_nr 23 149 (d * 10 ^ j) (Nat.pos_iff_ne_zero.1 (Nat.mul_pos (Nat.pos_of_ne_zero hd0.out) (Nat.pow_pos (by decide)))) (by show d * 10 ^ j < 2 * 2 ^ 23; omega)
       have hb2 : b1 = nr 23 (d * 10 ^ j * 2 ^ 149) 1 := by omega
       rw [← hb2] at hv2
       have h := mulp32 neg b1 (d * 10 ^ j) 10 z hv2 hlt (Nat.pos_iff_ne_zero.1 (Nat.mul_pos (Nat.pos_of_ne_zero hd0.out) (Nat.pow_pos (by decide)))) hz
       rw [← hV] at h
       refine ⟨_, .inr ?_, h⟩
       rw [rdV_up, sgw32, Nat.mul_assoc d, ← Nat.pow_add]
     obtain ⟨U, hU, m2⟩ := m2
     have hc : ∀ w, (binOp .mul 61 (.float .f32 V) (.float .f32 z)).run Tryz.prog w = .ok (.float .f32 U) w := fun w => run_float_arith w .mul 61 .f32 _ _ _ m2
     obtain ⟨p, hp⟩ : ∃ p : Bool, p = decide (10 ^ 7 * 2 ^ 149 < val 23 b1) := ⟨_, rfl⟩
     rw [← hp] at g1 g2
     have hr : Hid (p = false → U = sg32 neg + min (rdV 23 149 10 d ((j + 10 : Nat) : Int)) 2139095040) := hid (by
      intro e
      rcases hU with h | h
      ·rw [e] at hp; exact absurd h (of_decide_eq_false hp.symm)
      ·exact h)
     have hj1 : ((j + 10 : Nat) : Int) - 10 = (j : Int) := by omega
     have hj2 : (10 : Int) < ((j + 10 : Nat) : Int) := by omega
     have hj3 : ((j + 10 : Nat) : Int) ≤ 17 := by omega
     obtain ⟨kk, hkk⟩ : ∃ kk : Int, kk = ((j + 10 : Nat) : Int) := ⟨_, rfl⟩
     rw [← hkk] at hj1 hj2 hj3 bk0 kp hk hr ⊢
     clear hb hv i1 hy hV m1 hz hb1 hlt m2 hU hp hkk k22 k37
     go_enter Tryz.func198, Tryz.ntmps198
     cases neg
     ·obtain rfl := n0.out rfl
      clear n0 n1 hW
      cases p
      all_goals simp only [Bool.not_false, Bool.not_true, Bool.true_and, Bool.false_and] at g1 g2
      all_goals go_wp2_with (first | rw [n2] | rw [ha] | rw [hc])
      all_goals go_ret2
      all_goals exact ⟨⟨_, _, rfl, (by first | exact fun _ => hr.out rfl | exact fun _ => hr.out trivial | exact fun h => Bool.noConfusion h), (by first | exact fun _ => by omega | exact fun h => Bool.noConfusion h)⟩, rfl⟩
     ·have n2 : Op.unary .neg (.float .f32 b) = pure (.float .f32 W) := by rw [← n1.out rfl]; rfl
      clear n0 n1 hW
      cases p
      all_goals simp only [Bool.not_false, Bool.not_true, Bool.true_and, Bool.false_and] at g1 g2
      all_goals go_wp2_with (first | rw [n2] | rw [ha] | rw [hc])
      all_goals go_ret2
      all_goals exact ⟨⟨_, _, rfl, (by first | exact fun _ => hr.out rfl | exact fun _ => hr.out trivial | exact fun h => Bool.noConfusion h), (by first | exact fun _ => by omega | exact fun h => Bool.noConfusion h)⟩, rfl⟩
    ·have hj3 : ¬ (n : Int) ≤ 17 := by omega
     clear hb hv i1
     go_enter Tryz.func198, Tryz.ntmps198
     cases neg
     ·obtain rfl := n0.out rfl
      clear n0 n1 hW
      go_wp2_with (rw [n2])
      go_ret2
      exact ⟨⟨_, _, rfl, (fun h => Bool.noConfusion h), (fun h => Bool.noConfusion h)⟩, rfl⟩
     ·have n2 : Op.unary .neg (.float .f32 b) = pure (.float .f32 W) := by rw [← n1.out rfl]; rfl
      clear n0 n1 hW
      go_wp2_with (rw [n2])
      go_ret2
      exact ⟨⟨_, _, rfl, (fun h => Bool.noConfusion h), (fun h => Bool.noConfusion h)⟩, rfl⟩
  ·obtain ⟨n, rfl⟩ : ∃ n : Nat, k = -(n : Int) := ⟨(-k).toNat, by omega⟩
   by_cases k22 : n ≤ 10
   ·obtain ⟨y, hy⟩ := pw32_get n (by omega)
    have cy := ct.out n y hy
    have m1 := divp32 neg b d n y hv.out i1 hd0.out hy
    rw [← hW.out] at m1
    obtain ⟨V, hV⟩ : ∃ V, V = Ieee.single.word neg (min (nr 23 (d * 2 ^ 149) (10 ^ n)) 2139095040) := ⟨_, rfl⟩
    rw [← hV] at m1
    have ha : ∀ w, (binOp .quo 61 (.float .f32 W) (.float .f32 y)).run Tryz.prog w = .ok (.float .f32 V) w := fun w => run_float_arith w .quo 61 .f32 _ _ _ m1
    have hr : Hid (V = sg32 neg + min (rdV 23 149 10 d (-(n : Int))) 2139095040) := hid (by rw [hV, rdV_dn, sgw32])
    clear hb hv i1 hy hV m1
    go_enter Tryz.func198, Tryz.ntmps198
    cases neg
    ·obtain rfl := n0.out rfl
     clear n0 n1 hW
     go_wp2_with (first | rw [n2] | rw [ha])
     go_ret2
     exact ⟨⟨_, _, rfl, (fun _ => hr.out), (by first | exact fun _ => by omega | exact fun h => Bool.noConfusion h)⟩, rfl⟩
    ·have n2 : Op.unary .neg (.float .f32 b) = pure (.float .f32 W) := by rw [← n1.out rfl]; rfl
     clear n0 n1 hW
     go_wp2_with (first | rw [n2] | rw [ha])
     go_ret2
     exact ⟨⟨_, _, rfl, (fun _ => hr.out), (by first | exact fun _ => by omega | exact fun h => Bool.noConfusion h)⟩, rfl⟩
   ·have hj3 : ¬ (-10 : Int) ≤ -(n : Int) := by omega
    clear hb hv i1
    go_enter Tryz.func198, Tryz.ntmps198
    cases neg
    ·obtain rfl := n0.out rfl
     clear n0 n1 hW
     go_wp2_with (rw [n2])
     go_ret2
     exact ⟨⟨_, _, rfl, (fun h => Bool.noConfusion h), (fun h => Bool.noConfusion h)⟩, rfl⟩
    ·have n2 : Op.unary .neg (.float .f32 b) = pure (.float .f32 W) := by rw [← n1.out rfl]; rfl
     clear n0 n1 hW
     go_wp2_with (rw [n2])
     go_ret2
     exact ⟨⟨_, _, rfl, (fun h => Bool.noConfusion h), (fun h => Bool.noConfusion h)⟩, rfl⟩
 ·have e0 : ((d : Int) / 8388608 == 0) = false := bne_of (by omega)
  go_enter Tryz.func198, Tryz.ntmps198
  go_wp2_with (rw [n2])
  go_ret2
  exact ⟨⟨_, _, rfl, (fun h => Bool.noConfusion h), (fun h => Bool.noConfusion h)⟩, rfl⟩
end
end Go.Proofs.YtlgneiaenanfaaaGreatDoor
