/- Walks and plain laws, merged: FgF FgG FgH FgI. No condition. -/
import Derived.Test.YtlgneiaenanfaaaGreatDoorKq07
import Derived.Laws.FloatArith
namespace Go.Proofs.YtlgneiaenanfaaaGreatDoor
open Go.RowKit
set_option linter.unusedVariables false
set_option linter.unusedSimpArgs false
set_option maxRecDepth 100000
set_option maxHeartbeats 64000000
section
set_option maxRecDepth 100000
theorem bitLen_log : ∀ (f x : Nat), x ≠ 0 → x < 2 ^ f → Lib.bitLenAux f x = x.log2 + 1
 | 0, x, h0, h => by omega
 | f + 1, x, h0, h => by
  unfold Lib.bitLenAux
  rw [if_neg h0]
  by_cases h2 : 2 ≤ x
  ·rw [bitLen_log f (x / 2) (by omega) (by rw [Nat.pow_succ] at h; omega), Nat.log2_def x, if_pos h2]
   omega
  ·have : x = 1 := by omega
   subst this
   have e : ∀ f, Lib.bitLenAux f (1 / 2) = 0 := fun f => by cases f <;> rfl
   rw [e]
   rfl
theorem bitLen_d (d : Nat) (h0 : d ≠ 0) (h : d < 18446744073709551616) : Lib.bitLen d = d.log2 + 1 := bitLen_log 64 d h0 h
theorem usc_lt (x hi lo s : Nat) (hx : x < 18446744073709551616) (h1 : hi < 18446744073709551616) (hs : 8 ≤ s) : uscF x hi lo s < 144115188075855872 := by
 have hlt : x * hi < 18446744073709551616 * 18446744073709551616 := Nat.mul_lt_mul'' hx h1
 simp only [uscF]
 obtain ⟨h, hh⟩ : ∃ h, h = x * hi / 18446744073709551616 := ⟨_, rfl⟩
 rw [← hh]
 have hb : h < 18446744073709551616 := by rw [hh]; omega
 have hq : ∀ y, y ≤ h → y / 2 ^ s < 2 ^ 57 := by
  intro y hy
  have h8 : 2 ^ 8 ≤ 2 ^ s := Nat.pow_le_pow_right (by decide) hs
  have : y / 2 ^ s ≤ y / 2 ^ 8 := Nat.div_le_div_left h8 (by decide)
  omega
 split
 ·exact Nat.or_lt_two_pow (n := 57) (hq _ (by omega)) (by split <;> decide)
 ·exact Nat.or_lt_two_pow (n := 57) (hq _ (Nat.le_refl _)) (by decide)
theorem bool154 (b : Bool) (w : World) : Calls Tryz.prog 154 #[.bool b] w fun e w' => e = .returned (.int .i64 (if b then 1 else 0)) ∧ w = w' := by
 go_enter Tryz.func154, Tryz.ntmps154
 cases b
 all_goals go_wp2_with fail
 all_goals (go_ret; exact ⟨rfl, rfl⟩)
theorem or_sg (neg : Bool) (m : Nat) (hm : m < 9223372036854775808) : bits .or .u64 (sg64 neg : Int) (m : Int) = ((sg64 neg + m : Nat) : Int) := by
 rw [u64_or_nat _ m (by rcases sg64_cases neg with e | e <;> omega) (by omega)]
 refine congrArg Int.ofNat ?_
 rcases sg64_cases neg with e | e
 ·rw [e]; simp
 ·rw [e]
  have h2 := Nat.two_pow_add_eq_or_of_lt (i := 63) (b := m) hm 1
  simpa using h2.symm
theorem Pw.on {B : Nat} {w w' : World} (h : Pw w) (hB : Below B w w') (h8 : 8 < B) : Pw w' := by
 refine ⟨Nat.lt_of_lt_of_le h.1 hB.size, fun i x hx => ?_⟩
 rw [hB.cell h8, hB.cell h8]
 exact h.2 i x hx
theorem parse205 (neg : Bool) (d i : Nat) (hd0 : d ≠ 0) (hd : d < 18446744073709551616) (hi : i < 696) (x : Nat × Nat) (hx : Go.Pinned.pow10Rows[i]? = some x) (p t2 : Int) (hp : p = (i : Int) - 348) (ht2 : t2 = (sg64 neg : Int)) (w : World) (hw : Pw w) :
  Calls Tryz.prog 205 #[.int .u64 d, .int .i64 p, .int .u64 t2] w fun e w' => ∃ b, Near 52 (d * 10 ^ (i - 348) * 2 ^ 1074) (10 ^ (348 - i)) b ∧ e = .returned (.tuple #[.float .f64 (sg64 neg + min b 9218868437227405312), if 9218868437227405312 ≤ b then .iface 144 (.int .i64 1) else .nilIface]) ∧ Below w.heap.size w w' := by
 obtain ⟨bl, hbl⟩ : ∃ bl, bl = d.log2 + 1 := ⟨_, rfl⟩
 have hb1 : 1 ≤ bl ∧ bl ≤ 64 := by
  refine ⟨by omega, ?_⟩
  have h2 := (Nat.log2_lt hd0 (k := 64)).2 hd
  omega
 obtain ⟨L, hL⟩ : ∃ L : Int, L = (lgT i : Int) - 1200 := ⟨_, rfl⟩
 have hL1 : -1200 ≤ L ∧ L ≤ 1200 := by rw [hL]; unfold lgT; omega
 obtain ⟨pe, hpe⟩ : ∃ pe, pe = pfE 52 1074 d i := ⟨_, rfl⟩
 have hpe1 : pe = min 1074 (53 - (bl : Int) - L) := by rw [hpe, hbl, hL]; unfold pfE; omega
 obtain ⟨s, hs⟩ : ∃ s, s = pfS 52 1074 d i := ⟨_, rfl⟩
 have hs1 : s = 61 - pe - (bl : Int) - L := by rw [hs, hbl, hL, hpe]; rfl
 have c1 := Tryz.bits_Len64 d w (by omega) (by omega)
 rw [show ((d : Int).toNat) = d by omega, bitLen_d d hd0 hd, ← hbl] at c1
 have c2 := log174 p i hi hp w
 rw [← hL] at c2
 replace c1 := hid c1
 replace c2 := hid c2
 have H1 := hid hL
 have H2 := hid hpe
 have H3 := hid hs
 have H4 := hid hbl
 clear hL hpe hs hbl
 have HX := hid hx
 have HP := hid hp
 clear hp
 go_enter Tryz.func205, Tryz.ntmps205
 go_wp2_with fail
 go_at_call 138
 refine c1.out.mono ?_
 clear c1
 rintro e w1 ⟨rfl, rfl⟩
 go_wp2_with fail
 go_at_call 174
 refine c2.out.mono ?_
 clear c2
 rintro e w2 ⟨rfl, rfl⟩
 go_wp2_with fail
 rw [← hpe1]
 have hb0 := Bx.new w1 #[.int .u64 0, .int .u64 0, .int .i64 0] 210
 have hB0 : Below w1.heap.size w1 (w1.alloc (.cells #[.int .u64 0, .int .u64 0, .int .i64 0] 210)) := (Below.refl _ _).alloc (Nat.le_refl _) _
 refine (prescale173 w1.heap.size _ hb0 (pe - (64 - (bl : Int))) L (by omega) (by omega) p i hi HP.out x hx (hw.on hB0 hw.1) (by have := hw.1; omega) w1.heap.size (Nat.le_refl _)).mono ?_
 rintro e w3 ⟨rfl, hb3, hB3⟩
 have hB := hB0.trans hB3
 have hs8 : 8 ≤ s := by omega
 rw [show -(pe - (64 - (bl : Int)) + L + 3) = s by omega] at hb3
 clear hb0 hB0 hB3
 have q2 := hb3.cell 2
 simp at q2
 replace hb3 := hid hb3
 replace hB := hid hB
 have hrow := hid (row_at i x hx)
 have hpeb : pe ≤ 1074 ∧ -1300 ≤ pe := by omega
 clear hx hpe1 hs1
 by_cases h64 : 64 ≤ s
 ·have o0 : bits .or .u64 (sg64 neg : Int) 0 = (sg64 neg : Int) := by
   have h := or_e (sg64 neg) 0 (by rcases sg64_cases neg with e | e <;> omega) (by rcases sg64_cases neg with e | e <;> rw [e] <;> decide) (by decide)
   simpa using h
  have k203 := call203
  go_wp2_with fail
  go_ret2
  have hN := pf_zero 52 1074 d i x.1 x.2 (by omega) (by omega) hd0 hrow.out (by rw [← H3.out]; exact h64)
  refine ⟨0, hN, ?_, hB.out⟩
  simp
 ·have hs64 : s < 64 := by omega
  obtain ⟨sn, rfl⟩ : ∃ sn : Nat, s = (sn : Int) := ⟨s.toNat, by omega⟩
  obtain ⟨sh, hsh⟩ : ∃ sh : Nat, sh = 64 - bl := ⟨_, rfl⟩
  have esh : (64 : Int) - (bl : Int) = (sh : Int) := by omega
  obtain ⟨X, hX⟩ : ∃ X, X = d * 2 ^ sh := ⟨_, rfl⟩
  have hX1 : X < 18446744073709551616 := by
   have h1 : d < 2 ^ bl := by rw [H4.out]; exact Nat.lt_log2_self
   have h2 : 2 ^ bl * 2 ^ sh = 18446744073709551616 := by rw [← Nat.pow_add, show bl + sh = 64 by omega]
   rw [hX, ← h2]
   exact Nat.mul_lt_mul_of_pos_right h1 (Nat.pow_pos (by decide))
  have eX : (d : Int) * 2 ^ sh = (X : Int) := by rw [hX]; simp
  replace hX := hid hX
  replace hsh := hid hsh
  have u175 := uscale175 X x.1 x.2 sn w1.heap.size hX1 hrow.out.hil hrow.out.lol (by omega) hrow.out.pos w3 hb3.out
  obtain ⟨U, hU⟩ : ∃ U, U = uscF X x.1 x.2 sn := ⟨_, rfl⟩
  have hU1 : U < 144115188075855872 := by rw [hU]; exact usc_lt X x.1 x.2 sn hX1 hrow.out.hil (by omega)
  rw [← hU] at u175
  replace u175 := hid u175
  have hU' : Hid (U = pfU 52 1074 d i x.1 x.2) := hid (by
   rw [hU, hX.out, hsh.out, H4.out]
   unfold pfU
   rw [← H3.out]
   rfl)
  clear hU
  go_wp2_with fail
  go_at_call 175
  refine u175.out.mono ?_
  clear u175
  rintro e w4 ⟨rfl, hB4⟩
  have hB5 := hB.out.trans (hB4.mono (hB.out.size))
  replace hB5 := hid hB5
  clear hB4 hB q2 hb3
  go_wp2_with fail
  go_at_call 180
  refine (unmin180 9007199254740992 (by omega) _).mono ?_
  rintro e w5 ⟨rfl, rfl⟩
  rw [show (4 : Int) * 9007199254740992 - 2 = 36028797018963966 by decide]
  go_wp2_with fail
  go_at_call 154
  refine (bool154 _ _).mono ?_
  rintro e w6 ⟨rfl, rfl⟩
  by_cases hc : 36028797018963966 ≤ U
  ·have d1 : decide ((36028797018963966 : Int) ≤ (U : Int)) = true := decide_eq_true (by omega)
   rw [d1, if_pos rfl]
   obtain ⟨r, hr⟩ : ∃ r, r = U % 2 := ⟨_, rfl⟩
   have aU : bits .and .u64 (U : Int) 1 = (r : Int) := by rw [hr]; exact and1 U (by omega)
   obtain ⟨V, hV⟩ : ∃ V, V = U / 2 ||| U % 2 := ⟨_, rfl⟩
   have hV1 : V < 144115188075855872 := by rw [hV]; exact Nat.or_lt_two_pow (n := 57) (by omega) (by omega)
   have oV : bits .or .u64 ((U : Int) / 2) (r : Int) = (V : Int) := by
    rw [show (U : Int) / 2 = ((U / 2 : Nat) : Int) by omega, u64_or_nat _ _ (by omega) (by omega), hV, hr]
   obtain ⟨m, hm⟩ : ∃ m, m = rnd4 V := ⟨_, rfl⟩
   have r179 := round179 V (by omega) w4
   rw [← hm] at r179
   have N := pf_near 52 1074 d i x.1 x.2 (by omega) (by omega) hd0 hd hi hrow.out (by rw [← H3.out]; omega)
   simp only [] at N
   rw [← hU'.out, show (2 : Nat) ^ 52 = 4503599627370496 from rfl] at N
   have eM : pfM 52 U = m := by
    unfold pfM
    rw [if_pos (by rw [show (2 : Nat) ^ 52 = 4503599627370496 from rfl]; omega), hm, hV]
   obtain ⟨K, hK⟩ : ∃ K : Nat, (K : Int) = 1074 - pe + 1 := ⟨(1074 - pe + 1).toNat, by omega⟩
   have eK : pfK 52 1074 d i U = K := by
    unfold pfK pfC
    rw [if_pos (by rw [show (2 : Nat) ^ 52 = 4503599627370496 from rfl]; omega), ← H2.out]
    omega
   rw [eM, eK] at N
   have pk := pack219 neg m K (by omega) N.2.2 (by omega) ((sg64 neg + m : Nat) : Int) (-(pe - 1)) rfl (by omega) w4
   obtain ⟨R, hR⟩ : ∃ R, R = sg64 neg + min (K * 4503599627370496 + m) 9218868437227405312 := ⟨_, rfl⟩
   obtain ⟨E, hE⟩ : ∃ E, E = if 9218868437227405312 ≤ K * 4503599627370496 + m then Value.iface 144 (.int .i64 1) else .nilIface := ⟨_, rfl⟩
   rw [← hR, ← hE] at pk
   replace hR := hid hR
   replace hE := hid hE
   have oS := or_sg neg m (by omega)
   have hm2 : m < 9007199254740992 := by omega
   replace pk := hid pk
   replace r179 := hid r179
   replace N := hid N.1
   clear hm hV hr eM eK d1
   replace hK := hid hK
   replace hm2 := hid hm2
   obtain ⟨S, hS⟩ : ∃ S : Int, S = ((sg64 neg + m : Nat) : Int) := ⟨_, rfl⟩
   rw [← hS] at oS pk
   clear hS
   go_wp2_with fail
   go_at_call 179
   refine r179.out.mono ?_
   clear r179
   rintro e w7 ⟨rfl, rfl⟩
   go_wp2_with fail
   go_at_call 219
   refine pk.out.mono ?_
   clear pk
   rintro e w8 ⟨rfl, rfl⟩
   go_wp2_with fail
   go_ret2
   refine ⟨_, N.out, ?_, hB5.out⟩
   rw [← hR.out, ← hE.out]
   rfl
  ·have d1 : decide ((36028797018963966 : Int) ≤ (U : Int)) = false := decide_eq_false (by omega)
   rw [d1, if_neg (by decide)]
   obtain ⟨r, hr⟩ : ∃ r, r = U % 2 := ⟨_, rfl⟩
   have aU : bits .and .u64 (U : Int) 1 = (r : Int) := by rw [hr]; exact and1 U (by omega)
   obtain ⟨V, hV⟩ : ∃ V, V = U := ⟨_, rfl⟩
   have hV1 : V < 144115188075855872 := by rw [hV]; exact hU1
   have oV : bits .or .u64 (U : Int) (r : Int) = (V : Int) := by
    rw [u64_or_nat _ _ (by omega) (by omega), hV, hr]
    refine congrArg Int.ofNat ?_
    have h := or_half (2 * U + 0)
    rcases Nat.mod_two_eq_zero_or_one U with h | h
    ·rw [h]; simp
    ·rw [h, or_one']; omega
   obtain ⟨m, hm⟩ : ∃ m, m = rnd4 V := ⟨_, rfl⟩
   have r179 := round179 V (by omega) w4
   rw [← hm] at r179
   have N := pf_near 52 1074 d i x.1 x.2 (by omega) (by omega) hd0 hd hi hrow.out (by rw [← H3.out]; omega)
   simp only [] at N
   rw [← hU'.out, show (2 : Nat) ^ 52 = 4503599627370496 from rfl] at N
   have eM : pfM 52 U = m := by
    unfold pfM
    rw [if_neg (by rw [show (2 : Nat) ^ 52 = 4503599627370496 from rfl]; omega), hm, hV]
   obtain ⟨K, hK⟩ : ∃ K : Nat, (K : Int) = 1074 - pe + 0 := ⟨(1074 - pe + 0).toNat, by omega⟩
   have eK : pfK 52 1074 d i U = K := by
    unfold pfK pfC
    rw [if_neg (by rw [show (2 : Nat) ^ 52 = 4503599627370496 from rfl]; omega), ← H2.out]
    omega
   rw [eM, eK] at N
   have pk := pack219 neg m K (by omega) N.2.2 (by omega) ((sg64 neg + m : Nat) : Int) (-pe) rfl (by omega) w4
   obtain ⟨R, hR⟩ : ∃ R, R = sg64 neg + min (K * 4503599627370496 + m) 9218868437227405312 := ⟨_, rfl⟩
   obtain ⟨E, hE⟩ : ∃ E, E = if 9218868437227405312 ≤ K * 4503599627370496 + m then Value.iface 144 (.int .i64 1) else .nilIface := ⟨_, rfl⟩
   rw [← hR, ← hE] at pk
   replace hR := hid hR
   replace hE := hid hE
   have oS := or_sg neg m (by omega)
   have hm2 : m < 9007199254740992 := by omega
   replace pk := hid pk
   replace r179 := hid r179
   replace N := hid N.1
   clear hm hV hr eM eK d1
   replace hK := hid hK
   replace hm2 := hid hm2
   obtain ⟨S, hS⟩ : ∃ S : Int, S = ((sg64 neg + m : Nat) : Int) := ⟨_, rfl⟩
   rw [← hS] at oS pk
   clear hS
   go_wp2_with fail
   go_at_call 179
   refine r179.out.mono ?_
   clear r179
   rintro e w7 ⟨rfl, rfl⟩
   go_wp2_with fail
   go_at_call 219
   refine pk.out.mono ?_
   clear pk
   rintro e w8 ⟨rfl, rfl⟩
   go_wp2_with fail
   go_ret2
   refine ⟨_, N.out, ?_, hB5.out⟩
   rw [← hR.out, ← hE.out]
   rfl
end
section
set_option maxRecDepth 100000
def sg32 (neg : Bool) : Nat := if neg then 2147483648 else 0
theorem sg32_cases (neg : Bool) : sg32 neg = 0 ∨ sg32 neg = 2147483648 := by cases neg <;> simp [sg32]
theorem and_q (x i : Nat) (hx : x < 4294967296) (hi : i < 32) : bits .and .u32 (x : Int) ((2 ^ i : Nat) : Int) = ((x / 2 ^ i % 2 * 2 ^ i : Nat) : Int) := by
 have hp : 2 ^ i < 4294967296 := Nat.lt_of_lt_of_le (Nat.pow_lt_pow_right (by decide) hi) (by decide)
 have h := and_bit_var 32 x (i : Int) (by omega)
 have e : ((2 : Int) ^ min ((i : Int).toNat) 32 % 2 ^ 32).toNat = 2 ^ i := by
  rw [show min ((i : Int).toNat) 32 = i by omega, Int.emod_eq_of_lt (Int.le_of_lt (Int.pow_pos (by decide))) (by rw [show ((2 : Int) ^ 32) = ((4294967296 : Nat) : Int) from rfl]; exact_mod_cast hp), toNat_two_pow]
 rw [e, if_neg (by omega), show ((i : Int).toNat) = i by omega] at h
 rw [u32_and_nat x (2 ^ i) hx hp, h]
theorem clr23 (x : Nat) (hx : x < 4294967296) : bits .andNot .u32 (x : Int) 8388608 = ((x / 16777216 * 16777216 + x % 8388608 : Nat) : Int) := by
 have h := u32_andNot_nat x 8388608 hx (by decide)
 rw [show ((8388608 : Nat) : Int) = 8388608 from rfl] at h
 rw [h]
 refine congrArg Int.ofNat ?_
 obtain ⟨M, hM⟩ : ∃ M, M = 4294967295 - 8388608 := ⟨_, rfl⟩
 rw [show (4294967295 - 8388608 : Nat) = M from hM.symm]
 have d := Nat.and_div_two_pow (a := x) (b := M) (n := 24)
 have r := Nat.and_mod_two_pow (a := x) (b := M) (n := 24)
 rw [show M / 2 ^ 24 = 2 ^ 8 - 1 by rw [hM], Nat.and_two_pow_sub_one_eq_mod] at d
 rw [show M % 2 ^ 24 = 2 ^ 23 - 1 by rw [hM], Nat.and_two_pow_sub_one_eq_mod] at r
 omega
theorem or_f (x e : Nat) (hx : x < 4294967296) (hx2 : x / 8388608 = 0 ∨ x / 8388608 = 256) (he : e < 256) : bits .or .u32 (x : Int) ((e * 8388608 : Nat) : Int) = ((x + e * 8388608 : Nat) : Int) := by
 rw [u32_or_nat x _ hx (by omega)]
 refine congrArg Int.ofNat ?_
 have d := Nat.or_div_two_pow (a := x) (b := e * 8388608) (n := 23)
 have r := Nat.or_mod_two_pow (a := x) (b := e * 8388608) (n := 23)
 rw [show e * 8388608 / 2 ^ 23 = e by omega, show x / 2 ^ 23 = x / 8388608 from rfl] at d
 rw [show e * 8388608 % 2 ^ 23 = 0 by omega, Nat.or_zero] at r
 have o : x / 8388608 ||| e = x / 8388608 + e := by
  rcases hx2 with h | h
  ·rw [h]; simp
  ·rw [h]
   have h2 := Nat.two_pow_add_eq_or_of_lt (i := 8) (b := e) he 1
   simpa using h2.symm
 rw [o] at d
 omega
theorem pack217 (neg : Bool) (m K : Nat) (hm : m < 16777216) (h0 : m < 8388608 → K = 0) (hK : K ≤ 4000) (t0 t1 : Int) (ht0 : t0 = ((sg32 neg + m : Nat) : Int)) (ht1 : t1 = (K : Int) - 149) (w : World) :
  Calls Tryz.prog 217 #[.int .u32 t0, .int .i64 t1] w fun e w' => e = .returned (.tuple #[.float .f32 (sg32 neg + min (K * 8388608 + m) 2139095040), if 2139095040 ≤ K * 8388608 + m then .iface 144 (.int .i64 1) else .nilIface]) ∧ w = w' := by
 obtain ⟨R, hR⟩ : ∃ R, R = sg32 neg + min (K * 8388608 + m) 2139095040 := ⟨_, rfl⟩
 obtain ⟨E, hE⟩ : ∃ E, E = if 2139095040 ≤ K * 8388608 + m then Value.iface 144 (.int .i64 1) else .nilIface := ⟨_, rfl⟩
 rw [← hR, ← hE]
 replace hR := hid hR
 replace hE := hid hE
 obtain ⟨c, hc⟩ : ∃ c : Int, c = ((m / 8388608 * 8388608 : Nat) : Int) := ⟨_, rfl⟩
 have a1 : bits .and .u32 t0 8388608 = c := by
  have h := and_q (sg32 neg + m) 23 (by rcases sg32_cases neg with e | e <;> omega) (by decide)
  rw [ht0, hc]
  rw [show (((2 ^ 23 : Nat) : Int)) = 8388608 from rfl, show (2 : Nat) ^ 23 = 8388608 from rfl] at h
  rw [h]
  rcases sg32_cases neg with e | e <;> rw [e] <;> omega
 have hh := hid h0
 have hh1 := hid ht0
 have hh2 := hid hm
 have hc' := hid hc
 have k197 := call197
 clear h0 ht0 hm hc
 go_enter Tryz.func217, Tryz.ntmps217
 by_cases hs : m < 8388608
 ·have c0 : c = 0 := by rw [hc'.out]; omega
  subst c0
  have hs' := hid hs
  clear hs
  have hk0 := hh.out hs'.out
  have e1 : t0.toNat = R := by
   rw [hR.out, hh1.out, hk0]
   have := hs'.out
   omega
  have e2 : Value.nilIface = E := by
   rw [hE.out, hk0, if_neg (by have := hs'.out; omega)]
  replace hk0 := hid hk0
  go_wp2_with fail
  go_ret2
  exact ⟨by rw [← e2]; rfl, rfl⟩
 ·have c0 : (c == 0) = false := bne_of (by rw [hc'.out]; omega)
  have a2 : bits .and .u32 t0 2147483648 = (sg32 neg : Int) := by
   have h := and_q (sg32 neg + m) 31 (by have := hh2.out; rcases sg32_cases neg with e | e <;> omega) (by decide)
   rw [hh1.out]
   rw [show (((2 ^ 31 : Nat) : Int)) = 2147483648 from rfl, show (2 : Nat) ^ 31 = 2147483648 from rfl] at h
   rw [h]
   have := hh2.out
   rcases sg32_cases neg with e | e <;> rw [e] <;> omega
  have a3 : bits .or .u32 (sg32 neg : Int) 2139095040 = ((sg32 neg + 2139095040 : Nat) : Int) := by
   have h := or_f (sg32 neg) 255 (by rcases sg32_cases neg with e | e <;> omega) (by rcases sg32_cases neg with e | e <;> rw [e] <;> decide) (by decide)
   exact h
  obtain ⟨g, hg⟩ : ∃ g, g = sg32 neg + (m - 8388608) := ⟨_, rfl⟩
  have a4 : bits .andNot .u32 t0 8388608 = (g : Int) := by
   rw [hh1.out, clr23 _ (by have := hh2.out; rcases sg32_cases neg with e | e <;> omega), hg]
   have := hh2.out
   rcases sg32_cases neg with e | e <;> rw [e] <;> omega
  have a5 : K + 1 < 256 → bits .or .u32 (g : Int) ((150 + ((K : Int) - 149)) * 8388608) = ((g + (K + 1) * 8388608 : Nat) : Int) := by
   intro hk
   have h := or_f g (K + 1) (by have := hh2.out; rcases sg32_cases neg with e | e <;> omega) (by have := hh2.out; rcases sg32_cases neg with e | e <;> omega) hk
   rw [← h]
   congr 1
   omega
  replace a3 := hid a3
  replace a5 := hid a5
  replace hg := hid hg
  have hs' := hid hs
  clear hs
  go_wp2_with fail
  ·rename_i hk
   go_ret2
   have := hs'.out
   have := hh2.out
   refine ⟨?_, rfl⟩
   rw [a3.out, hR.out, hE.out, if_pos (by omega), show min (K * 8388608 + m) 2139095040 = 2139095040 by omega]
   rfl
  ·rename_i hk
   go_ret2
   have := hs'.out
   have := hh2.out
   refine ⟨?_, rfl⟩
   rw [a5.out (by omega), hR.out, hE.out, if_neg (by omega), hg.out, show min (K * 8388608 + m) 2139095040 = K * 8388608 + m by omega]
   rw [show sg32 neg + (m - 8388608) + (K + 1) * 8388608 = sg32 neg + (K * 8388608 + m) by omega]
   rfl
theorem or_sh (neg : Bool) (m : Nat) (hm : m < 2147483648) : bits .or .u32 (sg32 neg : Int) (m : Int) = ((sg32 neg + m : Nat) : Int) := by
 rw [u32_or_nat _ m (by rcases sg32_cases neg with e | e <;> omega) (by omega)]
 refine congrArg Int.ofNat ?_
 rcases sg32_cases neg with e | e
 ·rw [e]; simp
 ·rw [e]
  have h2 := Nat.two_pow_add_eq_or_of_lt (i := 31) (b := m) hm 1
  simpa using h2.symm
theorem parse199 (neg : Bool) (d i : Nat) (hd0 : d ≠ 0) (hd : d < 18446744073709551616) (hi : i < 696) (x : Nat × Nat) (hx : Go.Pinned.pow10Rows[i]? = some x) (p t2 : Int) (hp : p = (i : Int) - 348) (ht2 : t2 = (sg32 neg : Int)) (w : World) (hw : Pw w) :
  Calls Tryz.prog 199 #[.int .u64 d, .int .i64 p, .int .u32 t2] w fun e w' => ∃ b, Near 23 (d * 10 ^ (i - 348) * 2 ^ 149) (10 ^ (348 - i)) b ∧ e = .returned (.tuple #[.float .f32 (sg32 neg + min b 2139095040), if 2139095040 ≤ b then .iface 144 (.int .i64 1) else .nilIface]) ∧ Below w.heap.size w w' := by
 obtain ⟨bl, hbl⟩ : ∃ bl, bl = d.log2 + 1 := ⟨_, rfl⟩
 have hb1 : 1 ≤ bl ∧ bl ≤ 64 := by
  refine ⟨by omega, ?_⟩
  have h2 := (Nat.log2_lt hd0 (k := 64)).2 hd
  omega
 obtain ⟨L, hL⟩ : ∃ L : Int, L = (lgT i : Int) - 1200 := ⟨_, rfl⟩
 have hL1 : -1200 ≤ L ∧ L ≤ 1200 := by rw [hL]; unfold lgT; omega
 obtain ⟨pe, hpe⟩ : ∃ pe, pe = pfE 23 149 d i := ⟨_, rfl⟩
 have hpe1 : pe = min 149 (24 - (bl : Int) - L) := by rw [hpe, hbl, hL]; unfold pfE; omega
 obtain ⟨s, hs⟩ : ∃ s, s = pfS 23 149 d i := ⟨_, rfl⟩
 have hs1 : s = 61 - pe - (bl : Int) - L := by rw [hs, hbl, hL, hpe]; rfl
 have c1 := Tryz.bits_Len64 d w (by omega) (by omega)
 rw [show ((d : Int).toNat) = d by omega, bitLen_d d hd0 hd, ← hbl] at c1
 have c2 := log174 p i hi hp w
 rw [← hL] at c2
 replace c1 := hid c1
 replace c2 := hid c2
 have H1 := hid hL
 have H2 := hid hpe
 have H3 := hid hs
 have H4 := hid hbl
 clear hL hpe hs hbl
 have HX := hid hx
 have HP := hid hp
 clear hp
 go_enter Tryz.func199, Tryz.ntmps199
 go_wp2_with fail
 go_at_call 138
 refine c1.out.mono ?_
 clear c1
 rintro e w1 ⟨rfl, rfl⟩
 go_wp2_with fail
 go_at_call 174
 refine c2.out.mono ?_
 clear c2
 rintro e w2 ⟨rfl, rfl⟩
 go_wp2_with fail
 rw [← hpe1]
 have hb0 := Bx.new w1 #[.int .u64 0, .int .u64 0, .int .i64 0] 210
 have hB0 : Below w1.heap.size w1 (w1.alloc (.cells #[.int .u64 0, .int .u64 0, .int .i64 0] 210)) := (Below.refl _ _).alloc (Nat.le_refl _) _
 refine (prescale173 w1.heap.size _ hb0 (pe - (64 - (bl : Int))) L (by omega) (by omega) p i hi HP.out x hx (hw.on hB0 hw.1) (by have := hw.1; omega) w1.heap.size (Nat.le_refl _)).mono ?_
 rintro e w3 ⟨rfl, hb3, hB3⟩
 have hB := hB0.trans hB3
 have hs8 : 8 ≤ s := by omega
 rw [show -(pe - (64 - (bl : Int)) + L + 3) = s by omega] at hb3
 clear hb0 hB0 hB3
 have q2 := hb3.cell 2
 simp at q2
 replace hb3 := hid hb3
 replace hB := hid hB
 have hrow := hid (row_at i x hx)
 have hpeb : pe ≤ 149 ∧ -1300 ≤ pe := by omega
 clear hx hpe1 hs1
 by_cases h64 : 64 ≤ s
 ·have o0 : bits .or .u32 (sg32 neg : Int) 0 = (sg32 neg : Int) := by
   have h := or_f (sg32 neg) 0 (by rcases sg32_cases neg with e | e <;> omega) (by rcases sg32_cases neg with e | e <;> rw [e] <;> decide) (by decide)
   simpa using h
  have k197 := call197
  go_wp2_with fail
  go_ret2
  have hN := pf_zero 23 149 d i x.1 x.2 (by omega) (by omega) hd0 hrow.out (by rw [← H3.out]; exact h64)
  refine ⟨0, hN, ?_, hB.out⟩
  simp
 ·have hs64 : s < 64 := by omega
  obtain ⟨sn, rfl⟩ : ∃ sn : Nat, s = (sn : Int) := ⟨s.toNat, by omega⟩
  obtain ⟨sh, hsh⟩ : ∃ sh : Nat, sh = 64 - bl := ⟨_, rfl⟩
  have esh : (64 : Int) - (bl : Int) = (sh : Int) := by omega
  obtain ⟨X, hX⟩ : ∃ X, X = d * 2 ^ sh := ⟨_, rfl⟩
  have hX1 : X < 18446744073709551616 := by
   have h1 : d < 2 ^ bl := by rw [H4.out]; exact Nat.lt_log2_self
   have h2 : 2 ^ bl * 2 ^ sh = 18446744073709551616 := by rw [← Nat.pow_add, show bl + sh = 64 by omega]
   rw [hX, ← h2]
   exact Nat.mul_lt_mul_of_pos_right h1 (Nat.pow_pos (by decide))
  have eX : (d : Int) * 2 ^ sh = (X : Int) := by rw [hX]; simp
  replace hX := hid hX
  replace hsh := hid hsh
  have u175 := uscale175 X x.1 x.2 sn w1.heap.size hX1 hrow.out.hil hrow.out.lol (by omega) hrow.out.pos w3 hb3.out
  obtain ⟨U, hU⟩ : ∃ U, U = uscF X x.1 x.2 sn := ⟨_, rfl⟩
  have hU1 : U < 144115188075855872 := by rw [hU]; exact usc_lt X x.1 x.2 sn hX1 hrow.out.hil (by omega)
  rw [← hU] at u175
  replace u175 := hid u175
  have hU' : Hid (U = pfU 23 149 d i x.1 x.2) := hid (by
   rw [hU, hX.out, hsh.out, H4.out]
   unfold pfU
   rw [← H3.out]
   rfl)
  clear hU
  go_wp2_with fail
  go_at_call 175
  refine u175.out.mono ?_
  clear u175
  rintro e w4 ⟨rfl, hB4⟩
  have hB5 := hB.out.trans (hB4.mono (hB.out.size))
  replace hB5 := hid hB5
  clear hB4 hB q2 hb3
  go_wp2_with fail
  go_at_call 180
  refine (unmin180 16777216 (by omega) _).mono ?_
  rintro e w5 ⟨rfl, rfl⟩
  rw [show (4 : Int) * 16777216 - 2 = 67108862 by decide]
  go_wp2_with fail
  go_at_call 154
  refine (bool154 _ _).mono ?_
  rintro e w6 ⟨rfl, rfl⟩
  by_cases hc : 67108862 ≤ U
  ·have d1 : decide ((67108862 : Int) ≤ (U : Int)) = true := decide_eq_true (by omega)
   rw [d1, if_pos rfl]
   obtain ⟨r, hr⟩ : ∃ r, r = U % 2 := ⟨_, rfl⟩
   have aU : bits .and .u64 (U : Int) 1 = (r : Int) := by rw [hr]; exact and1 U (by omega)
   obtain ⟨V, hV⟩ : ∃ V, V = U / 2 ||| U % 2 := ⟨_, rfl⟩
   have hV1 : V < 144115188075855872 := by rw [hV]; exact Nat.or_lt_two_pow (n := 57) (by omega) (by omega)
   have oV : bits .or .u64 ((U : Int) / 2) (r : Int) = (V : Int) := by
    rw [show (U : Int) / 2 = ((U / 2 : Nat) : Int) by omega, u64_or_nat _ _ (by omega) (by omega), hV, hr]
   obtain ⟨m, hm⟩ : ∃ m, m = rnd4 V := ⟨_, rfl⟩
   have r179 := round179 V (by omega) w4
   rw [← hm] at r179
   have N := pf_near 23 149 d i x.1 x.2 (by omega) (by omega) hd0 hd hi hrow.out (by rw [← H3.out]; omega)
   simp only [] at N
   rw [← hU'.out, show (2 : Nat) ^ 23 = 8388608 from rfl] at N
   have eM : pfM 23 U = m := by
    unfold pfM
    rw [if_pos (by rw [show (2 : Nat) ^ 23 = 8388608 from rfl]; omega), hm, hV]
   obtain ⟨K, hK⟩ : ∃ K : Nat, (K : Int) = 149 - pe + 1 := ⟨(149 - pe + 1).toNat, by omega⟩
   have eK : pfK 23 149 d i U = K := by
    unfold pfK pfC
    rw [if_pos (by rw [show (2 : Nat) ^ 23 = 8388608 from rfl]; omega), ← H2.out]
    omega
   rw [eM, eK] at N
   have pk := pack217 neg m K (by omega) N.2.2 (by omega) ((sg32 neg + m : Nat) : Int) (-(pe - 1)) rfl (by omega) w4
   obtain ⟨R, hR⟩ : ∃ R, R = sg32 neg + min (K * 8388608 + m) 2139095040 := ⟨_, rfl⟩
   obtain ⟨E, hE⟩ : ∃ E, E = if 2139095040 ≤ K * 8388608 + m then Value.iface 144 (.int .i64 1) else .nilIface := ⟨_, rfl⟩
   rw [← hR, ← hE] at pk
   replace hR := hid hR
   replace hE := hid hE
   have oS := or_sh neg m (by omega)
   have em : (m : Int) % 4294967296 = (m : Int) := by omega
   have hm2 : m < 16777216 := by omega
   replace pk := hid pk
   replace r179 := hid r179
   replace N := hid N.1
   clear hm hV hr eM eK d1
   replace hK := hid hK
   replace hm2 := hid hm2
   obtain ⟨S, hS⟩ : ∃ S : Int, S = ((sg32 neg + m : Nat) : Int) := ⟨_, rfl⟩
   rw [← hS] at oS pk
   clear hS
   go_wp2_with fail
   go_at_call 179
   refine r179.out.mono ?_
   clear r179
   rintro e w7 ⟨rfl, rfl⟩
   go_wp2_with fail
   go_at_call 217
   refine pk.out.mono ?_
   clear pk
   rintro e w8 ⟨rfl, rfl⟩
   go_wp2_with fail
   go_ret2
   refine ⟨_, N.out, ?_, hB5.out⟩
   rw [← hR.out, ← hE.out]
   rfl
  ·have d1 : decide ((67108862 : Int) ≤ (U : Int)) = false := decide_eq_false (by omega)
   rw [d1, if_neg (by decide)]
   obtain ⟨r, hr⟩ : ∃ r, r = U % 2 := ⟨_, rfl⟩
   have aU : bits .and .u64 (U : Int) 1 = (r : Int) := by rw [hr]; exact and1 U (by omega)
   obtain ⟨V, hV⟩ : ∃ V, V = U := ⟨_, rfl⟩
   have hV1 : V < 144115188075855872 := by rw [hV]; exact hU1
   have oV : bits .or .u64 (U : Int) (r : Int) = (V : Int) := by
    rw [u64_or_nat _ _ (by omega) (by omega), hV, hr]
    refine congrArg Int.ofNat ?_
    have h := or_half (2 * U + 0)
    rcases Nat.mod_two_eq_zero_or_one U with h | h
    ·rw [h]; simp
    ·rw [h, or_one']; omega
   obtain ⟨m, hm⟩ : ∃ m, m = rnd4 V := ⟨_, rfl⟩
   have r179 := round179 V (by omega) w4
   rw [← hm] at r179
   have N := pf_near 23 149 d i x.1 x.2 (by omega) (by omega) hd0 hd hi hrow.out (by rw [← H3.out]; omega)
   simp only [] at N
   rw [← hU'.out, show (2 : Nat) ^ 23 = 8388608 from rfl] at N
   have eM : pfM 23 U = m := by
    unfold pfM
    rw [if_neg (by rw [show (2 : Nat) ^ 23 = 8388608 from rfl]; omega), hm, hV]
   obtain ⟨K, hK⟩ : ∃ K : Nat, (K : Int) = 149 - pe + 0 := ⟨(149 - pe + 0).toNat, by omega⟩
   have eK : pfK 23 149 d i U = K := by
    unfold pfK pfC
    rw [if_neg (by rw [show (2 : Nat) ^ 23 = 8388608 from rfl]; omega), ← H2.out]
    omega
   rw [eM, eK] at N
   have pk := pack217 neg m K (by omega) N.2.2 (by omega) ((sg32 neg + m : Nat) : Int) (-pe) rfl (by omega) w4
   obtain ⟨R, hR⟩ : ∃ R, R = sg32 neg + min (K * 8388608 + m) 2139095040 := ⟨_, rfl⟩
   obtain ⟨E, hE⟩ : ∃ E, E = if 2139095040 ≤ K * 8388608 + m then Value.iface 144 (.int .i64 1) else .nilIface := ⟨_, rfl⟩
   rw [← hR, ← hE] at pk
   replace hR := hid hR
   replace hE := hid hE
   have oS := or_sh neg m (by omega)
   have em : (m : Int) % 4294967296 = (m : Int) := by omega
   have hm2 : m < 16777216 := by omega
   replace pk := hid pk
   replace r179 := hid r179
   replace N := hid N.1
   clear hm hV hr eM eK d1
   replace hK := hid hK
   replace hm2 := hid hm2
   obtain ⟨S, hS⟩ : ∃ S : Int, S = ((sg32 neg + m : Nat) : Int) := ⟨_, rfl⟩
   rw [← hS] at oS pk
   clear hS
   go_wp2_with fail
   go_at_call 179
   refine r179.out.mono ?_
   clear r179
   rintro e w7 ⟨rfl, rfl⟩
   go_wp2_with fail
   go_at_call 217
   refine pk.out.mono ?_
   clear pk
   rintro e w8 ⟨rfl, rfl⟩
   go_wp2_with fail
   go_ret2
   refine ⟨_, N.out, ?_, hB5.out⟩
   rw [← hR.out, ← hE.out]
   rfl
end
section
set_option maxRecDepth 100000
theorem call20 (n : Int) (w : World) : (callFunc 20 #[.int .u64 n]).run Tryz.prog w = .ok (.value (.float .f64 n.toNat)) w := by
 rw [run_callFunc_extern (e := Extern.MathFloatBits.float64frombits) Tryz.func20 (by kernel_rfl) (by kernel_rfl) (by kernel_rfl) (by kernel_rfl)]
 rfl
theorem nan62 (w : World) : Calls Tryz.prog 62 #[] w fun e w' => e = .returned (.float .f64 9221120237041090561) ∧ w = w' := by
 have k := call20
 go_enter Tryz.func62, Tryz.ntmps62
 go_wp2_with fail
 go_ret; exact ⟨rfl, rfl⟩
theorem inf63 (s : Int) (hs : s = 1 ∨ s = -1) (w : World) : Calls Tryz.prog 63 #[.int .i64 s] w fun e w' => e = .returned (.float .f64 (if 0 ≤ s then 9218868437227405312 else 18442240474082181120)) ∧ w = w' := by
 have k := call20
 go_enter Tryz.func63, Tryz.ntmps63
 rcases hs with rfl | rfl
 all_goals
  go_wp2_with fail
  go_ret; exact ⟨rfl, rfl⟩
end
section
set_option maxRecDepth 100000
theorem bits65 (x : Nat) (w : World) : Calls Tryz.prog 65 #[.float .f64 x] w fun e w' => e = .returned (.int .i64 64) ∧ w = w' := by
 have ha : ∀ w, (binOp .add 22 (.float .f64 (floatOfInt .f64 16777216)) (.float .f64 4607182418800017408)).run Tryz.prog w = .ok (.float .f64 4715268810125344768) w := fun w => run_float_arith w .add 22 .f64 _ _ _ (by kernel_rfl)
 have hb : (FloatKind.f64.format.order 4715268810125344768 4715268809856909312 == some Ordering.eq) = false := by kernel_rfl
 go_enter Tryz.func65, Tryz.ntmps65
 go_wp2_with (rw [ha])
 all_goals (go_ret; exact ⟨rfl, rfl⟩)
theorem bits72 (x : Nat) (w : World) : Calls Tryz.prog 72 #[.float .f32 x] w fun e w' => e = .returned (.int .i64 32) ∧ w = w' := by
 have ha : ∀ w, (binOp .add 61 (.float .f32 (floatOfInt .f32 16777216)) (.float .f32 1065353216)).run Tryz.prog w = .ok (.float .f32 1266679808) w := fun w => run_float_arith w .add 61 .f32 _ _ _ (by kernel_rfl)
 have hb : (FloatKind.f32.format.order 1266679808 1266679808 == some Ordering.eq) = true := by kernel_rfl
 go_enter Tryz.func72, Tryz.ntmps72
 go_wp2_with (rw [ha])
 all_goals (go_ret; exact ⟨rfl, rfl⟩)
end
end Go.Proofs.YtlgneiaenanfaaaGreatDoor
