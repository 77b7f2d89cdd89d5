/- Walks: floats that are no ordinary ones. No condition. -/
import Derived.Test.YtjkgffehafaolaaDoorExF
import Derived.Laws.Cover2
import Derived.Laws.ComplexArith
namespace Go.Proofs.YtjkgffehafaolaaDoor
open Go.RowKit
set_option linter.unusedVariables false
set_option linter.unusedSimpArgs false

theorem read64 (b : Nat) : FloatKind.f64.format.read b = (if b % 9223372036854775808 < 4503599627370496 then .number (b / 9223372036854775808 % 2 == 1) (b % 9223372036854775808) (-1074) else if b % 9223372036854775808 < 9218868437227405312 then .number (b / 9223372036854775808 % 2 == 1) (4503599627370496 + b % 9223372036854775808 % 4503599627370496) (-1074 + (b % 9223372036854775808 / 4503599627370496 - 1 : Nat)) else if b % 9223372036854775808 = 9218868437227405312 then .infinity (b / 9223372036854775808 % 2 == 1) else .nan (b / 9223372036854775808 % 2 == 1) (b % 9223372036854775808 - 9218868437227405312)) := by
  show Ieee.Format.read Ieee.double b = _
  unfold Ieee.Format.read
  have h1 : Ieee.Format.signWeight Ieee.double = 9223372036854775808 := by decide
  have h2 : Ieee.Format.binade Ieee.double = 4503599627370496 := by decide
  have h3 : Ieee.Format.infRung Ieee.double = 9218868437227405312 := by decide
  have h4 : Ieee.Format.leastPlace Ieee.double = -1074 := by decide
  rw [h1, h2, h3, h4]
theorem read_fin (b r : Nat) (hr : r = b % 9223372036854775808) (h : r < 9218868437227405312) : ∃ i : Int, -1074 ≤ i ∧ i ≤ 971 ∧ FloatKind.f64.format.read b = .number (b / 9223372036854775808 % 2 == 1) (mantF r) i := by
  rw [read64, ← hr]
  by_cases h0 : r < 4503599627370496
  · rw [if_pos h0]
    exact ⟨-1074, by omega, by omega, by unfold mantF; rw [if_pos (by omega)]⟩
  · rw [if_neg h0, if_pos h]
    exact ⟨-1074 + ((r / 4503599627370496 - 1 : Nat) : Int), by omega, by omega, by unfold mantF; rw [if_neg (by omega), Nat.add_comm]⟩
theorem read_inf (b : Nat) (h : b % 9223372036854775808 = 9218868437227405312) : FloatKind.f64.format.read b = .infinity (b / 9223372036854775808 % 2 == 1) := by
  rw [read64, h, if_neg (by decide), if_neg (by decide), if_pos rfl]
theorem read_nan (b : Nat) (h : 9218868437227405312 < b % 9223372036854775808) : ∃ x y, FloatKind.f64.format.read b = .nan x y := by
  rw [read64, if_neg (by omega), if_neg (by omega), if_neg (by omega)]
  exact ⟨_, _, rfl⟩
theorem mantF_lt {r : Nat} : mantF r < 9007199254740992 := by unfold mantF; split <;> omega
theorem read_max : FloatKind.f64.format.read 9218868437227405311 = .number false 9007199254740991 971 := by decide +kernel
theorem read_zero : FloatKind.f64.format.read 0 = .number false 0 (-1074) := by decide +kernel
theorem ord_self_fin {s : Bool} {m : Nat} {i : Int} : Ieee.Datum.order (.number s m i) (.number s m i) = some .eq := by
  unfold Ieee.Datum.order
  simp
theorem cmpI (x y : Int) : compare x y = if x < y then .lt else if x = y then .eq else .gt := rfl
theorem ord_max {s : Bool} {m : Nat} {i : Int} (hm : m < 9007199254740992) (hi : i ≤ 971) : (Ieee.Datum.order (.number s m i) (.number false 9007199254740991 971) == some .gt) = false := by
  unfold Ieee.Datum.order
  simp only []
  have e1 : min i 971 = i := by omega
  rw [e1, Int.sub_self]
  have key : Ieee.signed s m (Int.toNat 0) ≤ Ieee.signed false 9007199254740991 (971 - i).toNat := by
    unfold Ieee.signed
    generalize (971 - i).toNat = k
    rw [if_neg (show ¬ (false = true) by decide), Nat.shiftLeft_eq, Nat.shiftLeft_eq]
    have hp : 1 ≤ 2 ^ k := Nat.one_le_two_pow
    have h2 := Nat.mul_le_mul_left 9007199254740991 hp
    generalize 9007199254740991 * 2 ^ k = z at h2 ⊢
    cases s <;> simp <;> omega
  generalize Ieee.signed s m (Int.toNat 0) = x at key ⊢
  generalize Ieee.signed false 9007199254740991 (971 - i).toNat = y at key ⊢
  rw [cmpI]
  by_cases h : x < y
  · rw [if_pos h]; rfl
  · rw [if_neg h, if_pos (by omega)]; rfl
theorem ord_zero {s : Bool} {m : Nat} {i : Int} (hi : -1074 ≤ i) : (Ieee.Datum.order (.number s m i) (.number false 0 (-1074)) == some .eq) = (m == 0) := by
  unfold Ieee.Datum.order
  simp only []
  have e1 : min i (-1074) = -1074 := by omega
  rw [e1]
  have key : (Ieee.signed s m (i - -1074).toNat = Ieee.signed false 0 (-1074 - -1074 : Int).toNat) ↔ m = 0 := by
    unfold Ieee.signed
    generalize (i - -1074).toNat = k
    rw [if_neg (show ¬ (false = true) by decide), Nat.shiftLeft_eq, Nat.shiftLeft_eq]
    have hp : 1 ≤ 2 ^ k := Nat.one_le_two_pow
    constructor
    · intro h
      rcases Nat.eq_zero_or_pos m with h0 | h0
      · exact h0
      · have := Nat.mul_le_mul h0 hp
        rw [Nat.zero_mul] at h
        generalize m * 2 ^ k = z at h this
        cases s <;> simp at h <;> omega
    · rintro rfl
      cases s <;> simp
  by_cases hm : m = 0
  · have e := key.2 hm
    rw [e, cmpI, if_neg (by omega), if_pos rfl, hm]; rfl
  · have e : ¬ Ieee.signed s m (i - -1074).toNat = Ieee.signed false 0 (-1074 - -1074 : Int).toNat := fun h => hm (key.1 h)
    rw [show (m == 0) = false from beq_eq_false_iff_ne.2 hm, cmpI]
    generalize Ieee.signed s m (i - -1074).toNat = x at e ⊢
    generalize Ieee.signed false 0 (-1074 - -1074 : Int).toNat = y at e ⊢
    by_cases h : x < y
    · rw [if_pos h]; rfl
    · rw [if_neg h, if_neg e]; rfl
set_option maxRecDepth 100000 in
set_option maxHeartbeats 1000000 in
theorem isInf18p (b : Nat) (v : Bool) (hv : (FloatKind.f64.format.order b 9218868437227405311 == some .gt) = v) (w : World) : Calls Tryd.prog 18 #[.float .f64 b, .int .i64 1] w fun e w' => e = .returned (.bool v) ∧ w' = w := by
  go_enter Tryd.func18, Tryd.ntmps18
  go_wp2_with fail

  go_ret
  simp [hv]
theorem neg_run (b : Nat) (w : World) : (Op.unary UnOp.neg (Value.float FloatKind.f64 b)).run Tryd.prog w = .ok (.float .f64 (Op.negFloat .f64 b)) w := rfl
set_option maxRecDepth 100000 in
set_option maxHeartbeats 1000000 in
theorem isInf18m (b : Nat) (v : Bool) (hv : (FloatKind.f64.format.order (Op.negFloat .f64 b) 9218868437227405311 == some .gt) = v) (w : World) : Calls Tryd.prog 18 #[.float .f64 b, .int .i64 (-1)] w fun e w' => e = .returned (.bool v) ∧ w' = w := by
  have hn := neg_run
  go_enter Tryd.func18, Tryd.ntmps18
  go_wp2_with fail
  go_ret
  simp [hv]
set_option maxRecDepth 100000 in
set_option maxHeartbeats 1000000 in
theorem signbit19 (b : Nat) (hb : b < 18446744073709551616) (w : World) : Calls Tryd.prog 19 #[.float .f64 b] w fun e w' => e = .returned (.bool (decide (9223372036854775808 ≤ b))) ∧ w' = w := by
  have h29 := call29
  by_cases h : 9223372036854775808 ≤ b
  · have hw : IntKind.i64.wrap (b : Int) = (b : Int) - 18446744073709551616 := by rw [IntKind.wrap_i64]; omega
    have hl : (b : Int) - 18446744073709551616 < 0 := by omega
    have hb2 : (b : Int) < 18446744073709551616 := by omega
    rw [decide_eq_true h]
    clear h hb
    go_enter Tryd.func19, Tryd.ntmps19
    go_wp2_with fail
    go_ret
    simp [hl, hb2]
  · have hw : IntKind.i64.wrap (b : Int) = (b : Int) := by rw [IntKind.wrap_i64]; omega
    have hl : ¬ (b : Int) < 0 := by omega
    rw [decide_eq_false h]
    clear h hb
    go_enter Tryd.func19, Tryd.ntmps19
    go_wp2_with fail
    go_ret
    simp
theorem neg64 (r : Nat) (hr : r < 9223372036854775808) (s : Bool) : Op.negFloat .f64 (r + (if s then 9223372036854775808 else 0)) = r + (if s then 0 else 9223372036854775808) := by
  show (r + (if s then 9223372036854775808 else 0)) ^^^ 2 ^ 63 = _
  have h2 := Nat.two_pow_add_eq_or_of_lt (i := 63) (b := r) (by omega) 1
  have hx : r ^^^ 2 ^ 63 = r + 2 ^ 63 := by
    rw [Nat.mul_one] at h2
    rw [Nat.add_comm, h2]
    apply Nat.eq_of_testBit_eq
    intro i
    rw [Nat.testBit_xor, Nat.testBit_or, Nat.testBit_two_pow]
    by_cases hi : 63 = i
    · subst hi
      rw [Nat.testBit_lt_two_pow (show r < 2 ^ 63 by omega)]
      rfl
    · simp [hi]
  cases s with
  | false => simpa using hx
  | true =>
    have : (r + 2 ^ 63) ^^^ 2 ^ 63 = r := by rw [← hx, Nat.xor_assoc, Nat.xor_self, Nat.xor_zero]
    simpa using this
def oddF (s : Bool) (r : Nat) (z : ByteArray) : ByteArray × Bool :=
  if 9218868437227405312 < r then (⟨#[110, 97, 110]⟩, true) else if r = 9218868437227405312 then (if s then ⟨#[45, 105, 110, 102]⟩ else ⟨#[105, 110, 102]⟩, true) else if r = 0 then (if s then ⟨#[45]⟩ ++ z else z, true) else (⟨#[]⟩, false)
/-- what the comparisons come to -/
theorem cmp_facts (s : Bool) (r b : Nat) (hr : r < 9223372036854775808) (hb : b = r + (if s then 9223372036854775808 else 0)) :
    (FloatKind.f64.format.order b b != some .eq) = decide (9218868437227405312 < r) ∧ (¬ 9218868437227405312 < r → (FloatKind.f64.format.order b 9218868437227405311 == some .gt) = (decide (r = 9218868437227405312) && !s)) ∧ (¬ 9218868437227405312 < r → (FloatKind.f64.format.order (Op.negFloat .f64 b) 9218868437227405311 == some .gt) = (decide (r = 9218868437227405312) && s)) ∧ (¬ 9218868437227405312 < r → (FloatKind.f64.format.order b 0 == some .eq) = (r == 0)) := by
  have hbr : b % 9223372036854775808 = r := by cases s <;> simp at hb <;> omega
  have hbs : (b / 9223372036854775808 % 2 == 1) = s := by
    cases s <;> simp at hb
    · exact beq_eq_false_iff_ne.2 (by omega)
    · exact beq_iff_eq.2 (by omega)
  have hneg : Op.negFloat .f64 b = r + (if !s then 9223372036854775808 else 0) := by rw [hb, neg64 r hr s]; cases s <;> rfl
  have hnr : (Op.negFloat .f64 b) % 9223372036854775808 = r := by rw [hneg]; cases s <;> simp <;> omega
  have hns : ((Op.negFloat .f64 b) / 9223372036854775808 % 2 == 1) = !s := by
    rw [hneg]
    cases s <;> simp
    · omega
    · omega
  generalize Op.negFloat .f64 b = c at hnr hns ⊢
  by_cases hn : 9218868437227405312 < r
  · refine ⟨?_, fun h => absurd hn h, fun h => absurd hn h, fun h => absurd hn h⟩
    obtain ⟨x, y, e⟩ := read_nan b (by omega)
    show (Ieee.Datum.order (FloatKind.f64.format.read b) (FloatKind.f64.format.read b) != some .eq) = _
    rw [e, decide_eq_true hn]
    rfl
  · rw [decide_eq_false hn]
    by_cases hi : r = 9218868437227405312
    · have e := read_inf b (by omega)
      have e2 := read_inf c (by omega)
      rw [hbs] at e
      rw [hns] at e2
      refine ⟨?_, fun _ => ?_, fun _ => ?_, fun _ => ?_⟩
      · show (Ieee.Datum.order (FloatKind.f64.format.read b) (FloatKind.f64.format.read b) != some .eq) = _
        rw [e]; cases s <;> rfl
      · show (Ieee.Datum.order (FloatKind.f64.format.read b) (FloatKind.f64.format.read 9218868437227405311) == some .gt) = _
        rw [e, read_max, decide_eq_true hi]; cases s <;> rfl
      · show (Ieee.Datum.order (FloatKind.f64.format.read c) (FloatKind.f64.format.read 9218868437227405311) == some .gt) = _
        rw [e2, read_max, decide_eq_true hi]; cases s <;> rfl
      · show (Ieee.Datum.order (FloatKind.f64.format.read b) (FloatKind.f64.format.read 0) == some .eq) = _
        rw [e, read_zero, hi]; cases s <;> rfl
    · obtain ⟨i, i0, i1, e⟩ := read_fin b r hbr.symm (by omega)
      obtain ⟨j, j0, j1, e2⟩ := read_fin c r hnr.symm (by omega)
      refine ⟨?_, fun _ => ?_, fun _ => ?_, fun _ => ?_⟩
      · show (Ieee.Datum.order (FloatKind.f64.format.read b) (FloatKind.f64.format.read b) != some .eq) = _
        rw [e, ord_self_fin]; rfl
      · show (Ieee.Datum.order (FloatKind.f64.format.read b) (FloatKind.f64.format.read 9218868437227405311) == some .gt) = _
        rw [e, read_max, ord_max mantF_lt i1, decide_eq_false hi]; rfl
      · show (Ieee.Datum.order (FloatKind.f64.format.read c) (FloatKind.f64.format.read 9218868437227405311) == some .gt) = _
        rw [e2, read_max, ord_max mantF_lt j1, decide_eq_false hi]; rfl
      · show (Ieee.Datum.order (FloatKind.f64.format.read b) (FloatKind.f64.format.read 0) == some .eq) = _
        rw [e, read_zero, ord_zero i0]
        unfold mantF
        by_cases h0 : r = 0
        · rw [h0]; rfl
        · rw [show (r == 0) = false from beq_eq_false_iff_ne.2 h0]
          split <;> exact beq_eq_false_iff_ne.2 (by omega)
set_option maxRecDepth 100000 in
set_option maxHeartbeats 2000000 in
theorem odd7 (s : Bool) (r b : Nat) (hr : r < 9223372036854775808) (hb : b = r + (if s then 9223372036854775808 else 0)) (z : ByteArray) (hz : z.size ≤ 1000) (w : World) :
    Calls Tryd.prog 7 #[.float .f64 b, .string z] w fun e w' => e = .returned (.tuple #[.string (oddF s r z).1, .bool (oddF s r z).2]) ∧ w' = w := by
  obtain ⟨c1, c2, c3, c4⟩ := cmp_facts s r b hr hb
  have hsb : decide (9223372036854775808 ≤ b) = s := by cases s <;> simp at hb ⊢ <;> omega
  have hb64 : b < 18446744073709551616 := by cases s <;> simp at hb <;> omega
  have d1 := hid (signbit19 b hb64 w)
  rw [hsb] at d1
  have D2 := hid (fun v hv => isInf18p b v hv w)
  have D3 := hid (fun v hv => isInf18m b v hv w)
  clear hsb hb64 hr hb
  by_cases hn : 9218868437227405312 < r
  · rw [decide_eq_true hn] at c1
    rw [show oddF s r z = (⟨#[110, 97, 110]⟩, true) by unfold oddF; rw [if_pos hn]]
    clear c2 c3 c4 hn
    go_enter Tryd.func7, Tryd.ntmps7
    go_wp2_with fail
    go_ret2
    exact ⟨rfl, rfl⟩
  · rw [decide_eq_false hn] at c1
    have e2 := hid (D2.out _ (c2 hn))
    have e3 := hid (D3.out _ (c3 hn))
    have c4 := c4 hn
    clear c2 c3 D2 D3
    obtain ⟨R, hR⟩ : ∃ R, R = oddF s r z := ⟨_, rfl⟩
    rw [← hR]
    have HR := hid (show R = if r = 9218868437227405312 then (if s then ⟨#[45, 105, 110, 102]⟩ else ⟨#[105, 110, 102]⟩, true) else if r = 0 then (if s then ⟨#[45]⟩ ++ z else z, true) else (⟨#[]⟩, false) by rw [hR]; unfold oddF; rw [if_neg hn])
    clear hR hn
    by_cases hi : r = 9218868437227405312
    · rw [decide_eq_true hi] at e2 e3
      have HR := hid (HR.out.trans (if_pos hi))
      clear c4 hi
      cases s with
      | false =>
        go_enter Tryd.func7, Tryd.ntmps7
        go_wp2_with fail
        refine e2.out.mono ?_
        rintro e w2 ⟨rfl, rfl⟩
        go_wp2_with fail
        go_ret2
        exact ⟨by rw [HR.out]; rfl, rfl⟩
      | true =>
        go_enter Tryd.func7, Tryd.ntmps7
        go_wp2_with fail
        refine e2.out.mono ?_
        rintro e w2 ⟨rfl, rfl⟩
        go_wp2_with fail
        refine e3.out.mono ?_
        rintro e w2 ⟨rfl, rfl⟩
        go_wp2_with fail
        go_ret2
        exact ⟨by rw [HR.out]; rfl, rfl⟩
    · rw [decide_eq_false hi, Bool.false_and] at e2 e3
      have HR := hid (HR.out.trans (if_neg hi))
      clear hi
      by_cases h0 : r = 0
      · rw [show (r == 0) = true from beq_iff_eq.2 h0] at c4
        have HR := hid (HR.out.trans (if_pos h0))
        clear h0
        cases s with
        | false =>
          go_enter Tryd.func7, Tryd.ntmps7
          go_wp2_with fail
          refine e2.out.mono ?_
          rintro e w2 ⟨rfl, rfl⟩
          go_wp2_with fail
          refine e3.out.mono ?_
          rintro e w2 ⟨rfl, rfl⟩
          go_wp2_with fail
          refine d1.out.mono ?_
          rintro e w2 ⟨rfl, rfl⟩
          go_wp2_with fail
          go_ret2
          exact ⟨by rw [HR.out]; rfl, rfl⟩
        | true =>
          go_enter Tryd.func7, Tryd.ntmps7
          go_wp2_with fail
          refine e2.out.mono ?_
          rintro e w2 ⟨rfl, rfl⟩
          go_wp2_with fail
          refine e3.out.mono ?_
          rintro e w2 ⟨rfl, rfl⟩
          go_wp2_with fail
          refine d1.out.mono ?_
          rintro e w2 ⟨rfl, rfl⟩
          go_wp2_with fail
          go_ret2
          exact ⟨by rw [HR.out]; rfl, rfl⟩
      · rw [show (r == 0) = false from beq_eq_false_iff_ne.2 h0] at c4
        have HR := hid (HR.out.trans (if_neg h0))
        clear h0
        go_enter Tryd.func7, Tryd.ntmps7
        go_wp2_with fail
        refine e2.out.mono ?_
        rintro e w2 ⟨rfl, rfl⟩
        go_wp2_with fail
        refine e3.out.mono ?_
        rintro e w2 ⟨rfl, rfl⟩
        go_wp2_with fail
        go_ret2
        exact ⟨by rw [HR.out]; rfl, rfl⟩

end Go.Proofs.YtjkgffehafaolaaDoor
