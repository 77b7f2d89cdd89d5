/- Walks and plain laws, merged: AluA AluB AluF AluC AluD. No condition. -/
import Derived.Laws.Externs
import Derived.Laws.Cover2
import Derived.Laws.ComplexArith
import Derived.Test.YtlabadkfkbenoaaGreatDoorKn03
import Derived.Test.YtlabadkfkbenoaaGreatDoorKn18
import Derived.Test.YtlabadkfkbenoaaGreatDoorKn17
namespace Go.Proofs.YtlabadkfkbenoaaGreatDoor
open Go.RowKit
set_option linter.unusedVariables false
set_option linter.unusedSimpArgs false
set_option maxRecDepth 100000
section
theorem call179 (n : Int) (w : World) : (callFunc 179 #[.int .u32 n]).run Tryz.prog w = .ok (.value (.float .f32 n.toNat)) w := by
 rw [run_callFunc_extern (e := Extern.MathFloatBits.float32frombits) Tryz.func179 (by kernel_rfl) (by kernel_rfl) (by kernel_rfl) (by kernel_rfl)]
 rfl
theorem call178 (b : Nat) (w : World) : (callFunc 178 #[.float .f32 b]).run Tryz.prog w = .ok (.value (.int .u32 b)) w := by
 rw [run_callFunc_extern (e := Extern.MathFloatBits.float32bits) Tryz.func178 (by kernel_rfl) (by kernel_rfl) (by kernel_rfl) (by kernel_rfl)]
 rfl
set_option maxHeartbeats 1000000 in
theorem number148 (a : Int) (w : World) : Calls Tryz.prog 148 #[.int .u32 a] w fun e w' => e = .returned (.float .f32 a.toNat) ∧ w' = w := by
 have h1 := call179
 go_enter Tryz.func148, Tryz.ntmps148
 go_wp2_with fail
 go_ret
 exact ⟨rfl, rfl⟩
/-- a float's word: there is one that is no number -/
def wordN (r : Nat) : Int := if (FloatKind.f32.format.order r r != some .eq) = true then 2143289344 else r
set_option maxHeartbeats 1000000 in
theorem word147 (a : Nat) (w : World) : Calls Tryz.prog 147 #[.float .f32 a] w fun e w' => e = .returned (.int .u32 (wordN a)) ∧ w' = w := by
 have h1 := call178
 cases h : (FloatKind.f32.format.order a a != some .eq) with
 | true =>
  have hh := hid (show wordN a = 2143289344 by unfold wordN; rw [h]; rfl)
  go_enter Tryz.func147, Tryz.ntmps147
  go_wp2_with fail
  go_ret
  rw [hh.out]
  exact ⟨rfl, rfl⟩
 | false =>
  have hh := hid (show wordN a = a by unfold wordN; rw [h]; rfl)
  go_enter Tryz.func147, Tryz.ntmps147
  go_wp2_with fail
  go_ret
  rw [hh.out]
  exact ⟨rfl, rfl⟩
/-- what an operation on floats comes to -/
def floatV (o : Option Nat) : Int := match o with
 | some r => wordN r
 | none => 2143289344
theorem read_nan (b : Nat) (h : 2139095040 < b % 2147483648) : FloatKind.f32.format.order b b = none := by
 show Ieee.Datum.order (Ieee.Format.read Ieee.single b) (Ieee.Format.read Ieee.single b) = none
 have e : Ieee.Format.read Ieee.single b = .nan (b / 2147483648 % 2 == 1) (b % 2147483648 - 2139095040) := by
  unfold Ieee.Format.read
  have h1 : Ieee.Format.signWeight Ieee.single = 2147483648 := by decide
  have h2 : Ieee.Format.binade Ieee.single = 8388608 := by decide
  have h3 : Ieee.Format.infRung Ieee.single = 2139095040 := by decide
  rw [h1, h2, h3]
  simp only []
  rw [if_neg (by omega), if_neg (by omega), if_neg (by omega)]
 rw [e]
 rfl
theorem cut_nan (x y t : Nat) : wordN ((Question.nanBits FloatKind.f32 x y).cut t) = 2143289344 := by
 have h : FloatKind.f32.format.order ((Question.nanBits FloatKind.f32 x y).cut t) ((Question.nanBits FloatKind.f32 x y).cut t) = none := by
  apply read_nan
  show 2139095040 < (t % 2 * 2147483648 + 2139095040 + 1 + t / 2 % 8388607) % 2147483648
  have h1 : t % 2 < 2 := Nat.mod_lt _ (by omega)
  have h2 : t / 2 % 8388607 < 8388607 := Nat.mod_lt _ (by omega)
  generalize t % 2 = p at h1 ⊢
  generalize t / 2 % 8388607 = q at h2 ⊢
  omega
 unfold wordN
 rw [h]
 rfl
theorem none_run (x y : Nat) (w : World) : ∃ b w', (Value.float FloatKind.f32 <$> choose (Question.nanBits FloatKind.f32 x y)).run Tryz.prog w = .ok (.float .f32 b) w' ∧ wordN b = 2143289344 ∧ Below w.heap.size w w' := by
 refine ⟨(Question.nanBits FloatKind.f32 x y).cut (w.tape w.drawn (Question.nanBits FloatKind.f32 x y)), w.drew, ?_, cut_nan _ _ _, (Below.refl _ _).drew⟩
 have hf : (Question.nanBits FloatKind.f32 x y).forced = false := rfl
 simp [hf]
theorem arith_run (op : BinOp) (x y : Nat) (w : World) (o : Option Nat) (h : floatBits op .f32 x y = o) (hop : op = .add ∨ op = .sub ∨ op = .mul ∨ op = .quo) :
  ∃ b w', (binOp op 248 (.float .f32 x) (.float .f32 y)).run Tryz.prog w = .ok (.float .f32 b) w' ∧ wordN b = floatV o ∧ Below w.heap.size w w' := by
 rcases hop with rfl | rfl | rfl | rfl
 all_goals cases o with
 | some r =>
  refine ⟨r, w, ?_, rfl, Below.refl _ _⟩
  simp [binOp, run_floatArith w h]
 | none =>
  unfold floatBits at h
  simp only [] at h
  obtain ⟨b, w', h1, h2, h3⟩ := none_run x y w
  refine ⟨b, w', ?_, h2, h3⟩
  simp only [binOp, Op.floatArith, pure_bind, h]
  first | exact h1 | simpa using h1
end
section
set_option maxHeartbeats 2000000 in
theorem sum212 (a b : Int) (w : World) : Calls Tryz.prog 212 #[.int .u32 a, .int .u32 b] w fun e w' => e = .returned (.int .u32 (floatV (FloatKind.f32.format.add a.toNat b.toNat))) ∧ Below w.heap.size w w' := by
 have c1 := hid (number148 a w)
 have c2 := hid (number148 b w)
 obtain ⟨x, w1, hrun, hx, hb⟩ := arith_run .add a.toNat b.toNat w (FloatKind.f32.format.add a.toNat b.toNat) rfl (by simp)
 have HX := hid (And.intro hx hb)
 have c3 := hid (word147 x w1)
 clear hx hb
 go_enter Tryz.func212, Tryz.ntmps212
 go_wp2_with fail
 refine c1.out.mono ?_
 rintro e w2 ⟨rfl, hw⟩
 subst w2
 clear c1
 go_wp2_with fail
 refine c2.out.mono ?_
 rintro e w2 ⟨rfl, hw⟩
 subst w2
 clear c2
 go_wp2_with fail
 refine c3.out.mono ?_
 rintro e w2 ⟨rfl, hw⟩
 subst w2
 clear c3
 go_wp2_with fail
 go_ret
 rw [HX.out.1]
 exact ⟨rfl, HX.out.2⟩
set_option maxHeartbeats 2000000 in
theorem rest213 (a b : Int) (w : World) : Calls Tryz.prog 213 #[.int .u32 a, .int .u32 b] w fun e w' => e = .returned (.int .u32 (floatV (FloatKind.f32.format.sub a.toNat b.toNat))) ∧ Below w.heap.size w w' := by
 have c1 := hid (number148 a w)
 have c2 := hid (number148 b w)
 obtain ⟨x, w1, hrun, hx, hb⟩ := arith_run .sub a.toNat b.toNat w (FloatKind.f32.format.sub a.toNat b.toNat) rfl (by simp)
 have HX := hid (And.intro hx hb)
 have c3 := hid (word147 x w1)
 clear hx hb
 go_enter Tryz.func213, Tryz.ntmps213
 go_wp2_with fail
 refine c1.out.mono ?_
 rintro e w2 ⟨rfl, hw⟩
 subst w2
 clear c1
 go_wp2_with fail
 refine c2.out.mono ?_
 rintro e w2 ⟨rfl, hw⟩
 subst w2
 clear c2
 go_wp2_with fail
 refine c3.out.mono ?_
 rintro e w2 ⟨rfl, hw⟩
 subst w2
 clear c3
 go_wp2_with fail
 go_ret
 rw [HX.out.1]
 exact ⟨rfl, HX.out.2⟩
set_option maxHeartbeats 2000000 in
theorem product214 (a b : Int) (w : World) : Calls Tryz.prog 214 #[.int .u32 a, .int .u32 b] w fun e w' => e = .returned (.int .u32 (floatV (FloatKind.f32.format.mul a.toNat b.toNat))) ∧ Below w.heap.size w w' := by
 have c1 := hid (number148 a w)
 have c2 := hid (number148 b w)
 obtain ⟨x, w1, hrun, hx, hb⟩ := arith_run .mul a.toNat b.toNat w (FloatKind.f32.format.mul a.toNat b.toNat) rfl (by simp)
 have HX := hid (And.intro hx hb)
 have c3 := hid (word147 x w1)
 clear hx hb
 go_enter Tryz.func214, Tryz.ntmps214
 go_wp2_with fail
 refine c1.out.mono ?_
 rintro e w2 ⟨rfl, hw⟩
 subst w2
 clear c1
 go_wp2_with fail
 refine c2.out.mono ?_
 rintro e w2 ⟨rfl, hw⟩
 subst w2
 clear c2
 go_wp2_with fail
 refine c3.out.mono ?_
 rintro e w2 ⟨rfl, hw⟩
 subst w2
 clear c3
 go_wp2_with fail
 go_ret
 rw [HX.out.1]
 exact ⟨rfl, HX.out.2⟩
set_option maxHeartbeats 2000000 in
theorem ratio215 (a b : Int) (w : World) : Calls Tryz.prog 215 #[.int .u32 a, .int .u32 b] w fun e w' => e = .returned (.int .u32 (floatV (FloatKind.f32.format.div a.toNat b.toNat))) ∧ Below w.heap.size w w' := by
 have c1 := hid (number148 a w)
 have c2 := hid (number148 b w)
 obtain ⟨x, w1, hrun, hx, hb⟩ := arith_run .quo a.toNat b.toNat w (FloatKind.f32.format.div a.toNat b.toNat) rfl (by simp)
 have HX := hid (And.intro hx hb)
 have c3 := hid (word147 x w1)
 clear hx hb
 go_enter Tryz.func215, Tryz.ntmps215
 go_wp2_with fail
 refine c1.out.mono ?_
 rintro e w2 ⟨rfl, hw⟩
 subst w2
 clear c1
 go_wp2_with fail
 refine c2.out.mono ?_
 rintro e w2 ⟨rfl, hw⟩
 subst w2
 clear c2
 go_wp2_with fail
 refine c3.out.mono ?_
 rintro e w2 ⟨rfl, hw⟩
 subst w2
 clear c3
 go_wp2_with fail
 go_ret
 rw [HX.out.1]
 exact ⟨rfl, HX.out.2⟩
/-- how two floats stand -/
def standV (a b : Int) : Int := match FloatKind.f32.format.order a.toNat b.toNat with
 | some .lt => 2
 | some .gt => 4
 | some .eq => 3
 | none => 1
set_option maxHeartbeats 2000000 in
theorem stand175 (a b : Int) (w : World) : Calls Tryz.prog 175 #[.int .u32 a, .int .u32 b] w fun e w' => e = .returned (.int .u8 (standV a b)) ∧ w' = w := by
 have c1 := hid (number148 a w)
 have c2 := hid (number148 b w)
 match ho : FloatKind.f32.format.order a.toNat b.toNat with
 | none =>
  have hh := hid (show standV a b = 1 by unfold standV; rw [ho])
  have t1 : (FloatKind.f32.format.order a.toNat b.toNat == some .lt) = false := by rw [ho]; rfl
  have t2 : (FloatKind.f32.format.order a.toNat b.toNat == some .gt) = false := by rw [ho]; rfl
  have t3 : (FloatKind.f32.format.order a.toNat b.toNat == some .eq) = false := by rw [ho]; rfl
  clear ho
  go_enter Tryz.func175, Tryz.ntmps175
  go_wp2_with fail
  refine c1.out.mono ?_
  rintro e w2 ⟨rfl, hw⟩
  subst w2
  clear c1
  go_wp2_with fail
  refine c2.out.mono ?_
  rintro e w2 ⟨rfl, hw⟩
  subst w2
  clear c2
  go_wp2_with fail
  go_ret
  rw [hh.out]
  exact ⟨rfl, rfl⟩
 | some .lt =>
  have hh := hid (show standV a b = 2 by unfold standV; rw [ho])
  have t1 : (FloatKind.f32.format.order a.toNat b.toNat == some .lt) = true := by rw [ho]; rfl
  have t2 : (FloatKind.f32.format.order a.toNat b.toNat == some .gt) = false := by rw [ho]; rfl
  have t3 : (FloatKind.f32.format.order a.toNat b.toNat == some .eq) = false := by rw [ho]; rfl
  clear ho
  go_enter Tryz.func175, Tryz.ntmps175
  go_wp2_with fail
  refine c1.out.mono ?_
  rintro e w2 ⟨rfl, hw⟩
  subst w2
  clear c1
  go_wp2_with fail
  refine c2.out.mono ?_
  rintro e w2 ⟨rfl, hw⟩
  subst w2
  clear c2
  go_wp2_with fail
  go_ret
  rw [hh.out]
  exact ⟨rfl, rfl⟩
 | some .gt =>
  have hh := hid (show standV a b = 4 by unfold standV; rw [ho])
  have t1 : (FloatKind.f32.format.order a.toNat b.toNat == some .lt) = false := by rw [ho]; rfl
  have t2 : (FloatKind.f32.format.order a.toNat b.toNat == some .gt) = true := by rw [ho]; rfl
  have t3 : (FloatKind.f32.format.order a.toNat b.toNat == some .eq) = false := by rw [ho]; rfl
  clear ho
  go_enter Tryz.func175, Tryz.ntmps175
  go_wp2_with fail
  refine c1.out.mono ?_
  rintro e w2 ⟨rfl, hw⟩
  subst w2
  clear c1
  go_wp2_with fail
  refine c2.out.mono ?_
  rintro e w2 ⟨rfl, hw⟩
  subst w2
  clear c2
  go_wp2_with fail
  go_ret
  rw [hh.out]
  exact ⟨rfl, rfl⟩
 | some .eq =>
  have hh := hid (show standV a b = 3 by unfold standV; rw [ho])
  have t1 : (FloatKind.f32.format.order a.toNat b.toNat == some .lt) = false := by rw [ho]; rfl
  have t2 : (FloatKind.f32.format.order a.toNat b.toNat == some .gt) = false := by rw [ho]; rfl
  have t3 : (FloatKind.f32.format.order a.toNat b.toNat == some .eq) = true := by rw [ho]; rfl
  clear ho
  go_enter Tryz.func175, Tryz.ntmps175
  go_wp2_with fail
  refine c1.out.mono ?_
  rintro e w2 ⟨rfl, hw⟩
  subst w2
  clear c1
  go_wp2_with fail
  refine c2.out.mono ?_
  rintro e w2 ⟨rfl, hw⟩
  subst w2
  clear c2
  go_wp2_with fail
  go_ret
  rw [hh.out]
  exact ⟨rfl, rfl⟩
end
section
/-- what a binary operation comes to; none: a division by nought -/
def binV (op a b : Int) : Option Int :=
 if op = 39 then some ((a + b) % 4294967296) else if op = 40 then some ((a - b) % 4294967296) else if op = 41 then some (a * b % 4294967296)
 else if op = 42 then if wrap32 b = 0 then none else some (wrap32 ((wrap32 a).tdiv (wrap32 b)) % 4294967296)
 else if op = 44 then if wrap32 b = 0 then none else some ((wrap32 a).tmod (wrap32 b) % 4294967296)
 else if op = 46 then some (bits .and .u32 a b) else if op = 47 then some (bits .or .u32 a b) else if op = 48 then some (bits .xor .u32 a b)
 else if op = 50 then some (a * 2 ^ min (b.tmod 32).toNat 32 % 4294967296) else if op = 51 then some (wrap32 a / 2 ^ min (b.tmod 32).toNat 32 % 4294967296)
 else if op = 54 then some (floatV (FloatKind.f32.format.add a.toNat b.toNat)) else if op = 55 then some (floatV (FloatKind.f32.format.sub a.toNat b.toNat))
 else if op = 56 then some (floatV (FloatKind.f32.format.mul a.toNat b.toNat)) else if op = 57 then some (floatV (FloatKind.f32.format.div a.toNat b.toNat)) else some 0
/-- the operations that signs have -/
def opsL : List Int := [39, 40, 41, 42, 44, 46, 47, 48, 50, 51, 54, 55, 56, 57, 0]
abbrev divE : Ending := .panicked [{ v := .iface 10 (strVal "integer divide by zero"), recovered := false }]
def errB (op : Int) : Int := if op = 0 then 61 else 0
def outB (op : Int) (o : Option Int) : Ending := match o with
 | some r => .returned (.tuple #[.int .u32 r, .int .i64 (errB op)])
 | none => divE
set_option maxHeartbeats 2000000 in
theorem bin177_39 (a b : Int) (hb : 0 ≤ b.tmod 32) (w : World) : Calls Tryz.prog 177 #[.int .u8 39, .int .u32 a, .int .u32 b] w fun e w' => e = outB 39 (binV 39 a b) ∧ Below w.heap.size w w' := by
 go_enter Tryz.func177, Tryz.ntmps177
 go_wp2_with fail
 go_ret2
 exact ⟨rfl, Below.refl _ _⟩
set_option maxHeartbeats 2000000 in
theorem bin177_40 (a b : Int) (hb : 0 ≤ b.tmod 32) (w : World) : Calls Tryz.prog 177 #[.int .u8 40, .int .u32 a, .int .u32 b] w fun e w' => e = outB 40 (binV 40 a b) ∧ Below w.heap.size w w' := by
 go_enter Tryz.func177, Tryz.ntmps177
 go_wp2_with fail
 go_ret2
 exact ⟨rfl, Below.refl _ _⟩
set_option maxHeartbeats 2000000 in
theorem bin177_41 (a b : Int) (hb : 0 ≤ b.tmod 32) (w : World) : Calls Tryz.prog 177 #[.int .u8 41, .int .u32 a, .int .u32 b] w fun e w' => e = outB 41 (binV 41 a b) ∧ Below w.heap.size w w' := by
 go_enter Tryz.func177, Tryz.ntmps177
 go_wp2_with fail
 go_ret2
 exact ⟨rfl, Below.refl _ _⟩
set_option maxHeartbeats 2000000 in
theorem bin177_46 (a b : Int) (hb : 0 ≤ b.tmod 32) (w : World) : Calls Tryz.prog 177 #[.int .u8 46, .int .u32 a, .int .u32 b] w fun e w' => e = outB 46 (binV 46 a b) ∧ Below w.heap.size w w' := by
 go_enter Tryz.func177, Tryz.ntmps177
 go_wp2_with fail
 go_ret2
 exact ⟨rfl, Below.refl _ _⟩
set_option maxHeartbeats 2000000 in
theorem bin177_47 (a b : Int) (hb : 0 ≤ b.tmod 32) (w : World) : Calls Tryz.prog 177 #[.int .u8 47, .int .u32 a, .int .u32 b] w fun e w' => e = outB 47 (binV 47 a b) ∧ Below w.heap.size w w' := by
 go_enter Tryz.func177, Tryz.ntmps177
 go_wp2_with fail
 go_ret2
 exact ⟨rfl, Below.refl _ _⟩
set_option maxHeartbeats 2000000 in
theorem bin177_48 (a b : Int) (hb : 0 ≤ b.tmod 32) (w : World) : Calls Tryz.prog 177 #[.int .u8 48, .int .u32 a, .int .u32 b] w fun e w' => e = outB 48 (binV 48 a b) ∧ Below w.heap.size w w' := by
 go_enter Tryz.func177, Tryz.ntmps177
 go_wp2_with fail
 go_ret2
 exact ⟨rfl, Below.refl _ _⟩
set_option maxHeartbeats 2000000 in
theorem bin177_50 (a b : Int) (hb : 0 ≤ b.tmod 32) (w : World) : Calls Tryz.prog 177 #[.int .u8 50, .int .u32 a, .int .u32 b] w fun e w' => e = outB 50 (binV 50 a b) ∧ Below w.heap.size w w' := by
 go_enter Tryz.func177, Tryz.ntmps177
 go_wp2_with fail
 go_ret2
 exact ⟨rfl, Below.refl _ _⟩
set_option maxHeartbeats 2000000 in
theorem bin177_51 (a b : Int) (hb : 0 ≤ b.tmod 32) (w : World) : Calls Tryz.prog 177 #[.int .u8 51, .int .u32 a, .int .u32 b] w fun e w' => e = outB 51 (binV 51 a b) ∧ Below w.heap.size w w' := by
 go_enter Tryz.func177, Tryz.ntmps177
 go_wp2_with fail
 go_ret2
 exact ⟨rfl, Below.refl _ _⟩
set_option maxHeartbeats 2000000 in
theorem bin177_0 (a b : Int) (hb : 0 ≤ b.tmod 32) (w : World) : Calls Tryz.prog 177 #[.int .u8 0, .int .u32 a, .int .u32 b] w fun e w' => e = outB 0 (binV 0 a b) ∧ Below w.heap.size w w' := by
 go_enter Tryz.func177, Tryz.ntmps177
 go_wp2_with fail
 go_ret2
 exact ⟨rfl, Below.refl _ _⟩
set_option maxHeartbeats 2000000 in
theorem bin177_42 (a b : Int) (hb : 0 ≤ b.tmod 32) (w : World) : Calls Tryz.prog 177 #[.int .u8 42, .int .u32 a, .int .u32 b] w fun e w' => e = outB 42 (binV 42 a b) ∧ Below w.heap.size w w' := by
 by_cases h0 : wrap32 b = 0
 ·have hh := hid (show binV 42 a b = none by simp [binV, h0])
  go_enter Tryz.func177, Tryz.ntmps177
  go_wp2_with fail
  refine bp_panic ?_
  rw [hh.out]
  exact ⟨rfl, Below.refl _ _⟩
 ·have hh := hid (show binV 42 a b = some (wrap32 ((wrap32 a).tdiv (wrap32 b)) % 4294967296) by simp [binV, h0])
  go_enter Tryz.func177, Tryz.ntmps177
  go_wp2_with fail
  go_ret2
  rw [hh.out]
  exact ⟨rfl, Below.refl _ _⟩
set_option maxHeartbeats 2000000 in
theorem bin177_44 (a b : Int) (hb : 0 ≤ b.tmod 32) (w : World) : Calls Tryz.prog 177 #[.int .u8 44, .int .u32 a, .int .u32 b] w fun e w' => e = outB 44 (binV 44 a b) ∧ Below w.heap.size w w' := by
 by_cases h0 : wrap32 b = 0
 ·have hh := hid (show binV 44 a b = none by simp [binV, h0])
  go_enter Tryz.func177, Tryz.ntmps177
  go_wp2_with fail
  refine bp_panic ?_
  rw [hh.out]
  exact ⟨rfl, Below.refl _ _⟩
 ·have hh := hid (show binV 44 a b = some ((wrap32 a).tmod (wrap32 b) % 4294967296) by simp [binV, h0])
  go_enter Tryz.func177, Tryz.ntmps177
  go_wp2_with fail
  go_ret2
  rw [hh.out]
  exact ⟨rfl, Below.refl _ _⟩
set_option maxHeartbeats 2000000 in
theorem bin177_54 (a b : Int) (hb : 0 ≤ b.tmod 32) (w : World) : Calls Tryz.prog 177 #[.int .u8 54, .int .u32 a, .int .u32 b] w fun e w' => e = outB 54 (binV 54 a b) ∧ Below w.heap.size w w' := by
 have c1 := hid (sum212 a b w)
 go_enter Tryz.func177, Tryz.ntmps177
 go_wp2_with fail
 refine c1.out.mono ?_
 rintro e w2 ⟨rfl, hb2⟩
 have hB := hid hb2
 clear c1 hb2
 go_wp2_with fail
 go_ret2
 exact ⟨rfl, hB.out⟩
set_option maxHeartbeats 2000000 in
theorem bin177_55 (a b : Int) (hb : 0 ≤ b.tmod 32) (w : World) : Calls Tryz.prog 177 #[.int .u8 55, .int .u32 a, .int .u32 b] w fun e w' => e = outB 55 (binV 55 a b) ∧ Below w.heap.size w w' := by
 have c1 := hid (rest213 a b w)
 go_enter Tryz.func177, Tryz.ntmps177
 go_wp2_with fail
 refine c1.out.mono ?_
 rintro e w2 ⟨rfl, hb2⟩
 have hB := hid hb2
 clear c1 hb2
 go_wp2_with fail
 go_ret2
 exact ⟨rfl, hB.out⟩
set_option maxHeartbeats 2000000 in
theorem bin177_56 (a b : Int) (hb : 0 ≤ b.tmod 32) (w : World) : Calls Tryz.prog 177 #[.int .u8 56, .int .u32 a, .int .u32 b] w fun e w' => e = outB 56 (binV 56 a b) ∧ Below w.heap.size w w' := by
 have c1 := hid (product214 a b w)
 go_enter Tryz.func177, Tryz.ntmps177
 go_wp2_with fail
 refine c1.out.mono ?_
 rintro e w2 ⟨rfl, hb2⟩
 have hB := hid hb2
 clear c1 hb2
 go_wp2_with fail
 go_ret2
 exact ⟨rfl, hB.out⟩
set_option maxHeartbeats 2000000 in
theorem bin177_57 (a b : Int) (hb : 0 ≤ b.tmod 32) (w : World) : Calls Tryz.prog 177 #[.int .u8 57, .int .u32 a, .int .u32 b] w fun e w' => e = outB 57 (binV 57 a b) ∧ Below w.heap.size w w' := by
 have c1 := hid (ratio215 a b w)
 go_enter Tryz.func177, Tryz.ntmps177
 go_wp2_with fail
 refine c1.out.mono ?_
 rintro e w2 ⟨rfl, hb2⟩
 have hB := hid hb2
 clear c1 hb2
 go_wp2_with fail
 go_ret2
 exact ⟨rfl, hB.out⟩
theorem bin177 (op a b : Int) (ho : op ∈ opsL) (hb : 0 ≤ b.tmod 32) (w : World) : Calls Tryz.prog 177 #[.int .u8 op, .int .u32 a, .int .u32 b] w fun e w' => e = outB op (binV op a b) ∧ Below w.heap.size w w' := by
 simp only [opsL, List.mem_cons, List.mem_nil_iff, or_false] at ho
 rcases ho with rfl | rfl | rfl | rfl | rfl | rfl | rfl | rfl | rfl | rfl | rfl | rfl | rfl | rfl | rfl
 ·exact bin177_39 a b hb w
 ·exact bin177_40 a b hb w
 ·exact bin177_41 a b hb w
 ·exact bin177_42 a b hb w
 ·exact bin177_44 a b hb w
 ·exact bin177_46 a b hb w
 ·exact bin177_47 a b hb w
 ·exact bin177_48 a b hb w
 ·exact bin177_50 a b hb w
 ·exact bin177_51 a b hb w
 ·exact bin177_54 a b hb w
 ·exact bin177_55 a b hb w
 ·exact bin177_56 a b hb w
 ·exact bin177_57 a b hb w
 ·exact bin177_0 a b hb w
set_option maxHeartbeats 2000000 in
theorem caught176_p (n : Nat) (x y : Int) (u : TypeId) (pv : Value) (w : World) (h0 : w.cell? ⟨n, 0, none⟩ = some (.int .u32 x)) (h1 : w.cell? ⟨n + 1, 0, none⟩ = some (.int .i64 y)) (f0 : w.frozen? ⟨n, 0, none⟩ = false) (f1 : w.frozen? ⟨n + 1, 0, none⟩ = false) :
  CallsD Tryz.prog 176 #[.pointer (some ⟨n, 0, none⟩), .pointer (some ⟨n + 1, 0, none⟩)] (.panicking [{ v := .iface u pv, recovered := false }]) w fun e u' w' =>
   e = .returned (.tuple #[]) ∧ u' = .panicking [{ v := .iface u pv, recovered := true }] ∧ w' = (w.setCell ⟨n, 0, none⟩ (.int .u32 0)).setCell ⟨n + 1, 0, none⟩ (.int .i64 60) := by
 refine callsD_of_wpS Tryz.func176 rfl fun c₀ cs hu => ?_
 have hne : ∀ (w : World), (binOp .neq 20 (.iface u pv) .nilIface).run Tryz.prog w = .ok (.bool true) w := by
  intro w
  kernel_rfl
 apply wpS_seq
 apply wpS_region
 simp [wpOpsS, go_sem, recoverD, hu, Tryz.ntmps176, Exit.thenS, hne]
 refine wpS_of_wp ?_
 go_wp2_with fail
 simp [bodyPostS, results, Tryz.results176, go_sem]
set_option maxHeartbeats 2000000 in
theorem caught176_n (p q : Addr) (w : World) : CallsD Tryz.prog 176 #[.pointer (some p), .pointer (some q)] .returning w fun e u' w' => e = .returned (.tuple #[]) ∧ u' = .returning ∧ w' = w := by
 refine callsD_of_wpS Tryz.func176 rfl fun c₀ cs hu => ?_
 have hne : (binOp .neq 20 .nilIface .nilIface).run Tryz.prog w = .ok (.bool false) w := by kernel_rfl
 apply wpS_seq
 apply wpS_region
 simp [wpOpsS, go_sem, recoverD, hu, Tryz.ntmps176, Exit.thenS, hne]
 refine wpS_of_wp ?_
 go_wp2_with fail
 cases c₀
 simp_all [bodyPostS, results, Tryz.results176, go_sem]
def resB (op : Int) (o : Option Int) : Ending := match o with
 | some r => .returned (.tuple #[.int .u32 r, .int .i64 (errB op)])
 | none => .returned (.tuple #[.int .u32 0, .int .i64 60])
set_option maxHeartbeats 4000000 in
theorem binary145 (op a b : Int) (ho : op ∈ opsL) (hb : 0 ≤ b.tmod 32) (w : World) : Calls Tryz.prog 145 #[.int .u8 op, .int .u32 a, .int .u32 b] w fun e w' => e = resB op (binV op a b) ∧ Below w.heap.size w w' := by
 have hmf : ∀ (fn : Fn) (first cap : Array Value) (w : World), (Instr.makeFunc fn first cap).run Tryz.prog w = .ok (.func fn first cap) w := fun _ _ _ _ => rfl
 have c1 := hid (bin177 op a b ho hb ((w.alloc (.cells #[.int .u32 0] 52)).alloc (.cells #[.int .i64 0] 32)))
 obtain ⟨V, hV⟩ : ∃ x, x = binV op a b := ⟨_, rfl⟩
 rw [← hV] at c1 ⊢
 obtain ⟨er, her⟩ : ∃ x, x = errB op := ⟨_, rfl⟩
 have HE := hid her
 clear hV ho hb her
 have b1 := hid ((Bx.new w #[.int .u32 0] 52).al (.cells #[.int .i64 0] 32))
 have b2 : Hid (Bx ((w.alloc (.cells #[.int .u32 0] 52)).alloc (.cells #[.int .i64 0] 32)) (w.heap.size + 1) #[.int .i64 0] 32) := hid (by simpa using Bx.new (w.alloc (.cells #[.int .u32 0] 52)) #[.int .i64 0] 32)
 have hB := hid (show Below w.heap.size w ((w.alloc (.cells #[.int .u32 0] 52)).alloc (.cells #[.int .i64 0] 32)) by (repeat (first | exact Below.refl _ _ | refine Below.drew ?_ | refine Below.alloc ?_ (by simp <;> omega) _)))
 go_enter_defers Tryz.func145, Tryz.ntmps145
 go_wp2_with fail
 refine c1.out.mono ?_
 rintro e w2 ⟨he, hb2⟩
 have B1 := hid (b1.out.on (grown_of_below hb2) (by simp))
 have B2 := hid (b2.out.on (grown_of_below hb2) (by simp))
 have hB2 := hid (hB.out.trans (hb2.mono hB.out.size))
 have z0 := B1.out.cell 0
 have z1 := B2.out.cell 0
 have f0 := B1.out.free 0
 have f1 := B2.out.free 0
 simp at z0 z1
 clear c1 hb2 b1 b2 hB
 cases V with
 | some r =>
  have hres := hid (show resB op (some r) = .returned (.tuple #[.int .u32 r, .int .i64 er]) by rw [HE.out]; rfl)
  unfold outB at he
  rw [← HE.out] at he
  simp only [] at he
  subst he
  have S1 := hid ((B1.out.set 0 (.int .u32 r)).on (grown_setCell _ ⟨w.heap.size + 1, 0, none⟩ (.int .i64 er)) (by simp))
  have S2 := hid ((B2.out.on (grown_setCell w2 ⟨w.heap.size, 0, none⟩ (.int .u32 r)) (by simp)).set 0 (.int .i64 er))
  have hB3 := hid ((hB2.out.setCell (p := ⟨w.heap.size, 0, none⟩) (Nat.le_refl _) (.int .u32 r)).setCell (p := ⟨w.heap.size + 1, 0, none⟩) (by simp) (.int .i64 er))
  go_wp2_with fail
  refine leaves_cons (f := 176) (args := #[.pointer (some ⟨w.heap.size, 0, none⟩), .pointer (some ⟨w.heap.size + 1, 0, none⟩)]) (by simp) (by simp [go_sem]) ?_
  refine (caught176_n ⟨w.heap.size, 0, none⟩ ⟨w.heap.size + 1, 0, none⟩ _).mono ?_
  rintro e u' w'' ⟨rfl, rfl, rfl⟩
  have q0 := S1.out.cell 0
  have q1 := S2.out.cell 0
  simp at q0 q1
  have hr := hres.out
  simp [Leaves, settle, results, Tryz.results145, go_sem, q0, q1, hr]
  exact hB3.out
 | none =>
  have hres := hid (show resB op none = .returned (.tuple #[.int .u32 0, .int .i64 60]) from rfl)
  unfold outB at he
  simp only [] at he
  subst he
  have S1 := hid ((B1.out.set 0 (.int .u32 0)).on (grown_setCell _ ⟨w.heap.size + 1, 0, none⟩ (.int .i64 60)) (by simp))
  have S2 := hid ((B2.out.on (grown_setCell w2 ⟨w.heap.size, 0, none⟩ (.int .u32 0)) (by simp)).set 0 (.int .i64 60))
  have hB3 := hid ((hB2.out.setCell (p := ⟨w.heap.size, 0, none⟩) (Nat.le_refl _) (.int .u32 0)).setCell (p := ⟨w.heap.size + 1, 0, none⟩) (by simp) (.int .i64 60))
  go_wp2_with fail
  refine leaves_cons (f := 176) (args := #[.pointer (some ⟨w.heap.size, 0, none⟩), .pointer (some ⟨w.heap.size + 1, 0, none⟩)]) (by simp) (by simp [go_sem]) ?_
  refine (caught176_p w.heap.size 0 0 _ _ _ z0 z1 f0 f1).mono ?_
  rintro e u' w'' ⟨rfl, rfl, rfl⟩
  have q0 := S1.out.cell 0
  have q1 := S2.out.cell 0
  simp at q0 q1
  have hr := hres.out
  simp [Leaves, settle, results, Tryz.results145, go_sem, q0, q1, hr]
  exact hB3.out
end
section
def floatH (op s : Int) : Option Bool :=
 if op = 23 then some (s == 3) else if op = 24 then some (s != 3) else if op = 25 then some (s == 2) else if op = 26 then some (s == 2 || s == 3) else if op = 27 then some (s == 4) else if op = 28 then some (s == 4 || s == 3) else none
def outH (o : Option Bool) : Ending := match o with
 | some r => .returned (.tuple #[.bool r, .int .i64 0])
 | none => .returned (.tuple #[.bool false, .int .i64 61])
set_option maxHeartbeats 4000000 in
theorem float174 (op s : Int) (w : World) : Calls Tryz.prog 174 #[.int .u8 op, .int .u8 s] w fun e w' => e = outH (floatH op s) ∧ w' = w := by
 by_cases h23 : op = 23
 ·subst op
  go_enter Tryz.func174, Tryz.ntmps174
  go_wp2
  go_ret2
  exact ⟨rfl, rfl⟩
 by_cases h24 : op = 24
 ·subst op
  go_enter Tryz.func174, Tryz.ntmps174
  go_wp2
  go_ret2
  exact ⟨rfl, rfl⟩
 by_cases h25 : op = 25
 ·subst op
  go_enter Tryz.func174, Tryz.ntmps174
  go_wp2
  go_ret2
  exact ⟨rfl, rfl⟩
 by_cases h27 : op = 27
 ·subst op
  go_enter Tryz.func174, Tryz.ntmps174
  go_wp2
  go_ret2
  exact ⟨rfl, rfl⟩
 by_cases h26 : op = 26
 ·subst op
  by_cases hs : s = 2
  ·subst s
   go_enter Tryz.func174, Tryz.ntmps174
   go_wp2
   go_ret2
   exact ⟨rfl, rfl⟩
  ·have hs2 : (s == 2) = false := by simpa using hs
   have hh := hid (show floatH 26 s = some (s == 3) by simp [floatH, hs2])
   go_enter Tryz.func174, Tryz.ntmps174
   go_wp2
   go_ret2
   rw [hh.out]
   exact ⟨rfl, rfl⟩
 by_cases h28 : op = 28
 ·subst op
  by_cases hs : s = 4
  ·subst s
   go_enter Tryz.func174, Tryz.ntmps174
   go_wp2
   go_ret2
   exact ⟨rfl, rfl⟩
  ·have hs2 : (s == 4) = false := by simpa using hs
   have hh := hid (show floatH 28 s = some (s == 3) by simp [floatH, hs2])
   go_enter Tryz.func174, Tryz.ntmps174
   go_wp2
   go_ret2
   rw [hh.out]
   exact ⟨rfl, rfl⟩
 have hh := hid (show floatH op s = none by simp [floatH, h23, h24, h25, h26, h27, h28])
 go_enter Tryz.func174, Tryz.ntmps174
 go_wp2
 go_ret2
 rw [hh.out]
 exact ⟨rfl, rfl⟩
def holdsV (op a b : Int) : Option Bool :=
 if op = 13 then some (a == b) else if op = 14 then some (a != b) else if op = 15 then some (decide (wrap32 a < wrap32 b)) else if op = 16 then some (decide (wrap32 a ≤ wrap32 b)) else if op = 17 then some (decide (wrap32 a > wrap32 b)) else if op = 18 then some (decide (wrap32 a ≥ wrap32 b))
 else if op = 19 then some (decide (a < b)) else if op = 20 then some (decide (a ≤ b)) else if op = 21 then some (decide (a > b)) else if op = 22 then some (decide (a ≥ b)) else floatH op (standV a b)
set_option maxHeartbeats 4000000 in
theorem holds144 (op a b : Int) (w : World) : Calls Tryz.prog 144 #[.int .u8 op, .int .u32 a, .int .u32 b] w fun e w' => e = outH (holdsV op a b) ∧ w' = w := by
 by_cases h13 : op = 13
 ·subst op
  go_enter Tryz.func144, Tryz.ntmps144
  go_wp2
  go_ret2
  exact ⟨rfl, rfl⟩
 by_cases h14 : op = 14
 ·subst op
  go_enter Tryz.func144, Tryz.ntmps144
  go_wp2
  go_ret2
  exact ⟨rfl, rfl⟩
 by_cases h15 : op = 15
 ·subst op
  go_enter Tryz.func144, Tryz.ntmps144
  go_wp2
  go_ret2
  exact ⟨rfl, rfl⟩
 by_cases h16 : op = 16
 ·subst op
  go_enter Tryz.func144, Tryz.ntmps144
  go_wp2
  go_ret2
  exact ⟨rfl, rfl⟩
 by_cases h17 : op = 17
 ·subst op
  go_enter Tryz.func144, Tryz.ntmps144
  go_wp2
  go_ret2
  exact ⟨rfl, rfl⟩
 by_cases h18 : op = 18
 ·subst op
  go_enter Tryz.func144, Tryz.ntmps144
  go_wp2
  go_ret2
  exact ⟨rfl, rfl⟩
 by_cases h19 : op = 19
 ·subst op
  go_enter Tryz.func144, Tryz.ntmps144
  go_wp2
  go_ret2
  exact ⟨rfl, rfl⟩
 by_cases h20 : op = 20
 ·subst op
  go_enter Tryz.func144, Tryz.ntmps144
  go_wp2
  go_ret2
  exact ⟨rfl, rfl⟩
 by_cases h21 : op = 21
 ·subst op
  go_enter Tryz.func144, Tryz.ntmps144
  go_wp2
  go_ret2
  exact ⟨rfl, rfl⟩
 by_cases h22 : op = 22
 ·subst op
  go_enter Tryz.func144, Tryz.ntmps144
  go_wp2
  go_ret2
  exact ⟨rfl, rfl⟩
 have hh := hid (show holdsV op a b = floatH op (standV a b) by simp [holdsV, h13, h14, h15, h16, h17, h18, h19, h20, h21, h22])
 have c1 := hid (stand175 a b w)
 have c2 := hid (float174 op (standV a b) w)
 obtain ⟨H, hH⟩ : ∃ x, x = floatH op (standV a b) := ⟨_, rfl⟩
 rw [← hH] at c2 hh
 clear hH
 go_enter Tryz.func144, Tryz.ntmps144
 go_wp2_with fail
 refine c1.out.mono ?_
 rintro e w2 ⟨rfl, hw⟩
 subst w2
 clear c1
 go_wp2_with fail
 refine c2.out.mono ?_
 rintro e w2 ⟨he, hw⟩
 subst w2
 clear c2
 cases H with
 | none =>
  obtain rfl : e = .returned (.tuple #[.bool false, .int .i64 61]) := he
  go_wp2_with fail
  go_ret2
  rw [hh.out]
  exact ⟨rfl, rfl⟩
 | some r =>
  obtain rfl : e = .returned (.tuple #[.bool r, .int .i64 0]) := he
  go_wp2_with fail
  go_ret2
  rw [hh.out]
  exact ⟨rfl, rfl⟩
end
section
open Ieee
theorem cut_zero (neg : Bool) (n drop : Nat) : Toward.zero.cut neg n drop = n / 2 ^ min drop (n.log2 + 2) := by
 unfold Toward.cut
 simp [Nat.shiftLeft_eq]
theorem cut_le (neg : Bool) (n drop : Nat) (B : Nat) (h : n < B * 2 ^ drop) : Toward.zero.cut neg n drop < B := by
 rw [cut_zero]
 by_cases hd : drop ≤ n.log2 + 2
 ·rw [Nat.min_eq_left hd]
  exact Nat.div_lt_of_lt_mul (by rw [Nat.mul_comm]; exact h)
 ·rw [Nat.min_eq_right (by omega)]
  have hB : 0 < B := by
   rcases Nat.eq_zero_or_pos B with e | e
   ·subst e; simp at h
   ·exact e
  have h2 : n < 2 ^ (n.log2 + 2) := Nat.lt_of_lt_of_le Nat.lt_log2_self (Nat.pow_le_pow_right (by omega) (by omega))
  rw [Nat.div_eq_of_lt h2]
  exact hB
theorem toInt_number (s : Bool) (m : Nat) (i : Int) : (Datum.number s m i).toInt .zero = some (if s then -(Toward.zero.cut s (m * 2 ^ i.toNat) (-i).toNat : Int) else (Toward.zero.cut s (m * 2 ^ i.toNat) (-i).toNat : Int)) := by
 unfold Datum.toInt Datum.integral
 simp only [signed, Nat.shiftLeft_eq, Nat.pow_zero, Nat.mul_one]
theorem shift_lt (m : Nat) (i : Int) (h : m * 2 ^ (i - min i 8).toNat < 8388608 * 2 ^ (8 - min i 8).toNat) : m * 2 ^ i.toNat < 2147483648 * 2 ^ (-i).toNat := by
 by_cases h8 : 8 ≤ i
 ·obtain ⟨k, hk⟩ : ∃ k, k = (i - 8).toNat := ⟨_, rfl⟩
  rw [show min i 8 = 8 by omega, ← hk, show ((8 : Int) - 8).toNat = 0 by omega, Nat.pow_zero, Nat.mul_one] at h
  rw [show i.toNat = k + 8 by omega, show (-i).toNat = 0 by omega, Nat.pow_add, ← Nat.mul_assoc, Nat.pow_zero, Nat.mul_one]
  generalize m * 2 ^ k = q at h ⊢
  omega
 ·rw [show min i 8 = i by omega, show (i - i).toNat = 0 by omega, Nat.pow_zero, Nat.mul_one] at h
  by_cases h0 : 0 ≤ i
  ·obtain ⟨k, hk⟩ : ∃ k, k = i.toNat := ⟨_, rfl⟩
   rw [← hk, show (-i).toNat = 0 by omega, Nat.pow_zero, Nat.mul_one]
   rw [show (8 - i).toNat = 8 - k by omega] at h
   have e : 8388608 * 2 ^ (8 - k) * 2 ^ k = 2147483648 := by
    rw [Nat.mul_assoc, ← Nat.pow_add, show 8 - k + k = 8 by omega]
   rw [← e]
   first | exact Nat.mul_lt_mul_of_pos_right h (Nat.two_pow_pos _) | exact Nat.mul_le_mul_right _ h
  ·obtain ⟨k, hk⟩ : ∃ k, k = (-i).toNat := ⟨_, rfl⟩
   rw [← hk, show i.toNat = 0 by omega, Nat.pow_zero, Nat.mul_one]
   rw [show (8 - i).toNat = 8 + k by omega, Nat.pow_add] at h
   omega
theorem shift_le (m : Nat) (i : Int) (h : m * 2 ^ (i - min i 8).toNat ≤ 8388608 * 2 ^ (8 - min i 8).toNat) : m * 2 ^ i.toNat ≤ 2147483648 * 2 ^ (-i).toNat := by
 by_cases h8 : 8 ≤ i
 ·obtain ⟨k, hk⟩ : ∃ k, k = (i - 8).toNat := ⟨_, rfl⟩
  rw [show min i 8 = 8 by omega, ← hk, show ((8 : Int) - 8).toNat = 0 by omega, Nat.pow_zero, Nat.mul_one] at h
  rw [show i.toNat = k + 8 by omega, show (-i).toNat = 0 by omega, Nat.pow_add, ← Nat.mul_assoc, Nat.pow_zero, Nat.mul_one]
  generalize m * 2 ^ k = q at h ⊢
  omega
 ·rw [show min i 8 = i by omega, show (i - i).toNat = 0 by omega, Nat.pow_zero, Nat.mul_one] at h
  by_cases h0 : 0 ≤ i
  ·obtain ⟨k, hk⟩ : ∃ k, k = i.toNat := ⟨_, rfl⟩
   rw [← hk, show (-i).toNat = 0 by omega, Nat.pow_zero, Nat.mul_one]
   rw [show (8 - i).toNat = 8 - k by omega] at h
   have e : 8388608 * 2 ^ (8 - k) * 2 ^ k = 2147483648 := by
    rw [Nat.mul_assoc, ← Nat.pow_add, show 8 - k + k = 8 by omega]
   rw [← e]
   first | exact Nat.mul_lt_mul_of_pos_right h (Nat.two_pow_pos _) | exact Nat.mul_le_mul_right _ h
  ·obtain ⟨k, hk⟩ : ∃ k, k = (-i).toNat := ⟨_, rfl⟩
   rw [← hk, show i.toNat = 0 by omega, Nat.pow_zero, Nat.mul_one]
   rw [show (8 - i).toNat = 8 + k by omega, Nat.pow_add] at h
   omega
theorem read_hi : Ieee.single.read 1325400064 = .number false 8388608 8 := by decide
theorem read_lo : Ieee.single.read 3472883712 = .number true 8388608 8 := by decide
/-- a float that is a number and lies between the ends has a whole number toward nought -/
theorem toward_some (x : Nat) (h0 : (FloatKind.f32.format.order x x != some .eq) = false) (h1 : (FloatKind.f32.format.order x 1325400064 == some .gt || FloatKind.f32.format.order x 1325400064 == some .eq) = false)
  (h2 : (FloatKind.f32.format.order x 3472883712 == some .lt) = false) : ∃ n, floatToIntVal .f32 x .i32 = some n := by
 have e1 : FloatKind.f32.format.order x 1325400064 = (Ieee.single.read x).order (.number false 8388608 8) := by rw [← read_hi]; rfl
 have e2 : FloatKind.f32.format.order x 3472883712 = (Ieee.single.read x).order (.number true 8388608 8) := by rw [← read_lo]; rfl
 have e0 : FloatKind.f32.format.order x x = (Ieee.single.read x).order (Ieee.single.read x) := rfl
 rw [e1] at h1
 rw [e2] at h2
 rw [e0] at h0
 unfold floatToIntVal FloatKind.decode
 show ∃ n, (match (Ieee.single.read x).toInt .zero with | some n => if IntKind.i32.min ≤ n ∧ n ≤ IntKind.i32.max then some n else none | none => none) = some n
 cases hd : Ieee.single.read x with
 | nan s f => rw [hd] at h0; simp [Datum.order] at h0
 | infinity s =>
  rw [hd] at h1 h2
  cases s <;> simp [Datum.order] at h1 h2
 | number s m i =>
  rw [hd] at h1 h2
  rw [toInt_number]
  simp only []
  have hmin : IntKind.i32.min = -2147483648 := rfl
  have hmax : IntKind.i32.max = 2147483647 := rfl
  rw [hmin, hmax]
  simp only [Datum.order, signed, Nat.shiftLeft_eq] at h1 h2
  cases s with
  | false =>
   have hlt : m * 2 ^ (i - min i 8).toNat < 8388608 * 2 ^ (8 - min i 8).toNat := by
    simp only [Bool.false_eq_true, if_false, Bool.or_eq_false_iff] at h1
    rcases Nat.lt_trichotomy (m * 2 ^ (i - min i 8).toNat) (8388608 * 2 ^ (8 - min i 8).toNat) with q | q | q
    ·exact q
    ·exfalso
     have : compare ((m * 2 ^ (i - min i 8).toNat : Nat) : Int) ((8388608 * 2 ^ (8 - min i 8).toNat : Nat) : Int) = .eq := by rw [q]; exact Int.compare_eq_eq.2 rfl
     rw [this] at h1
     simp at h1
    ·exfalso
     have : compare ((m * 2 ^ (i - min i 8).toNat : Nat) : Int) ((8388608 * 2 ^ (8 - min i 8).toNat : Nat) : Int) = .gt := Int.compare_eq_gt.2 (by omega)
     rw [this] at h1
     simp at h1
   have hc := cut_le false _ (-i).toNat _ (shift_lt m i hlt)
   exact ⟨_, if_pos (by simp only [Bool.false_eq_true, if_false]; omega)⟩
  | true =>
   have hle : m * 2 ^ (i - min i 8).toNat ≤ 8388608 * 2 ^ (8 - min i 8).toNat := by
    simp only [if_true] at h2
    rcases Nat.lt_or_ge (8388608 * 2 ^ (8 - min i 8).toNat) (m * 2 ^ (i - min i 8).toNat) with q | q
    ·exfalso
     have : compare (-((m * 2 ^ (i - min i 8).toNat : Nat) : Int)) (-((8388608 * 2 ^ (8 - min i 8).toNat : Nat) : Int)) = .lt := Int.compare_eq_lt.2 (by omega)
     rw [this] at h2
     simp at h2
    ·exact q
   have hc := cut_le true (m * 2 ^ i.toNat) (-i).toNat 2147483649 (Nat.lt_of_le_of_lt (shift_le m i hle) (Nat.mul_lt_mul_of_pos_right (by omega) (Nat.two_pow_pos _)))
   exact ⟨_, if_pos (by simp only [if_true]; omega)⟩
end
end Go.Proofs.YtlabadkfkbenoaaGreatDoor
