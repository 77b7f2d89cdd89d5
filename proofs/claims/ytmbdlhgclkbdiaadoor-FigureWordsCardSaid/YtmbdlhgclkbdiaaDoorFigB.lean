/- Walks: Signed, of the program and of the document. -/
import Derived.Test.YtmbdlhgclkbdiaaDoorFigA
import Derived.Test.YtmbdlhgclkbdiaaDoorShelf
import Derived.Lib.ItoaLen
import Derived.Lib.AppendIntMem
namespace Go.Proofs.YtmbdlhgclkbdiaaDoor
open Go.RowKit
set_option linter.unusedVariables false
set_option linter.unusedSimpArgs false

/-- a word as a number with a sign -/
def sgn (x : Nat) : Int := if x < 2147483648 then x else (x : Int) - 4294967296

set_option maxHeartbeats 1000000 in
set_option maxRecDepth 100000 in
theorem signed6 (x : Nat) (hx : x < 4294967296) (w : World) :
    Calls Tryd.prog 6 #[.int .u32 x] w fun e w' => e = .returned (.string ⟨(Lib.itoa (sgn x)).toArray⟩) ∧ Below w.heap.size w w' := by
  by_cases h : x < 2147483648
  · have hq : ((2147483648 : Int) ≤ (x : Int)) = False := eq_false (by omega)
    have hw1 : IntKind.u64.wrap (x : Int) = x := by rw [IntKind.wrap_u64]; omega
    obtain ⟨m, hm⟩ : ∃ m, m = if x = 0 then 0 else 1 := ⟨_, rfl⟩
    have h13 := hid (nat13 x hx w)
    rw [← hm] at h13
    have hmc : m ≤ 2 := by rw [hm]; split <;> omega
    have hM := hid hm
    clear hm
    have hit : Hid (Lib.itoa (sgn x) = Lib.decDigits x) := by
      unfold Hid Lib.itoa sgn
      rw [if_pos h, if_neg (by omega)]
      congr 1
    go_enter Tryd.func6, Tryd.ntmps6
    go_wp2_with fail
    refine h13.out.mono ?_
    clear h13
    rintro e w1 ⟨rfl, rfl⟩
    have h12 := decimal12 w.heap.size m 2 x hx (w.alloc (.cells #[.int .u32 x, .int .u32 0] 22)) hM.out hmc (fun _ => by simp)
    have hb1 := hid ((Below.refl w.heap.size w).alloc (Nat.le_refl _) (.cells #[.int .u32 x, .int .u32 0] 22))
    go_wp2_with fail
    refine h12.mono ?_
    clear h12
    rintro e w2 ⟨rfl, hb⟩
    have hB := hid (hb1.out.trans (hb.mono (by simp)))
    clear hb hb1
    go_wp2_with fail
    go_ret
    exact ⟨by rw [hit.out]; rfl, hB.out⟩
  · have hq : ((2147483648 : Int) ≤ (x : Int)) = True := eq_true (by omega)
    obtain ⟨y, hy⟩ : ∃ y : Nat, y = 4294967296 - x := ⟨_, rfl⟩
    have hy1 : (4294967296 : Int) - (x : Int) = (y : Int) := by omega
    have hyb : y < 4294967296 := by omega
    have hw1 : IntKind.u64.wrap (x : Int) = x := by rw [IntKind.wrap_u64]; omega
    have hw2 : IntKind.u64.wrap (4294967296 - (x : Int)) = y := by rw [IntKind.wrap_u64]; omega
    obtain ⟨m, hm⟩ : ∃ m, m = if y = 0 then 0 else 1 := ⟨_, rfl⟩
    have h13 := hid (nat13 y hyb w)
    rw [← hm] at h13
    have hmc : m ≤ 2 := by rw [hm]; split <;> omega
    have hM := hid hm
    clear hm
    have hit : Hid (Lib.itoa (sgn x) = 45 :: Lib.decDigits y) := by
      unfold Hid Lib.itoa sgn
      rw [if_neg h, if_pos (by omega)]
      congr 2
      omega
    have hdl : (9223372036854775807 < 1 + (Lib.decDigits y).length) = False := eq_false (by rw [Lib.decDigits_length]; have := Lib.nDigits_le20 y (by omega); omega)
    clear hy1 hy
    go_enter Tryd.func6, Tryd.ntmps6
    go_wp2_with fail
    refine h13.out.mono ?_
    clear h13
    rintro e w1 ⟨rfl, rfl⟩
    have h12 := decimal12 w.heap.size m 2 y hyb (w.alloc (.cells #[.int .u32 y, .int .u32 0] 22)) hM.out hmc (fun _ => by simp)
    have hb1 := hid ((Below.refl w.heap.size w).alloc (Nat.le_refl _) (.cells #[.int .u32 y, .int .u32 0] 22))
    go_wp2_with fail
    refine h12.mono ?_
    clear h12
    rintro e w2 ⟨rfl, hb⟩
    have hB := hid (hb1.out.trans (hb.mono (by simp)))
    clear hb hb1
    go_wp2_with fail
    go_ret
    refine ⟨?_, hB.out⟩
    rw [hit.out]
    show Ending.returned (.string (⟨#[45]⟩ ++ ⟨(Lib.decDigits y).toArray⟩)) = _
    congr 2

set_option maxHeartbeats 1000000 in
set_option maxRecDepth 100000 in
theorem signed5 (x : Nat) (hx : x < 4294967296) (w : World) (htab : Lib.TabIs Tryd.prog w "internal/strconv.uint64pow10" .u64 Lib.pow10Tab) :
    Calls Tryd.prog 5 #[.int .u32 x] w fun e w' => e = .returned (.string ⟨(Lib.itoa (sgn x)).toArray⟩) ∧ Below w.heap.size w w' := by
  have hs : IntKind.i32.wrap (x : Int) = sgn x := by
    unfold sgn
    rw [IntKind.wrap_i32]
    split <;> omega
  have hb : -2147483648 ≤ sgn x ∧ sgn x ≤ 2147483647 := by unfold sgn; split <;> omega
  have h11 := hid (Tryd.strconv_Itoa (sgn x) (by omega) (by omega) w htab)
  clear htab
  generalize sgn x = n at *
  have hw : IntKind.i64.wrap n = n := IntWalk.i64_in _ (by omega)
  go_enter Tryd.func5, Tryd.ntmps5
  go_wp2_with fail
  refine h11.out.mono ?_
  clear h11
  rintro e w1 ⟨rfl, k, os, hw1⟩
  have hB : Hid (Below w.heap.size w w1) := hw1 ▸ Lib.below_grow w.heap.size w (Nat.le_refl _) k os
  clear hw1
  go_wp2_with fail
  go_ret
  exact ⟨rfl, hB.out⟩
end Go.Proofs.YtmbdlhgclkbdiaaDoor
