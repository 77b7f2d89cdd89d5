/- Walks: FigureExact. No condition. -/
import Derived.Test.YtjkgffehafaolaaDoorExH
import Derived.Test.YtjkgffehafaolaaDoorShelf
namespace Go.Proofs.YtjkgffehafaolaaDoor
open Go.RowKit
set_option linter.unusedVariables false
set_option linter.unusedSimpArgs false

theorem exL_eq (m : Nat) : exL m = xL (m - 4503599627370496) := by unfold exL xL; rfl
theorem pre_eq (s : Bool) (m : Nat) : preH s m = (if s then [45] else []) ++ exL m := by unfold preH preL; rw [exL_eq]
theorem sg_eq (s : Bool) (r b : Nat) (hr : r < 9223372036854775808) (hb : b = r + (if s then 9223372036854775808 else 0)) (z : ByteArray) : sgF (b : Int) z = if s then ⟨#[45]⟩ ++ z else z := by
  unfold sgF
  cases s <;> simp at hb
  · rw [if_neg (by omega)]; rfl
  · rw [if_pos (by omega)]; rfl
theorem mod_eq (s : Bool) (r b : Nat) (hr : r < 9223372036854775808) (hb : b = r + (if s then 9223372036854775808 else 0)) : (b : Int) % 9223372036854775808 = (r : Int) := by cases s <;> simp at hb <;> omega
theorem eqL (s : Bool) (l t : List UInt8) : (if s then (⟨#[45]⟩ : ByteArray) ++ ⟨(l ++ 112 :: t).toArray⟩ else ⟨(l ++ 112 :: t).toArray⟩) = (⟨((if s then [45] else []) ++ l ++ 112 :: t).toArray⟩ : ByteArray) := by
  cases s
  · rfl
  · apply ByteArray.ext
    simp
theorem spec_eq (s : Bool) (r b : Nat) (hr : r < 9223372036854775808) (hb : b = r + (if s then 9223372036854775808 else 0)) (z : ByteArray) : specF (b : Int) z = oddF s r z := by
  unfold specF oddF
  rw [mod_eq s r b hr hb, sg_eq s r b hr hb, sg_eq s r b hr hb]
  by_cases a1 : 9218868437227405312 < r
  · rw [if_pos (by omega), if_pos a1]
  rw [if_neg (by omega), if_neg a1]
  by_cases a2 : r = 9218868437227405312
  · rw [if_pos (by omega), if_pos a2]
    cases s <;> rfl
  rw [if_neg (by omega), if_neg a2]
  by_cases a3 : r = 0
  · rw [if_pos (by omega), if_pos a3]
  rw [if_neg (by omega), if_neg a3]
theorem eqF (s : Bool) (r b : Nat) (hr : r < 9223372036854775808) (hb : b = r + (if s then 9223372036854775808 else 0)) : exF (b : Int) = oF4 s r := by
  unfold exF oF4
  rw [spec_eq s r b hr hb, mod_eq s r b hr hb, sg_eq s r b hr hb, Int.toNat_natCast, pre_eq, eqL]
set_option maxRecDepth 100000 in
set_option maxHeartbeats 4000000 in
theorem law3 (b : Nat) (hb : b < 18446744073709551616) (w : World) (htab : ∀ w', Below w.heap.size w w' → Lib.TabIs Tryd.prog w' "internal/strconv.uint64pow10" .u64 Lib.pow10Tab) :
    Calls Tryd.prog 3 #[.int .u64 b] w fun e w' => e = .returned (.bool true) ∧ Below w.heap.size w w' := by
  obtain ⟨s, hs⟩ : ∃ s : Bool, s = decide (9223372036854775808 ≤ b) := ⟨_, rfl⟩
  obtain ⟨r, hr⟩ : ∃ r, r = b % 9223372036854775808 := ⟨_, rfl⟩
  have hr0 : r < 9223372036854775808 := by omega
  have hbr : b = r + (if s then 9223372036854775808 else 0) := by
    by_cases h : 9223372036854775808 ≤ b
    · rw [hs, decide_eq_true h]; simp; omega
    · rw [hs, decide_eq_false h]; simp; omega
  have c4 := hid (exact4 s r b hr0 hbr w htab)
  have c6 := hid (fun w => exact6 (b : Int) (by omega) (by omega) w)
  rw [eqF s r b hr0 hbr] at c6
  have h5 := call5
  generalize oF4 s r = R at c4 c6
  clear hs hr hr0 hbr hb htab
  go_enter Tryd.func3, Tryd.ntmps3
  go_wp2_with fail
  refine c4.out.mono ?_
  rintro e w2 ⟨rfl, hb2⟩
  have HB2 := hid hb2
  clear hb2 c4
  go_wp2_with fail
  refine (c6.out _).mono ?_
  rintro e w3 ⟨rfl, hb3⟩
  have HB3 := hid (HB2.out.trans (hb3.mono HB2.out.size))
  clear hb3 c6
  go_wp2_with fail
  go_ret
  exact ⟨rfl, HB3.out⟩

end Go.Proofs.YtjkgffehafaolaaDoor
