/- Walks: FigureWord. -/
import Derived.Test.YtmbdlhgclkbdiaaProg
import Derived.Test.YtmbdlhgclkbdiaaKit
namespace Go.Proofs.Ytmbdlhgclkbdiaa
open Go.RowKit
set_option linter.unusedVariables false
set_option linter.unusedSimpArgs false

def pre (s p : ByteArray) : Bool := decide (p.size ≤ s.size) && ((s.extract 0 p.size).toList == p.toList)

set_option maxHeartbeats 1000000 in
theorem prefix62 (s p : ByteArray) (w : World) (hs : s.size ≤ 140737488355328) (hp : p.size ≤ 2) : Calls Try.prog 62 #[.string s, .string p] w fun e w' => e = .returned (.bool (pre s p)) ∧ w = w' := by
  by_cases h : p.size ≤ s.size
  · have hr : Hid (((s.extract 0 p.size).toList == p.toList) = pre s p) := by unfold Hid pre; simp [h]
    go_enter Try.func62, Try.ntmps62
    go_wp2_with fail
    rw [hr.out]
    go_ret
    exact ⟨rfl, rfl⟩
  · have hr : Hid (false = pre s p) := by unfold Hid pre; simp [h]
    go_enter Try.func62, Try.ntmps62
    go_wp2_with fail
    rw [hr.out]
    go_ret
    exact ⟨rfl, rfl⟩
theorem prefix51 (s p : ByteArray) (w : World) (hs : s.size ≤ 140737488355328) (hp : p.size ≤ 2) : Calls Try.prog 51 #[.string s, .string p] w fun e w' => e = .returned (.bool (pre s p)) ∧ w = w' := by
  go_enter Try.func51, Try.ntmps51
  go_wp2_with fail
  refine (prefix62 s p w hs hp).mono ?_
  rintro e w1 ⟨rfl, rfl⟩
  go_wp2_with fail
  go_ret
  exact ⟨rfl, rfl⟩

def hx (c : Int) : Int := if 48 ≤ c ∧ c ≤ 57 then c - 48 else if 97 ≤ c ∧ c ≤ 102 then c - 87 else if 65 ≤ c ∧ c ≤ 70 then c - 55 else -1

theorem isDigit64 (c : Int) (w : World) : Calls Try.prog 64 #[.int .u8 c] w fun e w' => e = .returned (.bool (decide (48 ≤ c ∧ c ≤ 57))) ∧ w = w' := by
  by_cases h : 48 ≤ c
  · by_cases h2 : c ≤ 57
    · have hr : Hid (true = decide (48 ≤ c ∧ c ≤ 57)) := by unfold Hid; simp [h, h2]
      go_enter Try.func64, Try.ntmps64
      go_wp2_with fail
      go_ret
      exact ⟨ret_bool (by first | (simp; omega) | simp [h] | simp_all), rfl⟩
    · have hr : Hid (false = decide (48 ≤ c ∧ c ≤ 57)) := by unfold Hid; simp [h, h2]
      go_enter Try.func64, Try.ntmps64
      go_wp2_with fail
      go_ret
      exact ⟨ret_bool (by first | (simp; omega) | simp [h] | simp_all), rfl⟩
  · have hr : Hid (false = decide (48 ≤ c ∧ c ≤ 57)) := by unfold Hid; simp [h]
    go_enter Try.func64, Try.ntmps64
    go_wp2_with fail
    go_ret
    exact ⟨ret_bool (by first | (simp; omega) | simp [h] | simp_all), rfl⟩

set_option maxHeartbeats 1000000 in
theorem hex53 (c : Int) (w : World) (h0 : 0 ≤ c) (h1 : c ≤ 255) : Calls Try.prog 53 #[.int .u8 c] w fun e w' => e = .returned (.int .i64 (hx c)) ∧ w = w' := by
  have call : ∀ b, (decide (48 ≤ c ∧ c ≤ 57) = b) → Hid (Calls Try.prog 64 #[.int .u8 c] w fun e w' => e = .returned (.bool b) ∧ w = w') := by
    rintro b rfl; exact isDigit64 c w
  by_cases a : 48 ≤ c ∧ c ≤ 57
  · have hr : Hid (c - 48 = hx c) := by unfold Hid hx; rw [if_pos a]
    have hc := call true (by simp [a])
    clear call
    go_enter Try.func53, Try.ntmps53
    go_wp2_with fail
    refine hc.out.mono ?_
    rintro e w1 ⟨rfl, rfl⟩
    go_wp2_with fail
    go_ret
    exact ⟨ret_int hr.out, rfl⟩
  · have hc := call false (by rw [decide_eq_false_iff_not]; exact a)
    clear call
    by_cases b : 97 ≤ c ∧ c ≤ 102
    · have hr : Hid (c - 87 = hx c) := by unfold Hid hx; rw [if_neg a, if_pos b]
      obtain ⟨b1, b2⟩ := b
      clear a
      go_enter Try.func53, Try.ntmps53
      go_wp2_with fail
      refine hc.out.mono ?_
      rintro e w1 ⟨rfl, rfl⟩
      go_wp2_with fail
      go_ret
      exact ⟨ret_int hr.out, rfl⟩
    · by_cases d : 65 ≤ c ∧ c ≤ 70
      · have hr : Hid (c - 55 = hx c) := by unfold Hid hx; rw [if_neg a, if_neg b, if_pos d]
        obtain ⟨b1, b2⟩ := d
        have nb : c < 97 := by omega
        clear a b
        go_enter Try.func53, Try.ntmps53
        go_wp2_with fail
        refine hc.out.mono ?_
        rintro e w1 ⟨rfl, rfl⟩
        go_wp2_with fail
        go_ret
        exact ⟨ret_int hr.out, rfl⟩
      · have hr : Hid ((-1) = hx c) := by unfold Hid hx; rw [if_neg a, if_neg b, if_neg d]
        have b' := hid b
        have d' := hid d
        clear a b d
        have cases : (c < 65) ∨ (70 < c ∧ c < 97) ∨ (102 < c) := by have := b'.out; have := d'.out; omega
        go_enter Try.func53, Try.ntmps53
        go_wp2_with fail
        refine hc.out.mono ?_
        rintro e w1 ⟨rfl, rfl⟩
        rcases cases with q | ⟨q1, q2⟩ | q
        all_goals
          go_wp2_with fail
          go_ret
          exact ⟨ret_int hr.out, rfl⟩

def dg (c base : Int) : Int := if hx c < 0 ∨ base ≤ hx c then base else hx c

set_option maxHeartbeats 1000000 in
theorem digit63 (c base : Int) (w : World) (h0 : 0 ≤ c) (h1 : c ≤ 255) (h2 : 0 ≤ base) (h3 : base ≤ 16) : Calls Try.prog 63 #[.int .u8 c, .int .u64 base] w fun e w' => e = .returned (.int .u64 (dg c base)) ∧ w = w' := by
  by_cases a : 48 ≤ c ∧ c ≤ 57
  · have hr : hx c = c - 48 := by unfold hx; rw [if_pos a]
    obtain ⟨a1, a2⟩ := a
    go_enter Try.func63, Try.ntmps63
    go_wp2_with fail
    all_goals
      go_ret
      exact ⟨ret_int (by unfold dg; rw [hr]; split <;> omega), rfl⟩
  · by_cases b : 97 ≤ c ∧ c ≤ 102
    · have hr : hx c = c - 87 := by unfold hx; rw [if_neg a, if_pos b]
      obtain ⟨b1, b2⟩ := b
      clear a
      have hw : IntKind.u64.wrap (c - 97 + 10) = c - 87 := by rw [IntKind.wrap_u64]; omega
      have nb : 57 < c := by omega
      go_enter Try.func63, Try.ntmps63
      go_wp2_with fail
      all_goals
        go_ret
        exact ⟨ret_int (by unfold dg; rw [hr]; split <;> omega), rfl⟩
    · by_cases d : 65 ≤ c ∧ c ≤ 70
      · have hr : hx c = c - 55 := by unfold hx; rw [if_neg a, if_neg b, if_pos d]
        obtain ⟨b1, b2⟩ := d
        have nb : c < 97 := by omega
        have nc : 57 < c := by omega
        clear a b
        have hw : IntKind.u64.wrap (c - 65 + 10) = c - 55 := by rw [IntKind.wrap_u64]; omega
        go_enter Try.func63, Try.ntmps63
        go_wp2_with fail
        all_goals
          go_ret
          exact ⟨ret_int (by unfold dg; rw [hr]; split <;> omega), rfl⟩
      · have hr : hx c = -1 := by unfold hx; rw [if_neg a, if_neg b, if_neg d]
        have b' := hid b
        have d' := hid d
        have a' := hid a
        clear a b d
        have cases : (c < 48) ∨ (57 < c ∧ c < 65) ∨ (70 < c ∧ c < 97) ∨ (102 < c) := by have := b'.out; have := d'.out; have := a'.out; omega
        go_enter Try.func63, Try.ntmps63
        rcases cases with q | ⟨q1, q2⟩ | ⟨q1, q2⟩ | q
        all_goals
          go_wp2_with fail
          go_ret
          exact ⟨ret_int (by unfold dg; rw [hr]; simp), rfl⟩
end Go.Proofs.Ytmbdlhgclkbdiaa
