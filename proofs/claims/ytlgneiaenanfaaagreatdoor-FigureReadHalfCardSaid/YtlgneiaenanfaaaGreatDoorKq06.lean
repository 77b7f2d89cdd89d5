/- Walks and plain laws, merged: FgA. No condition. -/
import Derived.Test.YtlgneiaenanfaaaGreatDoorProg
import Derived.OwnWalk
import Derived.Test.YtlgneiaenanfaaaGreatDoorKq05
namespace Go.Proofs.YtlgneiaenanfaaaGreatDoor
open Go.RowKit
set_option linter.unusedVariables false
set_option linter.unusedSimpArgs false
set_option maxRecDepth 100000
set_option maxHeartbeats 64000000
section
set_option maxRecDepth 100000
def hx (c : Int) : Int := if 48 ≤ c ∧ c ≤ 57 then c - 48 else if 97 ≤ c ∧ c ≤ 102 then c - 87 else if 65 ≤ c ∧ c ≤ 70 then c - 55 else -1
def dg (c base : Int) : Int := if hx c < 0 ∨ base ≤ hx c then base else hx c
theorem digit91 (c base : Int) (w : World) (h0 : 0 ≤ c) (h1 : c ≤ 255) (h2 : 0 ≤ base) (h3 : base ≤ 16) : Calls Tryz.prog 91 #[.int .u8 c, .int .u64 base] w fun e w' => e = .returned (.int .u64 (dg c base)) ∧ w = w' := by
 by_cases a : 48 ≤ c ∧ c ≤ 57
 ·have hr : hx c = c - 48 := by unfold hx; rw [if_pos a]
  obtain ⟨a1, a2⟩ := a
  go_enter Tryz.func91, Tryz.ntmps91
  go_wp2_with fail
  all_goals
   go_ret
   exact ⟨ret_int (by unfold dg; rw [hr]; split <;> omega), rfl⟩
 ·by_cases b : 97 ≤ c ∧ c ≤ 102
  ·have hr : hx c = c - 87 := by unfold hx; rw [if_neg a, if_pos b]
   obtain ⟨b1, b2⟩ := b
   clear a
   have hw : IntKind.u64.wrap (c - 97 + 10) = c - 87 := by rw [IntKind.wrap_u64]; omega
   have nb : 57 < c := by omega
   go_enter Tryz.func91, Tryz.ntmps91
   go_wp2_with fail
   all_goals
    go_ret
    exact ⟨ret_int (by unfold dg; rw [hr]; split <;> omega), rfl⟩
  ·by_cases d : 65 ≤ c ∧ c ≤ 70
   ·have hr : hx c = c - 55 := by unfold hx; rw [if_neg a, if_neg b, if_pos d]
    obtain ⟨b1, b2⟩ := d
    have nb : c < 97 := by omega
    have nc : 57 < c := by omega
    clear a b
    have hw : IntKind.u64.wrap (c - 65 + 10) = c - 55 := by rw [IntKind.wrap_u64]; omega
    go_enter Tryz.func91, Tryz.ntmps91
    go_wp2_with fail
    all_goals
     go_ret
     exact ⟨ret_int (by unfold dg; rw [hr]; split <;> omega), rfl⟩
   ·have hr : hx c = -1 := by unfold hx; rw [if_neg a, if_neg b, if_neg d]
    have b' := hid b
    have d' := hid d
    have a' := hid a
    clear a b d
    have cases : (c < 48) ∨ (57 < c ∧ c < 65) ∨ (70 < c ∧ c < 97) ∨ (102 < c) := by have := b'.out; have := d'.out; have := a'.out; omega
    go_enter Tryz.func91, Tryz.ntmps91
    rcases cases with q | ⟨q1, q2⟩ | ⟨q1, q2⟩ | q
    all_goals
     go_wp2_with fail
     go_ret
     exact ⟨ret_int (by unfold dg; rw [hr]; simp), rfl⟩
theorem hx_bd (c : Int) : -1 ≤ hx c ∧ hx c ≤ 15 := by unfold hx; split <;> (try split) <;> (try split) <;> omega
theorem dg_D (c : Int) : decide (dg c 10 < 10) = isD c := by
 have hb := hx_bd c
 have h2 : isD c = true ↔ 48 ≤ c ∧ c ≤ 57 := isD_iff
 have h3 : (dg c 10 < 10) ↔ (48 ≤ c ∧ c ≤ 57) := by
  unfold dg hx
  by_cases q1 : 48 ≤ c ∧ c ≤ 57
  ·rw [if_pos q1, if_neg (by omega)]; omega
  ·by_cases q2 : 97 ≤ c ∧ c ≤ 102
   ·rw [if_neg q1, if_pos q2, if_pos (by omega)]; omega
   ·by_cases q3 : 65 ≤ c ∧ c ≤ 70
    ·rw [if_neg q1, if_neg q2, if_pos q3, if_pos (by omega)]; omega
    ·rw [if_neg q1, if_neg q2, if_neg q3, if_pos (by omega)]; omega
 by_cases q : 48 ≤ c ∧ c ≤ 57
 ·rw [h2.2 q]; exact decide_eq_true (h3.2 q)
 ·have e : isD c = false := by
   cases h : isD c
   ·rfl
   ·exact absurd (h2.1 h) q
  rw [e]
  exact decide_eq_false (fun h => q (h3.1 h))
theorem dg_H (c : Int) : decide (dg c 16 < 16) = isH c := by
 have h2 : isH c = true ↔ _ := isH_iff
 have h3 : (dg c 16 < 16) ↔ ((48 ≤ c ∧ c ≤ 57) ∨ (97 ≤ c ∧ c ≤ 102) ∨ (65 ≤ c ∧ c ≤ 70)) := by
  unfold dg hx
  by_cases q1 : 48 ≤ c ∧ c ≤ 57
  ·rw [if_pos q1, if_neg (by omega)]; omega
  ·by_cases q2 : 97 ≤ c ∧ c ≤ 102
   ·rw [if_neg q1, if_pos q2, if_neg (by omega)]; omega
   ·by_cases q3 : 65 ≤ c ∧ c ≤ 70
    ·rw [if_neg q1, if_neg q2, if_pos q3, if_neg (by omega)]; omega
    ·rw [if_neg q1, if_neg q2, if_neg q3, if_pos (by omega)]; omega
 by_cases q : ((48 ≤ c ∧ c ≤ 57) ∨ (97 ≤ c ∧ c ≤ 102) ∨ (65 ≤ c ∧ c ≤ 70))
 ·rw [h2.2 q]; exact decide_eq_true (h3.2 q)
 ·have e : isH c = false := by
   cases h : isH c
   ·rfl
   ·exact absurd (h2.1 h) q
  rw [e]
  exact decide_eq_false (fun h => q (h3.1 h))
theorem num10 (c : Int) (w : World) (h : 0 ≤ c ∧ c ≤ 255) : Calls Tryz.prog 159 #[.int .u8 c, .int .u64 10] w fun e w' => e = .returned (.bool (isD c)) ∧ w = w' := by
 have hf := hid (digit91 c 10 w h.1 h.2 (by omega) (by omega))
 have hd := hid (dg_D c)
 clear h
 go_enter Tryz.func159, Tryz.ntmps159
 go_wp2_with (go_at_call 91; refine hf.out.mono ?_; rintro e w1 ⟨rfl, rfl⟩)
 go_ret
 exact ⟨by rw [← hd.out]; rfl, rfl⟩
theorem num16 (c : Int) (w : World) (h : 0 ≤ c ∧ c ≤ 255) : Calls Tryz.prog 159 #[.int .u8 c, .int .u64 16] w fun e w' => e = .returned (.bool (isH c)) ∧ w = w' := by
 have hf := hid (digit91 c 16 w h.1 h.2 (by omega) (by omega))
 have hd := hid (dg_H c)
 clear h
 go_enter Tryz.func159, Tryz.ntmps159
 go_wp2_with (go_at_call 91; refine hf.out.mono ?_; rintro e w1 ⟨rfl, rfl⟩)
 go_ret
 exact ⟨by rw [← hd.out]; rfl, rfl⟩
theorem bne_of {c k : Int} (h : c ≠ k) : (c == k) = false := by simp [h]
theorem beq_of {c k : Int} (h : c = k) : (c == k) = true := by simp [h]
theorem decF_0true (c : Int) (w : World) (hn : Hid (Calls Tryz.prog 159 #[.int .u8 c, .int .u64 10] w fun e w' => e = .returned (.bool true) ∧ w = w')) (hD : Hid (isD c = true)) : Calls Tryz.prog 128 #[.int .i64 0, .int .u8 c] w fun e w' => e = .returned (.int .i64 (decF 0 c)) ∧ w = w' := by
 go_enter Tryz.func128, Tryz.ntmps128
 by_cases h48 : c = 48
 ·subst h48
  go_wp2_with (go_at_call 159; refine hn.out.mono ?_; rintro e w1 ⟨rfl, rfl⟩)
  all_goals (go_ret; have hd := hD.out; clear hn hD; exact ⟨ret_int (by first | (simp [decF, hd]; done) | (simp [decF, hd, *]; done) | (simp [decF, hd, *]; decide)), rfl⟩)
 ·have b48 := bne_of h48
  go_wp2_with (go_at_call 159; refine hn.out.mono ?_; rintro e w1 ⟨rfl, rfl⟩)
  all_goals (go_ret; have hd := hD.out; clear hn hD; exact ⟨ret_int (by first | (simp [decF, hd]; done) | (simp [decF, hd, *]; done) | (simp [decF, hd, *]; decide)), rfl⟩)
theorem decF_0false (c : Int) (w : World) (hn : Hid (Calls Tryz.prog 159 #[.int .u8 c, .int .u64 10] w fun e w' => e = .returned (.bool false) ∧ w = w')) (hD : Hid (isD c = false)) : Calls Tryz.prog 128 #[.int .i64 0, .int .u8 c] w fun e w' => e = .returned (.int .i64 (decF 0 c)) ∧ w = w' := by
 go_enter Tryz.func128, Tryz.ntmps128
 by_cases h48 : c = 48
 ·subst h48
  go_wp2_with (go_at_call 159; refine hn.out.mono ?_; rintro e w1 ⟨rfl, rfl⟩)
  all_goals (go_ret; have hd := hD.out; clear hn hD; exact ⟨ret_int (by first | (simp [decF, hd]; done) | (simp [decF, hd, *]; done) | (simp [decF, hd, *]; decide)), rfl⟩)
 ·have b48 := bne_of h48
  go_wp2_with (go_at_call 159; refine hn.out.mono ?_; rintro e w1 ⟨rfl, rfl⟩)
  all_goals (go_ret; have hd := hD.out; clear hn hD; exact ⟨ret_int (by first | (simp [decF, hd]; done) | (simp [decF, hd, *]; done) | (simp [decF, hd, *]; decide)), rfl⟩)
theorem decF_1true (c : Int) (w : World) (hn : Hid (Calls Tryz.prog 159 #[.int .u8 c, .int .u64 10] w fun e w' => e = .returned (.bool true) ∧ w = w')) (hD : Hid (isD c = true)) : Calls Tryz.prog 128 #[.int .i64 1, .int .u8 c] w fun e w' => e = .returned (.int .i64 (decF 1 c)) ∧ w = w' := by
 go_enter Tryz.func128, Tryz.ntmps128
 by_cases h48 : c = 48
 ·subst h48
  go_wp2_with (go_at_call 159; refine hn.out.mono ?_; rintro e w1 ⟨rfl, rfl⟩)
  all_goals (go_ret; have hd := hD.out; clear hn hD; exact ⟨ret_int (by first | (simp [decF, hd]; done) | (simp [decF, hd, *]; done) | (simp [decF, hd, *]; decide)), rfl⟩)
 ·have b48 := bne_of h48
  go_wp2_with (go_at_call 159; refine hn.out.mono ?_; rintro e w1 ⟨rfl, rfl⟩)
  all_goals (go_ret; have hd := hD.out; clear hn hD; exact ⟨ret_int (by first | (simp [decF, hd]; done) | (simp [decF, hd, *]; done) | (simp [decF, hd, *]; decide)), rfl⟩)
theorem decF_1false (c : Int) (w : World) (hn : Hid (Calls Tryz.prog 159 #[.int .u8 c, .int .u64 10] w fun e w' => e = .returned (.bool false) ∧ w = w')) (hD : Hid (isD c = false)) : Calls Tryz.prog 128 #[.int .i64 1, .int .u8 c] w fun e w' => e = .returned (.int .i64 (decF 1 c)) ∧ w = w' := by
 go_enter Tryz.func128, Tryz.ntmps128
 by_cases h48 : c = 48
 ·subst h48
  go_wp2_with (go_at_call 159; refine hn.out.mono ?_; rintro e w1 ⟨rfl, rfl⟩)
  all_goals (go_ret; have hd := hD.out; clear hn hD; exact ⟨ret_int (by first | (simp [decF, hd]; done) | (simp [decF, hd, *]; done) | (simp [decF, hd, *]; decide)), rfl⟩)
 ·have b48 := bne_of h48
  go_wp2_with (go_at_call 159; refine hn.out.mono ?_; rintro e w1 ⟨rfl, rfl⟩)
  all_goals (go_ret; have hd := hD.out; clear hn hD; exact ⟨ret_int (by first | (simp [decF, hd]; done) | (simp [decF, hd, *]; done) | (simp [decF, hd, *]; decide)), rfl⟩)
theorem decF_2true (c : Int) (w : World) (hn : Hid (Calls Tryz.prog 159 #[.int .u8 c, .int .u64 10] w fun e w' => e = .returned (.bool true) ∧ w = w')) (hD : Hid (isD c = true)) : Calls Tryz.prog 128 #[.int .i64 2, .int .u8 c] w fun e w' => e = .returned (.int .i64 (decF 2 c)) ∧ w = w' := by
 go_enter Tryz.func128, Tryz.ntmps128
 by_cases h48 : c = 48
 ·subst h48
  go_wp2_with (go_at_call 159; refine hn.out.mono ?_; rintro e w1 ⟨rfl, rfl⟩)
  all_goals (go_ret; have hd := hD.out; clear hn hD; exact ⟨ret_int (by first | (simp [decF, hd]; done) | (simp [decF, hd, *]; done) | (simp [decF, hd, *]; decide)), rfl⟩)
 ·have b48 := bne_of h48
  go_wp2_with (go_at_call 159; refine hn.out.mono ?_; rintro e w1 ⟨rfl, rfl⟩)
  all_goals (go_ret; have hd := hD.out; clear hn hD; exact ⟨ret_int (by first | (simp [decF, hd]; done) | (simp [decF, hd, *]; done) | (simp [decF, hd, *]; decide)), rfl⟩)
theorem decF_2false (c : Int) (w : World) (hn : Hid (Calls Tryz.prog 159 #[.int .u8 c, .int .u64 10] w fun e w' => e = .returned (.bool false) ∧ w = w')) (hD : Hid (isD c = false)) : Calls Tryz.prog 128 #[.int .i64 2, .int .u8 c] w fun e w' => e = .returned (.int .i64 (decF 2 c)) ∧ w = w' := by
 go_enter Tryz.func128, Tryz.ntmps128
 by_cases h48 : c = 48
 ·subst h48
  go_wp2_with (go_at_call 159; refine hn.out.mono ?_; rintro e w1 ⟨rfl, rfl⟩)
  all_goals (go_ret; have hd := hD.out; clear hn hD; exact ⟨ret_int (by first | (simp [decF, hd]; done) | (simp [decF, hd, *]; done) | (simp [decF, hd, *]; decide)), rfl⟩)
 ·have b48 := bne_of h48
  go_wp2_with (go_at_call 159; refine hn.out.mono ?_; rintro e w1 ⟨rfl, rfl⟩)
  all_goals (go_ret; have hd := hD.out; clear hn hD; exact ⟨ret_int (by first | (simp [decF, hd]; done) | (simp [decF, hd, *]; done) | (simp [decF, hd, *]; decide)), rfl⟩)
theorem decF_3true (c : Int) (w : World) (hn : Hid (Calls Tryz.prog 159 #[.int .u8 c, .int .u64 10] w fun e w' => e = .returned (.bool true) ∧ w = w')) (hD : Hid (isD c = true)) : Calls Tryz.prog 128 #[.int .i64 3, .int .u8 c] w fun e w' => e = .returned (.int .i64 (decF 3 c)) ∧ w = w' := by
 go_enter Tryz.func128, Tryz.ntmps128
 by_cases h48 : c = 48
 ·subst h48
  go_wp2_with (go_at_call 159; refine hn.out.mono ?_; rintro e w1 ⟨rfl, rfl⟩)
  all_goals (go_ret; have hd := hD.out; clear hn hD; exact ⟨ret_int (by first | (simp [decF, hd]; done) | (simp [decF, hd, *]; done) | (simp [decF, hd, *]; decide)), rfl⟩)
 ·have b48 := bne_of h48
  go_wp2_with (go_at_call 159; refine hn.out.mono ?_; rintro e w1 ⟨rfl, rfl⟩)
  all_goals (go_ret; have hd := hD.out; clear hn hD; exact ⟨ret_int (by first | (simp [decF, hd]; done) | (simp [decF, hd, *]; done) | (simp [decF, hd, *]; decide)), rfl⟩)
theorem decF_3false (c : Int) (w : World) (hn : Hid (Calls Tryz.prog 159 #[.int .u8 c, .int .u64 10] w fun e w' => e = .returned (.bool false) ∧ w = w')) (hD : Hid (isD c = false)) : Calls Tryz.prog 128 #[.int .i64 3, .int .u8 c] w fun e w' => e = .returned (.int .i64 (decF 3 c)) ∧ w = w' := by
 go_enter Tryz.func128, Tryz.ntmps128
 by_cases h48 : c = 48
 ·subst h48
  go_wp2_with (go_at_call 159; refine hn.out.mono ?_; rintro e w1 ⟨rfl, rfl⟩)
  all_goals (go_ret; have hd := hD.out; clear hn hD; exact ⟨ret_int (by first | (simp [decF, hd]; done) | (simp [decF, hd, *]; done) | (simp [decF, hd, *]; decide)), rfl⟩)
 ·have b48 := bne_of h48
  go_wp2_with (go_at_call 159; refine hn.out.mono ?_; rintro e w1 ⟨rfl, rfl⟩)
  all_goals (go_ret; have hd := hD.out; clear hn hD; exact ⟨ret_int (by first | (simp [decF, hd]; done) | (simp [decF, hd, *]; done) | (simp [decF, hd, *]; decide)), rfl⟩)
theorem decF_4true (c : Int) (w : World) (hn : Hid (Calls Tryz.prog 159 #[.int .u8 c, .int .u64 10] w fun e w' => e = .returned (.bool true) ∧ w = w')) (hD : Hid (isD c = true)) : Calls Tryz.prog 128 #[.int .i64 4, .int .u8 c] w fun e w' => e = .returned (.int .i64 (decF 4 c)) ∧ w = w' := by
 go_enter Tryz.func128, Tryz.ntmps128
 by_cases h48 : c = 48
 ·subst h48
  go_wp2_with (go_at_call 159; refine hn.out.mono ?_; rintro e w1 ⟨rfl, rfl⟩)
  all_goals (go_ret; have hd := hD.out; clear hn hD; exact ⟨ret_int (by first | (simp [decF, hd]; done) | (simp [decF, hd, *]; done) | (simp [decF, hd, *]; decide)), rfl⟩)
 ·have b48 := bne_of h48
  go_wp2_with (go_at_call 159; refine hn.out.mono ?_; rintro e w1 ⟨rfl, rfl⟩)
  all_goals (go_ret; have hd := hD.out; clear hn hD; exact ⟨ret_int (by first | (simp [decF, hd]; done) | (simp [decF, hd, *]; done) | (simp [decF, hd, *]; decide)), rfl⟩)
theorem decF_4false (c : Int) (w : World) (hn : Hid (Calls Tryz.prog 159 #[.int .u8 c, .int .u64 10] w fun e w' => e = .returned (.bool false) ∧ w = w')) (hD : Hid (isD c = false)) : Calls Tryz.prog 128 #[.int .i64 4, .int .u8 c] w fun e w' => e = .returned (.int .i64 (decF 4 c)) ∧ w = w' := by
 go_enter Tryz.func128, Tryz.ntmps128
 by_cases h48 : c = 48
 ·subst h48
  go_wp2_with (go_at_call 159; refine hn.out.mono ?_; rintro e w1 ⟨rfl, rfl⟩)
  all_goals (go_ret; have hd := hD.out; clear hn hD; exact ⟨ret_int (by first | (simp [decF, hd]; done) | (simp [decF, hd, *]; done) | (simp [decF, hd, *]; decide)), rfl⟩)
 ·have b48 := bne_of h48
  go_wp2_with (go_at_call 159; refine hn.out.mono ?_; rintro e w1 ⟨rfl, rfl⟩)
  all_goals (go_ret; have hd := hD.out; clear hn hD; exact ⟨ret_int (by first | (simp [decF, hd]; done) | (simp [decF, hd, *]; done) | (simp [decF, hd, *]; decide)), rfl⟩)
theorem decF_5true (c : Int) (w : World) (hn : Hid (Calls Tryz.prog 159 #[.int .u8 c, .int .u64 10] w fun e w' => e = .returned (.bool true) ∧ w = w')) (hD : Hid (isD c = true)) : Calls Tryz.prog 128 #[.int .i64 5, .int .u8 c] w fun e w' => e = .returned (.int .i64 (decF 5 c)) ∧ w = w' := by
 go_enter Tryz.func128, Tryz.ntmps128
 by_cases h48 : c = 48
 ·subst h48
  go_wp2_with (go_at_call 159; refine hn.out.mono ?_; rintro e w1 ⟨rfl, rfl⟩)
  all_goals (go_ret; have hd := hD.out; clear hn hD; exact ⟨ret_int (by first | (simp [decF, hd]; done) | (simp [decF, hd, *]; done) | (simp [decF, hd, *]; decide)), rfl⟩)
 ·have b48 := bne_of h48
  go_wp2_with (go_at_call 159; refine hn.out.mono ?_; rintro e w1 ⟨rfl, rfl⟩)
  all_goals (go_ret; have hd := hD.out; clear hn hD; exact ⟨ret_int (by first | (simp [decF, hd]; done) | (simp [decF, hd, *]; done) | (simp [decF, hd, *]; decide)), rfl⟩)
theorem decF_5false (c : Int) (w : World) (hn : Hid (Calls Tryz.prog 159 #[.int .u8 c, .int .u64 10] w fun e w' => e = .returned (.bool false) ∧ w = w')) (hD : Hid (isD c = false)) : Calls Tryz.prog 128 #[.int .i64 5, .int .u8 c] w fun e w' => e = .returned (.int .i64 (decF 5 c)) ∧ w = w' := by
 go_enter Tryz.func128, Tryz.ntmps128
 by_cases h48 : c = 48
 ·subst h48
  go_wp2_with (go_at_call 159; refine hn.out.mono ?_; rintro e w1 ⟨rfl, rfl⟩)
  all_goals (go_ret; have hd := hD.out; clear hn hD; exact ⟨ret_int (by first | (simp [decF, hd]; done) | (simp [decF, hd, *]; done) | (simp [decF, hd, *]; decide)), rfl⟩)
 ·have b48 := bne_of h48
  go_wp2_with (go_at_call 159; refine hn.out.mono ?_; rintro e w1 ⟨rfl, rfl⟩)
  all_goals (go_ret; have hd := hD.out; clear hn hD; exact ⟨ret_int (by first | (simp [decF, hd]; done) | (simp [decF, hd, *]; done) | (simp [decF, hd, *]; decide)), rfl⟩)
theorem decF_6true (c : Int) (w : World) (hn : Hid (Calls Tryz.prog 159 #[.int .u8 c, .int .u64 10] w fun e w' => e = .returned (.bool true) ∧ w = w')) (hD : Hid (isD c = true)) : Calls Tryz.prog 128 #[.int .i64 6, .int .u8 c] w fun e w' => e = .returned (.int .i64 (decF 6 c)) ∧ w = w' := by
 go_enter Tryz.func128, Tryz.ntmps128
 by_cases h48 : c = 48
 ·subst h48
  go_wp2_with (go_at_call 159; refine hn.out.mono ?_; rintro e w1 ⟨rfl, rfl⟩)
  all_goals (go_ret; have hd := hD.out; clear hn hD; exact ⟨ret_int (by first | (simp [decF, hd]; done) | (simp [decF, hd, *]; done) | (simp [decF, hd, *]; decide)), rfl⟩)
 ·have b48 := bne_of h48
  go_wp2_with (go_at_call 159; refine hn.out.mono ?_; rintro e w1 ⟨rfl, rfl⟩)
  all_goals (go_ret; have hd := hD.out; clear hn hD; exact ⟨ret_int (by first | (simp [decF, hd]; done) | (simp [decF, hd, *]; done) | (simp [decF, hd, *]; decide)), rfl⟩)
theorem decF_6false (c : Int) (w : World) (hn : Hid (Calls Tryz.prog 159 #[.int .u8 c, .int .u64 10] w fun e w' => e = .returned (.bool false) ∧ w = w')) (hD : Hid (isD c = false)) : Calls Tryz.prog 128 #[.int .i64 6, .int .u8 c] w fun e w' => e = .returned (.int .i64 (decF 6 c)) ∧ w = w' := by
 go_enter Tryz.func128, Tryz.ntmps128
 by_cases h48 : c = 48
 ·subst h48
  go_wp2_with (go_at_call 159; refine hn.out.mono ?_; rintro e w1 ⟨rfl, rfl⟩)
  all_goals (go_ret; have hd := hD.out; clear hn hD; exact ⟨ret_int (by first | (simp [decF, hd]; done) | (simp [decF, hd, *]; done) | (simp [decF, hd, *]; decide)), rfl⟩)
 ·have b48 := bne_of h48
  go_wp2_with (go_at_call 159; refine hn.out.mono ?_; rintro e w1 ⟨rfl, rfl⟩)
  all_goals (go_ret; have hd := hD.out; clear hn hD; exact ⟨ret_int (by first | (simp [decF, hd]; done) | (simp [decF, hd, *]; done) | (simp [decF, hd, *]; decide)), rfl⟩)
theorem decF_7true (c : Int) (w : World) (hn : Hid (Calls Tryz.prog 159 #[.int .u8 c, .int .u64 10] w fun e w' => e = .returned (.bool true) ∧ w = w')) (hD : Hid (isD c = true)) : Calls Tryz.prog 128 #[.int .i64 7, .int .u8 c] w fun e w' => e = .returned (.int .i64 (decF 7 c)) ∧ w = w' := by
 go_enter Tryz.func128, Tryz.ntmps128
 by_cases h48 : c = 48
 ·subst h48
  go_wp2_with (go_at_call 159; refine hn.out.mono ?_; rintro e w1 ⟨rfl, rfl⟩)
  all_goals (go_ret; have hd := hD.out; clear hn hD; exact ⟨ret_int (by first | (simp [decF, hd]; done) | (simp [decF, hd, *]; done) | (simp [decF, hd, *]; decide)), rfl⟩)
 ·have b48 := bne_of h48
  go_wp2_with (go_at_call 159; refine hn.out.mono ?_; rintro e w1 ⟨rfl, rfl⟩)
  all_goals (go_ret; have hd := hD.out; clear hn hD; exact ⟨ret_int (by first | (simp [decF, hd]; done) | (simp [decF, hd, *]; done) | (simp [decF, hd, *]; decide)), rfl⟩)
theorem decF_7false (c : Int) (w : World) (hn : Hid (Calls Tryz.prog 159 #[.int .u8 c, .int .u64 10] w fun e w' => e = .returned (.bool false) ∧ w = w')) (hD : Hid (isD c = false)) : Calls Tryz.prog 128 #[.int .i64 7, .int .u8 c] w fun e w' => e = .returned (.int .i64 (decF 7 c)) ∧ w = w' := by
 go_enter Tryz.func128, Tryz.ntmps128
 by_cases h48 : c = 48
 ·subst h48
  go_wp2_with (go_at_call 159; refine hn.out.mono ?_; rintro e w1 ⟨rfl, rfl⟩)
  all_goals (go_ret; have hd := hD.out; clear hn hD; exact ⟨ret_int (by first | (simp [decF, hd]; done) | (simp [decF, hd, *]; done) | (simp [decF, hd, *]; decide)), rfl⟩)
 ·have b48 := bne_of h48
  go_wp2_with (go_at_call 159; refine hn.out.mono ?_; rintro e w1 ⟨rfl, rfl⟩)
  all_goals (go_ret; have hd := hD.out; clear hn hD; exact ⟨ret_int (by first | (simp [decF, hd]; done) | (simp [decF, hd, *]; done) | (simp [decF, hd, *]; decide)), rfl⟩)
theorem decF_8true (c : Int) (w : World) (hn : Hid (Calls Tryz.prog 159 #[.int .u8 c, .int .u64 10] w fun e w' => e = .returned (.bool true) ∧ w = w')) (hD : Hid (isD c = true)) : Calls Tryz.prog 128 #[.int .i64 8, .int .u8 c] w fun e w' => e = .returned (.int .i64 (decF 8 c)) ∧ w = w' := by
 go_enter Tryz.func128, Tryz.ntmps128
 by_cases h48 : c = 48
 ·subst h48
  go_wp2_with (go_at_call 159; refine hn.out.mono ?_; rintro e w1 ⟨rfl, rfl⟩)
  all_goals (go_ret; have hd := hD.out; clear hn hD; exact ⟨ret_int (by first | (simp [decF, hd]; done) | (simp [decF, hd, *]; done) | (simp [decF, hd, *]; decide)), rfl⟩)
 ·have b48 := bne_of h48
  go_wp2_with (go_at_call 159; refine hn.out.mono ?_; rintro e w1 ⟨rfl, rfl⟩)
  all_goals (go_ret; have hd := hD.out; clear hn hD; exact ⟨ret_int (by first | (simp [decF, hd]; done) | (simp [decF, hd, *]; done) | (simp [decF, hd, *]; decide)), rfl⟩)
theorem decF_8false (c : Int) (w : World) (hn : Hid (Calls Tryz.prog 159 #[.int .u8 c, .int .u64 10] w fun e w' => e = .returned (.bool false) ∧ w = w')) (hD : Hid (isD c = false)) : Calls Tryz.prog 128 #[.int .i64 8, .int .u8 c] w fun e w' => e = .returned (.int .i64 (decF 8 c)) ∧ w = w' := by
 go_enter Tryz.func128, Tryz.ntmps128
 by_cases h48 : c = 48
 ·subst h48
  go_wp2_with (go_at_call 159; refine hn.out.mono ?_; rintro e w1 ⟨rfl, rfl⟩)
  all_goals (go_ret; have hd := hD.out; clear hn hD; exact ⟨ret_int (by first | (simp [decF, hd]; done) | (simp [decF, hd, *]; done) | (simp [decF, hd, *]; decide)), rfl⟩)
 ·have b48 := bne_of h48
  go_wp2_with (go_at_call 159; refine hn.out.mono ?_; rintro e w1 ⟨rfl, rfl⟩)
  all_goals (go_ret; have hd := hD.out; clear hn hD; exact ⟨ret_int (by first | (simp [decF, hd]; done) | (simp [decF, hd, *]; done) | (simp [decF, hd, *]; decide)), rfl⟩)
theorem hexF_9true (c : Int) (w : World) (hn : Hid (Calls Tryz.prog 159 #[.int .u8 c, .int .u64 16] w fun e w' => e = .returned (.bool true) ∧ w = w')) (hD : Hid (isH c = true)) : Calls Tryz.prog 127 #[.int .i64 9, .int .u8 c] w fun e w' => e = .returned (.int .i64 (hexF 9 c)) ∧ w = w' := by
 go_enter Tryz.func127, Tryz.ntmps127
 by_cases h48 : c = 48
 ·subst h48
  go_wp2_with (go_at_call 159; refine hn.out.mono ?_; rintro e w1 ⟨rfl, rfl⟩)
  all_goals (go_ret; have hd := hD.out; clear hn hD; exact ⟨ret_int (by first | (simp [hexF, hd]; done) | (simp [hexF, hd, *]; done) | (simp [hexF, hd, *]; decide)), rfl⟩)
 ·have b48 := bne_of h48
  go_wp2_with (go_at_call 159; refine hn.out.mono ?_; rintro e w1 ⟨rfl, rfl⟩)
  all_goals (go_ret; have hd := hD.out; clear hn hD; exact ⟨ret_int (by first | (simp [hexF, hd]; done) | (simp [hexF, hd, *]; done) | (simp [hexF, hd, *]; decide)), rfl⟩)
theorem hexF_9false (c : Int) (w : World) (hn : Hid (Calls Tryz.prog 159 #[.int .u8 c, .int .u64 16] w fun e w' => e = .returned (.bool false) ∧ w = w')) (hD : Hid (isH c = false)) : Calls Tryz.prog 127 #[.int .i64 9, .int .u8 c] w fun e w' => e = .returned (.int .i64 (hexF 9 c)) ∧ w = w' := by
 go_enter Tryz.func127, Tryz.ntmps127
 by_cases h48 : c = 48
 ·subst h48
  go_wp2_with (go_at_call 159; refine hn.out.mono ?_; rintro e w1 ⟨rfl, rfl⟩)
  all_goals (go_ret; have hd := hD.out; clear hn hD; exact ⟨ret_int (by first | (simp [hexF, hd]; done) | (simp [hexF, hd, *]; done) | (simp [hexF, hd, *]; decide)), rfl⟩)
 ·have b48 := bne_of h48
  go_wp2_with (go_at_call 159; refine hn.out.mono ?_; rintro e w1 ⟨rfl, rfl⟩)
  all_goals (go_ret; have hd := hD.out; clear hn hD; exact ⟨ret_int (by first | (simp [hexF, hd]; done) | (simp [hexF, hd, *]; done) | (simp [hexF, hd, *]; decide)), rfl⟩)
theorem hexF_10true (c : Int) (w : World) (hn : Hid (Calls Tryz.prog 159 #[.int .u8 c, .int .u64 16] w fun e w' => e = .returned (.bool true) ∧ w = w')) (hD : Hid (isH c = true)) : Calls Tryz.prog 127 #[.int .i64 10, .int .u8 c] w fun e w' => e = .returned (.int .i64 (hexF 10 c)) ∧ w = w' := by
 go_enter Tryz.func127, Tryz.ntmps127
 by_cases h48 : c = 48
 ·subst h48
  go_wp2_with (go_at_call 159; refine hn.out.mono ?_; rintro e w1 ⟨rfl, rfl⟩)
  all_goals (go_ret; have hd := hD.out; clear hn hD; exact ⟨ret_int (by first | (simp [hexF, hd]; done) | (simp [hexF, hd, *]; done) | (simp [hexF, hd, *]; decide)), rfl⟩)
 ·have b48 := bne_of h48
  go_wp2_with (go_at_call 159; refine hn.out.mono ?_; rintro e w1 ⟨rfl, rfl⟩)
  all_goals (go_ret; have hd := hD.out; clear hn hD; exact ⟨ret_int (by first | (simp [hexF, hd]; done) | (simp [hexF, hd, *]; done) | (simp [hexF, hd, *]; decide)), rfl⟩)
theorem hexF_10false (c : Int) (w : World) (hn : Hid (Calls Tryz.prog 159 #[.int .u8 c, .int .u64 16] w fun e w' => e = .returned (.bool false) ∧ w = w')) (hD : Hid (isH c = false)) : Calls Tryz.prog 127 #[.int .i64 10, .int .u8 c] w fun e w' => e = .returned (.int .i64 (hexF 10 c)) ∧ w = w' := by
 go_enter Tryz.func127, Tryz.ntmps127
 by_cases h48 : c = 48
 ·subst h48
  go_wp2_with (go_at_call 159; refine hn.out.mono ?_; rintro e w1 ⟨rfl, rfl⟩)
  all_goals (go_ret; have hd := hD.out; clear hn hD; exact ⟨ret_int (by first | (simp [hexF, hd]; done) | (simp [hexF, hd, *]; done) | (simp [hexF, hd, *]; decide)), rfl⟩)
 ·have b48 := bne_of h48
  go_wp2_with (go_at_call 159; refine hn.out.mono ?_; rintro e w1 ⟨rfl, rfl⟩)
  all_goals (go_ret; have hd := hD.out; clear hn hD; exact ⟨ret_int (by first | (simp [hexF, hd]; done) | (simp [hexF, hd, *]; done) | (simp [hexF, hd, *]; decide)), rfl⟩)
theorem hexF_11true (c : Int) (w : World) (hn : Hid (Calls Tryz.prog 159 #[.int .u8 c, .int .u64 16] w fun e w' => e = .returned (.bool true) ∧ w = w')) (hD : Hid (isH c = true)) : Calls Tryz.prog 127 #[.int .i64 11, .int .u8 c] w fun e w' => e = .returned (.int .i64 (hexF 11 c)) ∧ w = w' := by
 go_enter Tryz.func127, Tryz.ntmps127
 by_cases h48 : c = 48
 ·subst h48
  go_wp2_with (go_at_call 159; refine hn.out.mono ?_; rintro e w1 ⟨rfl, rfl⟩)
  all_goals (go_ret; have hd := hD.out; clear hn hD; exact ⟨ret_int (by first | (simp [hexF, hd]; done) | (simp [hexF, hd, *]; done) | (simp [hexF, hd, *]; decide)), rfl⟩)
 ·have b48 := bne_of h48
  go_wp2_with (go_at_call 159; refine hn.out.mono ?_; rintro e w1 ⟨rfl, rfl⟩)
  all_goals (go_ret; have hd := hD.out; clear hn hD; exact ⟨ret_int (by first | (simp [hexF, hd]; done) | (simp [hexF, hd, *]; done) | (simp [hexF, hd, *]; decide)), rfl⟩)
theorem hexF_11false (c : Int) (w : World) (hn : Hid (Calls Tryz.prog 159 #[.int .u8 c, .int .u64 16] w fun e w' => e = .returned (.bool false) ∧ w = w')) (hD : Hid (isH c = false)) : Calls Tryz.prog 127 #[.int .i64 11, .int .u8 c] w fun e w' => e = .returned (.int .i64 (hexF 11 c)) ∧ w = w' := by
 go_enter Tryz.func127, Tryz.ntmps127
 by_cases h48 : c = 48
 ·subst h48
  go_wp2_with (go_at_call 159; refine hn.out.mono ?_; rintro e w1 ⟨rfl, rfl⟩)
  all_goals (go_ret; have hd := hD.out; clear hn hD; exact ⟨ret_int (by first | (simp [hexF, hd]; done) | (simp [hexF, hd, *]; done) | (simp [hexF, hd, *]; decide)), rfl⟩)
 ·have b48 := bne_of h48
  go_wp2_with (go_at_call 159; refine hn.out.mono ?_; rintro e w1 ⟨rfl, rfl⟩)
  all_goals (go_ret; have hd := hD.out; clear hn hD; exact ⟨ret_int (by first | (simp [hexF, hd]; done) | (simp [hexF, hd, *]; done) | (simp [hexF, hd, *]; decide)), rfl⟩)
theorem hexF_12true (c : Int) (w : World) (hn : Hid (Calls Tryz.prog 159 #[.int .u8 c, .int .u64 16] w fun e w' => e = .returned (.bool true) ∧ w = w')) (hD : Hid (isH c = true)) : Calls Tryz.prog 127 #[.int .i64 12, .int .u8 c] w fun e w' => e = .returned (.int .i64 (hexF 12 c)) ∧ w = w' := by
 go_enter Tryz.func127, Tryz.ntmps127
 by_cases h48 : c = 48
 ·subst h48
  go_wp2_with (go_at_call 159; refine hn.out.mono ?_; rintro e w1 ⟨rfl, rfl⟩)
  all_goals (go_ret; have hd := hD.out; clear hn hD; exact ⟨ret_int (by first | (simp [hexF, hd]; done) | (simp [hexF, hd, *]; done) | (simp [hexF, hd, *]; decide)), rfl⟩)
 ·have b48 := bne_of h48
  go_wp2_with (go_at_call 159; refine hn.out.mono ?_; rintro e w1 ⟨rfl, rfl⟩)
  all_goals (go_ret; have hd := hD.out; clear hn hD; exact ⟨ret_int (by first | (simp [hexF, hd]; done) | (simp [hexF, hd, *]; done) | (simp [hexF, hd, *]; decide)), rfl⟩)
theorem hexF_12false (c : Int) (w : World) (hn : Hid (Calls Tryz.prog 159 #[.int .u8 c, .int .u64 16] w fun e w' => e = .returned (.bool false) ∧ w = w')) (hD : Hid (isH c = false)) : Calls Tryz.prog 127 #[.int .i64 12, .int .u8 c] w fun e w' => e = .returned (.int .i64 (hexF 12 c)) ∧ w = w' := by
 go_enter Tryz.func127, Tryz.ntmps127
 by_cases h48 : c = 48
 ·subst h48
  go_wp2_with (go_at_call 159; refine hn.out.mono ?_; rintro e w1 ⟨rfl, rfl⟩)
  all_goals (go_ret; have hd := hD.out; clear hn hD; exact ⟨ret_int (by first | (simp [hexF, hd]; done) | (simp [hexF, hd, *]; done) | (simp [hexF, hd, *]; decide)), rfl⟩)
 ·have b48 := bne_of h48
  go_wp2_with (go_at_call 159; refine hn.out.mono ?_; rintro e w1 ⟨rfl, rfl⟩)
  all_goals (go_ret; have hd := hD.out; clear hn hD; exact ⟨ret_int (by first | (simp [hexF, hd]; done) | (simp [hexF, hd, *]; done) | (simp [hexF, hd, *]; decide)), rfl⟩)
theorem hexF_13true (c : Int) (w : World) (hn : Hid (Calls Tryz.prog 159 #[.int .u8 c, .int .u64 10] w fun e w' => e = .returned (.bool true) ∧ w = w')) (hD : Hid (isD c = true)) : Calls Tryz.prog 127 #[.int .i64 13, .int .u8 c] w fun e w' => e = .returned (.int .i64 (hexF 13 c)) ∧ w = w' := by
 go_enter Tryz.func127, Tryz.ntmps127
 by_cases h48 : c = 48
 ·subst h48
  go_wp2_with (go_at_call 159; refine hn.out.mono ?_; rintro e w1 ⟨rfl, rfl⟩)
  all_goals (go_ret; have hd := hD.out; clear hn hD; exact ⟨ret_int (by first | (simp [hexF, hd]; done) | (simp [hexF, hd, *]; done) | (simp [hexF, hd, *]; decide)), rfl⟩)
 ·have b48 := bne_of h48
  go_wp2_with (go_at_call 159; refine hn.out.mono ?_; rintro e w1 ⟨rfl, rfl⟩)
  all_goals (go_ret; have hd := hD.out; clear hn hD; exact ⟨ret_int (by first | (simp [hexF, hd]; done) | (simp [hexF, hd, *]; done) | (simp [hexF, hd, *]; decide)), rfl⟩)
theorem hexF_13false (c : Int) (w : World) (hn : Hid (Calls Tryz.prog 159 #[.int .u8 c, .int .u64 10] w fun e w' => e = .returned (.bool false) ∧ w = w')) (hD : Hid (isD c = false)) : Calls Tryz.prog 127 #[.int .i64 13, .int .u8 c] w fun e w' => e = .returned (.int .i64 (hexF 13 c)) ∧ w = w' := by
 go_enter Tryz.func127, Tryz.ntmps127
 by_cases h48 : c = 48
 ·subst h48
  go_wp2_with (go_at_call 159; refine hn.out.mono ?_; rintro e w1 ⟨rfl, rfl⟩)
  all_goals (go_ret; have hd := hD.out; clear hn hD; exact ⟨ret_int (by first | (simp [hexF, hd]; done) | (simp [hexF, hd, *]; done) | (simp [hexF, hd, *]; decide)), rfl⟩)
 ·have b48 := bne_of h48
  go_wp2_with (go_at_call 159; refine hn.out.mono ?_; rintro e w1 ⟨rfl, rfl⟩)
  all_goals (go_ret; have hd := hD.out; clear hn hD; exact ⟨ret_int (by first | (simp [hexF, hd]; done) | (simp [hexF, hd, *]; done) | (simp [hexF, hd, *]; decide)), rfl⟩)
theorem hexF_14true (c : Int) (w : World) (hn : Hid (Calls Tryz.prog 159 #[.int .u8 c, .int .u64 10] w fun e w' => e = .returned (.bool true) ∧ w = w')) (hD : Hid (isD c = true)) : Calls Tryz.prog 127 #[.int .i64 14, .int .u8 c] w fun e w' => e = .returned (.int .i64 (hexF 14 c)) ∧ w = w' := by
 go_enter Tryz.func127, Tryz.ntmps127
 by_cases h48 : c = 48
 ·subst h48
  go_wp2_with (go_at_call 159; refine hn.out.mono ?_; rintro e w1 ⟨rfl, rfl⟩)
  all_goals (go_ret; have hd := hD.out; clear hn hD; exact ⟨ret_int (by first | (simp [hexF, hd]; done) | (simp [hexF, hd, *]; done) | (simp [hexF, hd, *]; decide)), rfl⟩)
 ·have b48 := bne_of h48
  go_wp2_with (go_at_call 159; refine hn.out.mono ?_; rintro e w1 ⟨rfl, rfl⟩)
  all_goals (go_ret; have hd := hD.out; clear hn hD; exact ⟨ret_int (by first | (simp [hexF, hd]; done) | (simp [hexF, hd, *]; done) | (simp [hexF, hd, *]; decide)), rfl⟩)
theorem hexF_14false (c : Int) (w : World) (hn : Hid (Calls Tryz.prog 159 #[.int .u8 c, .int .u64 10] w fun e w' => e = .returned (.bool false) ∧ w = w')) (hD : Hid (isD c = false)) : Calls Tryz.prog 127 #[.int .i64 14, .int .u8 c] w fun e w' => e = .returned (.int .i64 (hexF 14 c)) ∧ w = w' := by
 go_enter Tryz.func127, Tryz.ntmps127
 by_cases h48 : c = 48
 ·subst h48
  go_wp2_with (go_at_call 159; refine hn.out.mono ?_; rintro e w1 ⟨rfl, rfl⟩)
  all_goals (go_ret; have hd := hD.out; clear hn hD; exact ⟨ret_int (by first | (simp [hexF, hd]; done) | (simp [hexF, hd, *]; done) | (simp [hexF, hd, *]; decide)), rfl⟩)
 ·have b48 := bne_of h48
  go_wp2_with (go_at_call 159; refine hn.out.mono ?_; rintro e w1 ⟨rfl, rfl⟩)
  all_goals (go_ret; have hd := hD.out; clear hn hD; exact ⟨ret_int (by first | (simp [hexF, hd]; done) | (simp [hexF, hd, *]; done) | (simp [hexF, hd, *]; decide)), rfl⟩)
theorem hexF_15true (c : Int) (w : World) (hn : Hid (Calls Tryz.prog 159 #[.int .u8 c, .int .u64 10] w fun e w' => e = .returned (.bool true) ∧ w = w')) (hD : Hid (isD c = true)) : Calls Tryz.prog 127 #[.int .i64 15, .int .u8 c] w fun e w' => e = .returned (.int .i64 (hexF 15 c)) ∧ w = w' := by
 go_enter Tryz.func127, Tryz.ntmps127
 by_cases h48 : c = 48
 ·subst h48
  go_wp2_with (go_at_call 159; refine hn.out.mono ?_; rintro e w1 ⟨rfl, rfl⟩)
  all_goals (go_ret; have hd := hD.out; clear hn hD; exact ⟨ret_int (by first | (simp [hexF, hd]; done) | (simp [hexF, hd, *]; done) | (simp [hexF, hd, *]; decide)), rfl⟩)
 ·have b48 := bne_of h48
  go_wp2_with (go_at_call 159; refine hn.out.mono ?_; rintro e w1 ⟨rfl, rfl⟩)
  all_goals (go_ret; have hd := hD.out; clear hn hD; exact ⟨ret_int (by first | (simp [hexF, hd]; done) | (simp [hexF, hd, *]; done) | (simp [hexF, hd, *]; decide)), rfl⟩)
theorem hexF_15false (c : Int) (w : World) (hn : Hid (Calls Tryz.prog 159 #[.int .u8 c, .int .u64 10] w fun e w' => e = .returned (.bool false) ∧ w = w')) (hD : Hid (isD c = false)) : Calls Tryz.prog 127 #[.int .i64 15, .int .u8 c] w fun e w' => e = .returned (.int .i64 (hexF 15 c)) ∧ w = w' := by
 go_enter Tryz.func127, Tryz.ntmps127
 by_cases h48 : c = 48
 ·subst h48
  go_wp2_with (go_at_call 159; refine hn.out.mono ?_; rintro e w1 ⟨rfl, rfl⟩)
  all_goals (go_ret; have hd := hD.out; clear hn hD; exact ⟨ret_int (by first | (simp [hexF, hd]; done) | (simp [hexF, hd, *]; done) | (simp [hexF, hd, *]; decide)), rfl⟩)
 ·have b48 := bne_of h48
  go_wp2_with (go_at_call 159; refine hn.out.mono ?_; rintro e w1 ⟨rfl, rfl⟩)
  all_goals (go_ret; have hd := hD.out; clear hn hD; exact ⟨ret_int (by first | (simp [hexF, hd]; done) | (simp [hexF, hd, *]; done) | (simp [hexF, hd, *]; decide)), rfl⟩)
theorem dec128 (st c : Int) (w : World) (hc : 0 ≤ c ∧ c ≤ 255) (hs : 0 ≤ st ∧ st ≤ 8) : Calls Tryz.prog 128 #[.int .i64 st, .int .u8 c] w fun e w' => e = .returned (.int .i64 (decF st c)) ∧ w = w' := by
 have hn := hid (num10 c w hc)
 have hs' : st = 0 ∨ st = 1 ∨ st = 2 ∨ st = 3 ∨ st = 4 ∨ st = 5 ∨ st = 6 ∨ st = 7 ∨ st = 8 := by omega
 cases hd : isD c
 ·rw [hd] at hn
  rcases hs' with rfl | rfl | rfl | rfl | rfl | rfl | rfl | rfl | rfl
  ·exact decF_0false c w hn (hid hd)
  ·exact decF_1false c w hn (hid hd)
  ·exact decF_2false c w hn (hid hd)
  ·exact decF_3false c w hn (hid hd)
  ·exact decF_4false c w hn (hid hd)
  ·exact decF_5false c w hn (hid hd)
  ·exact decF_6false c w hn (hid hd)
  ·exact decF_7false c w hn (hid hd)
  ·exact decF_8false c w hn (hid hd)
 ·rw [hd] at hn
  rcases hs' with rfl | rfl | rfl | rfl | rfl | rfl | rfl | rfl | rfl
  ·exact decF_0true c w hn (hid hd)
  ·exact decF_1true c w hn (hid hd)
  ·exact decF_2true c w hn (hid hd)
  ·exact decF_3true c w hn (hid hd)
  ·exact decF_4true c w hn (hid hd)
  ·exact decF_5true c w hn (hid hd)
  ·exact decF_6true c w hn (hid hd)
  ·exact decF_7true c w hn (hid hd)
  ·exact decF_8true c w hn (hid hd)
theorem hex127 (st c : Int) (w : World) (hc : 0 ≤ c ∧ c ≤ 255) (hs : 9 ≤ st ∧ st ≤ 15) : Calls Tryz.prog 127 #[.int .i64 st, .int .u8 c] w fun e w' => e = .returned (.int .i64 (hexF st c)) ∧ w = w' := by
 have hn := hid (num10 c w hc)
 have hm := hid (num16 c w hc)
 have hs' : (st = 9 ∨ st = 10 ∨ st = 11 ∨ st = 12) ∨ (st = 13 ∨ st = 14 ∨ st = 15) := by omega
 rcases hs' with hs' | hs'
 ·cases hd : isH c
  ·rw [hd] at hm
   rcases hs' with rfl | rfl | rfl | rfl
   ·exact hexF_9false c w hm (hid hd)
   ·exact hexF_10false c w hm (hid hd)
   ·exact hexF_11false c w hm (hid hd)
   ·exact hexF_12false c w hm (hid hd)
  ·rw [hd] at hm
   rcases hs' with rfl | rfl | rfl | rfl
   ·exact hexF_9true c w hm (hid hd)
   ·exact hexF_10true c w hm (hid hd)
   ·exact hexF_11true c w hm (hid hd)
   ·exact hexF_12true c w hm (hid hd)
 ·cases hd : isD c
  ·rw [hd] at hn
   rcases hs' with rfl | rfl | rfl
   ·exact hexF_13false c w hn (hid hd)
   ·exact hexF_14false c w hn (hid hd)
   ·exact hexF_15false c w hn (hid hd)
  ·rw [hd] at hn
   rcases hs' with rfl | rfl | rfl
   ·exact hexF_13true c w hn (hid hd)
   ·exact hexF_14true c w hn (hid hd)
   ·exact hexF_15true c w hn (hid hd)
end
end Go.Proofs.YtlgneiaenanfaaaGreatDoor
