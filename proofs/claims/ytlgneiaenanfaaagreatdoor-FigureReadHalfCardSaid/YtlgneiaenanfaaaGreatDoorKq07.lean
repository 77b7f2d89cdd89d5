/- Walks and plain laws, merged: FgB FgC FgD FgE. No condition. -/
import Derived.ScopeJumps
import Derived.WalkMore
import Derived.Test.YtlgneiaenanfaaaGreatDoorKq06
import Derived.Test.YtlgneiaenanfaaaGreatDoorShelf
import Derived.Laws.Externs
import Derived.Laws.BitsLemmas
import Derived.Laws.BitsAllLaws
import Derived.Laws.ResultCell
import Derived.Laws.ShiftsVarLaws
import Derived.Deep.QuietTactic
namespace Go.Proofs.YtlgneiaenanfaaaGreatDoor
open Go.RowKit
set_option linter.unusedVariables false
set_option linter.unusedSimpArgs false
set_option maxRecDepth 100000
set_option maxHeartbeats 64000000
section
set_option maxRecDepth 100000
theorem stepF_0 (c : Int) (w : World) (hs : Hid (Calls Tryz.prog 128 #[.int .i64 0, .int .u8 c] w fun e w' => e = .returned (.int .i64 (decF 0 c)) ∧ w = w')) : Calls Tryz.prog 98 #[.int .i64 0, .int .u8 c] w fun e w' => e = .returned (.int .i64 (stepF 0 c)) ∧ w = w' := by
 go_enter Tryz.func98, Tryz.ntmps98
 by_cases q110 : c = 110
 ·subst q110
  go_wp2_with (go_at_call 128; refine hs.out.mono ?_; rintro e w1 ⟨rfl, rfl⟩)
  all_goals (go_ret; clear hs; exact ⟨ret_int (by simp [stepF]), rfl⟩)
 ·have b110 := bne_of q110
  by_cases q105 : c = 105
  ·subst q105
   go_wp2_with (go_at_call 128; refine hs.out.mono ?_; rintro e w1 ⟨rfl, rfl⟩)
   all_goals (go_ret; clear hs; exact ⟨ret_int (by simp [stepF]), rfl⟩)
  ·have b105 := bne_of q105
   go_wp2_with (go_at_call 128; refine hs.out.mono ?_; rintro e w1 ⟨rfl, rfl⟩)
   all_goals (go_ret; clear hs; exact ⟨ret_int (by simp [stepF, q110, q105]), rfl⟩)
theorem stepF_1 (c : Int) (w : World) (hs : Hid (Calls Tryz.prog 128 #[.int .i64 1, .int .u8 c] w fun e w' => e = .returned (.int .i64 (decF 1 c)) ∧ w = w')) : Calls Tryz.prog 98 #[.int .i64 1, .int .u8 c] w fun e w' => e = .returned (.int .i64 (stepF 1 c)) ∧ w = w' := by
 go_enter Tryz.func98, Tryz.ntmps98
 by_cases q105 : c = 105
 ·subst q105
  go_wp2_with (go_at_call 128; refine hs.out.mono ?_; rintro e w1 ⟨rfl, rfl⟩)
  all_goals (go_ret; clear hs; exact ⟨ret_int (by simp [stepF]), rfl⟩)
 ·have b105 := bne_of q105
  go_wp2_with (go_at_call 128; refine hs.out.mono ?_; rintro e w1 ⟨rfl, rfl⟩)
  all_goals (go_ret; clear hs; exact ⟨ret_int (by simp [stepF, q105]), rfl⟩)
theorem stepF_2 (c : Int) (w : World) (hs : Hid (Calls Tryz.prog 128 #[.int .i64 2, .int .u8 c] w fun e w' => e = .returned (.int .i64 (decF 2 c)) ∧ w = w')) : Calls Tryz.prog 98 #[.int .i64 2, .int .u8 c] w fun e w' => e = .returned (.int .i64 (stepF 2 c)) ∧ w = w' := by
 go_enter Tryz.func98, Tryz.ntmps98
 go_wp2_with (go_at_call 128; refine hs.out.mono ?_; rintro e w1 ⟨rfl, rfl⟩)
 all_goals (go_ret; clear hs; exact ⟨ret_int (by simp [stepF]), rfl⟩)
theorem stepF_3 (c : Int) (w : World) (hs : Hid (Calls Tryz.prog 128 #[.int .i64 3, .int .u8 c] w fun e w' => e = .returned (.int .i64 (decF 3 c)) ∧ w = w')) : Calls Tryz.prog 98 #[.int .i64 3, .int .u8 c] w fun e w' => e = .returned (.int .i64 (stepF 3 c)) ∧ w = w' := by
 go_enter Tryz.func98, Tryz.ntmps98
 go_wp2_with (go_at_call 128; refine hs.out.mono ?_; rintro e w1 ⟨rfl, rfl⟩)
 all_goals (go_ret; clear hs; exact ⟨ret_int (by simp [stepF]), rfl⟩)
theorem stepF_4 (c : Int) (w : World) (hs : Hid (Calls Tryz.prog 128 #[.int .i64 4, .int .u8 c] w fun e w' => e = .returned (.int .i64 (decF 4 c)) ∧ w = w')) : Calls Tryz.prog 98 #[.int .i64 4, .int .u8 c] w fun e w' => e = .returned (.int .i64 (stepF 4 c)) ∧ w = w' := by
 go_enter Tryz.func98, Tryz.ntmps98
 go_wp2_with (go_at_call 128; refine hs.out.mono ?_; rintro e w1 ⟨rfl, rfl⟩)
 all_goals (go_ret; clear hs; exact ⟨ret_int (by simp [stepF]), rfl⟩)
theorem stepF_5 (c : Int) (w : World) (hs : Hid (Calls Tryz.prog 128 #[.int .i64 5, .int .u8 c] w fun e w' => e = .returned (.int .i64 (decF 5 c)) ∧ w = w')) : Calls Tryz.prog 98 #[.int .i64 5, .int .u8 c] w fun e w' => e = .returned (.int .i64 (stepF 5 c)) ∧ w = w' := by
 go_enter Tryz.func98, Tryz.ntmps98
 go_wp2_with (go_at_call 128; refine hs.out.mono ?_; rintro e w1 ⟨rfl, rfl⟩)
 all_goals (go_ret; clear hs; exact ⟨ret_int (by simp [stepF]), rfl⟩)
theorem stepF_6 (c : Int) (w : World) (hs : Hid (Calls Tryz.prog 128 #[.int .i64 6, .int .u8 c] w fun e w' => e = .returned (.int .i64 (decF 6 c)) ∧ w = w')) : Calls Tryz.prog 98 #[.int .i64 6, .int .u8 c] w fun e w' => e = .returned (.int .i64 (stepF 6 c)) ∧ w = w' := by
 go_enter Tryz.func98, Tryz.ntmps98
 go_wp2_with (go_at_call 128; refine hs.out.mono ?_; rintro e w1 ⟨rfl, rfl⟩)
 all_goals (go_ret; clear hs; exact ⟨ret_int (by simp [stepF]), rfl⟩)
theorem stepF_7 (c : Int) (w : World) (hs : Hid (Calls Tryz.prog 128 #[.int .i64 7, .int .u8 c] w fun e w' => e = .returned (.int .i64 (decF 7 c)) ∧ w = w')) : Calls Tryz.prog 98 #[.int .i64 7, .int .u8 c] w fun e w' => e = .returned (.int .i64 (stepF 7 c)) ∧ w = w' := by
 go_enter Tryz.func98, Tryz.ntmps98
 go_wp2_with (go_at_call 128; refine hs.out.mono ?_; rintro e w1 ⟨rfl, rfl⟩)
 all_goals (go_ret; clear hs; exact ⟨ret_int (by simp [stepF]), rfl⟩)
theorem stepF_8 (c : Int) (w : World) (hs : Hid (Calls Tryz.prog 128 #[.int .i64 8, .int .u8 c] w fun e w' => e = .returned (.int .i64 (decF 8 c)) ∧ w = w')) : Calls Tryz.prog 98 #[.int .i64 8, .int .u8 c] w fun e w' => e = .returned (.int .i64 (stepF 8 c)) ∧ w = w' := by
 go_enter Tryz.func98, Tryz.ntmps98
 go_wp2_with (go_at_call 128; refine hs.out.mono ?_; rintro e w1 ⟨rfl, rfl⟩)
 all_goals (go_ret; clear hs; exact ⟨ret_int (by simp [stepF]), rfl⟩)
theorem stepF_9 (c : Int) (w : World) (hs : Hid (Calls Tryz.prog 127 #[.int .i64 9, .int .u8 c] w fun e w' => e = .returned (.int .i64 (hexF 9 c)) ∧ w = w')) : Calls Tryz.prog 98 #[.int .i64 9, .int .u8 c] w fun e w' => e = .returned (.int .i64 (stepF 9 c)) ∧ w = w' := by
 go_enter Tryz.func98, Tryz.ntmps98
 go_wp2_with (go_at_call 127; refine hs.out.mono ?_; rintro e w1 ⟨rfl, rfl⟩)
 all_goals (go_ret; clear hs; exact ⟨ret_int (by simp [stepF]), rfl⟩)
theorem stepF_10 (c : Int) (w : World) (hs : Hid (Calls Tryz.prog 127 #[.int .i64 10, .int .u8 c] w fun e w' => e = .returned (.int .i64 (hexF 10 c)) ∧ w = w')) : Calls Tryz.prog 98 #[.int .i64 10, .int .u8 c] w fun e w' => e = .returned (.int .i64 (stepF 10 c)) ∧ w = w' := by
 go_enter Tryz.func98, Tryz.ntmps98
 go_wp2_with (go_at_call 127; refine hs.out.mono ?_; rintro e w1 ⟨rfl, rfl⟩)
 all_goals (go_ret; clear hs; exact ⟨ret_int (by simp [stepF]), rfl⟩)
theorem stepF_11 (c : Int) (w : World) (hs : Hid (Calls Tryz.prog 127 #[.int .i64 11, .int .u8 c] w fun e w' => e = .returned (.int .i64 (hexF 11 c)) ∧ w = w')) : Calls Tryz.prog 98 #[.int .i64 11, .int .u8 c] w fun e w' => e = .returned (.int .i64 (stepF 11 c)) ∧ w = w' := by
 go_enter Tryz.func98, Tryz.ntmps98
 go_wp2_with (go_at_call 127; refine hs.out.mono ?_; rintro e w1 ⟨rfl, rfl⟩)
 all_goals (go_ret; clear hs; exact ⟨ret_int (by simp [stepF]), rfl⟩)
theorem stepF_12 (c : Int) (w : World) (hs : Hid (Calls Tryz.prog 127 #[.int .i64 12, .int .u8 c] w fun e w' => e = .returned (.int .i64 (hexF 12 c)) ∧ w = w')) : Calls Tryz.prog 98 #[.int .i64 12, .int .u8 c] w fun e w' => e = .returned (.int .i64 (stepF 12 c)) ∧ w = w' := by
 go_enter Tryz.func98, Tryz.ntmps98
 go_wp2_with (go_at_call 127; refine hs.out.mono ?_; rintro e w1 ⟨rfl, rfl⟩)
 all_goals (go_ret; clear hs; exact ⟨ret_int (by simp [stepF]), rfl⟩)
theorem stepF_13 (c : Int) (w : World) (hs : Hid (Calls Tryz.prog 127 #[.int .i64 13, .int .u8 c] w fun e w' => e = .returned (.int .i64 (hexF 13 c)) ∧ w = w')) : Calls Tryz.prog 98 #[.int .i64 13, .int .u8 c] w fun e w' => e = .returned (.int .i64 (stepF 13 c)) ∧ w = w' := by
 go_enter Tryz.func98, Tryz.ntmps98
 go_wp2_with (go_at_call 127; refine hs.out.mono ?_; rintro e w1 ⟨rfl, rfl⟩)
 all_goals (go_ret; clear hs; exact ⟨ret_int (by simp [stepF]), rfl⟩)
theorem stepF_14 (c : Int) (w : World) (hs : Hid (Calls Tryz.prog 127 #[.int .i64 14, .int .u8 c] w fun e w' => e = .returned (.int .i64 (hexF 14 c)) ∧ w = w')) : Calls Tryz.prog 98 #[.int .i64 14, .int .u8 c] w fun e w' => e = .returned (.int .i64 (stepF 14 c)) ∧ w = w' := by
 go_enter Tryz.func98, Tryz.ntmps98
 go_wp2_with (go_at_call 127; refine hs.out.mono ?_; rintro e w1 ⟨rfl, rfl⟩)
 all_goals (go_ret; clear hs; exact ⟨ret_int (by simp [stepF]), rfl⟩)
theorem stepF_15 (c : Int) (w : World) (hs : Hid (Calls Tryz.prog 127 #[.int .i64 15, .int .u8 c] w fun e w' => e = .returned (.int .i64 (hexF 15 c)) ∧ w = w')) : Calls Tryz.prog 98 #[.int .i64 15, .int .u8 c] w fun e w' => e = .returned (.int .i64 (stepF 15 c)) ∧ w = w' := by
 go_enter Tryz.func98, Tryz.ntmps98
 go_wp2_with (go_at_call 127; refine hs.out.mono ?_; rintro e w1 ⟨rfl, rfl⟩)
 all_goals (go_ret; clear hs; exact ⟨ret_int (by simp [stepF]), rfl⟩)
theorem stepF_16 (c : Int) (w : World)  : Calls Tryz.prog 98 #[.int .i64 16, .int .u8 c] w fun e w' => e = .returned (.int .i64 (stepF 16 c)) ∧ w = w' := by
 go_enter Tryz.func98, Tryz.ntmps98
 by_cases q97 : c = 97
 ·subst q97
  go_wp2_with (fail)
  all_goals (go_ret; exact ⟨ret_int (by simp [stepF]), rfl⟩)
 ·have b97 := bne_of q97
  go_wp2_with (fail)
  all_goals (go_ret; exact ⟨ret_int (by simp [stepF, q97]), rfl⟩)
theorem stepF_17 (c : Int) (w : World)  : Calls Tryz.prog 98 #[.int .i64 17, .int .u8 c] w fun e w' => e = .returned (.int .i64 (stepF 17 c)) ∧ w = w' := by
 go_enter Tryz.func98, Tryz.ntmps98
 by_cases q110 : c = 110
 ·subst q110
  go_wp2_with (fail)
  all_goals (go_ret; exact ⟨ret_int (by simp [stepF]), rfl⟩)
 ·have b110 := bne_of q110
  go_wp2_with (fail)
  all_goals (go_ret; exact ⟨ret_int (by simp [stepF, q110]), rfl⟩)
theorem stepF_18 (c : Int) (w : World)  : Calls Tryz.prog 98 #[.int .i64 18, .int .u8 c] w fun e w' => e = .returned (.int .i64 (stepF 18 c)) ∧ w = w' := by
 go_enter Tryz.func98, Tryz.ntmps98
 go_wp2_with (fail)
 all_goals (go_ret; exact ⟨ret_int (by simp [stepF]), rfl⟩)
theorem stepF_19 (c : Int) (w : World)  : Calls Tryz.prog 98 #[.int .i64 19, .int .u8 c] w fun e w' => e = .returned (.int .i64 (stepF 19 c)) ∧ w = w' := by
 go_enter Tryz.func98, Tryz.ntmps98
 by_cases q110 : c = 110
 ·subst q110
  go_wp2_with (fail)
  all_goals (go_ret; exact ⟨ret_int (by simp [stepF]), rfl⟩)
 ·have b110 := bne_of q110
  go_wp2_with (fail)
  all_goals (go_ret; exact ⟨ret_int (by simp [stepF, q110]), rfl⟩)
theorem stepF_20 (c : Int) (w : World)  : Calls Tryz.prog 98 #[.int .i64 20, .int .u8 c] w fun e w' => e = .returned (.int .i64 (stepF 20 c)) ∧ w = w' := by
 go_enter Tryz.func98, Tryz.ntmps98
 by_cases q102 : c = 102
 ·subst q102
  go_wp2_with (fail)
  all_goals (go_ret; exact ⟨ret_int (by simp [stepF]), rfl⟩)
 ·have b102 := bne_of q102
  go_wp2_with (fail)
  all_goals (go_ret; exact ⟨ret_int (by simp [stepF, q102]), rfl⟩)
theorem stepF_21 (c : Int) (w : World)  : Calls Tryz.prog 98 #[.int .i64 21, .int .u8 c] w fun e w' => e = .returned (.int .i64 (stepF 21 c)) ∧ w = w' := by
 go_enter Tryz.func98, Tryz.ntmps98
 go_wp2_with (fail)
 all_goals (go_ret; exact ⟨ret_int (by simp [stepF]), rfl⟩)
theorem step98 (st c : Int) (w : World) (hc : 0 ≤ c ∧ c ≤ 255) (hs : 0 ≤ st ∧ st ≤ 21) : Calls Tryz.prog 98 #[.int .i64 st, .int .u8 c] w fun e w' => e = .returned (.int .i64 (stepF st c)) ∧ w = w' := by
 have h1 : st = 0 ∨ st = 1 ∨ st = 2 ∨ st = 3 ∨ st = 4 ∨ st = 5 ∨ st = 6 ∨ st = 7 ∨ st = 8 ∨ st = 9 ∨ st = 10 ∨ st = 11 ∨ st = 12 ∨ st = 13 ∨ st = 14 ∨ st = 15 ∨ st = 16 ∨ st = 17 ∨ st = 18 ∨ st = 19 ∨ st = 20 ∨ st = 21 := by omega
 rcases h1 with rfl | rfl | rfl | rfl | rfl | rfl | rfl | rfl | rfl | rfl | rfl | rfl | rfl | rfl | rfl | rfl | rfl | rfl | rfl | rfl | rfl | rfl
 ·exact stepF_0 c w (hid (dec128 0 c w hc (by omega)))
 ·exact stepF_1 c w (hid (dec128 1 c w hc (by omega)))
 ·exact stepF_2 c w (hid (dec128 2 c w hc (by omega)))
 ·exact stepF_3 c w (hid (dec128 3 c w hc (by omega)))
 ·exact stepF_4 c w (hid (dec128 4 c w hc (by omega)))
 ·exact stepF_5 c w (hid (dec128 5 c w hc (by omega)))
 ·exact stepF_6 c w (hid (dec128 6 c w hc (by omega)))
 ·exact stepF_7 c w (hid (dec128 7 c w hc (by omega)))
 ·exact stepF_8 c w (hid (dec128 8 c w hc (by omega)))
 ·exact stepF_9 c w (hid (hex127 9 c w hc (by omega)))
 ·exact stepF_10 c w (hid (hex127 10 c w hc (by omega)))
 ·exact stepF_11 c w (hid (hex127 11 c w hc (by omega)))
 ·exact stepF_12 c w (hid (hex127 12 c w hc (by omega)))
 ·exact stepF_13 c w (hid (hex127 13 c w hc (by omega)))
 ·exact stepF_14 c w (hid (hex127 14 c w hc (by omega)))
 ·exact stepF_15 c w (hid (hex127 15 c w hc (by omega)))
 ·exact stepF_16 c w
 ·exact stepF_17 c w
 ·exact stepF_18 c w
 ·exact stepF_19 c w
 ·exact stepF_20 c w
 ·exact stepF_21 c w
theorem decF_bd (st c : Int) : decF st c = 22 ∨ (0 ≤ decF st c ∧ decF st c ≤ 21) := by
 unfold decF
 (repeat' split) <;> omega
theorem hexF_bd (st c : Int) : hexF st c = 22 ∨ (0 ≤ hexF st c ∧ hexF st c ≤ 21) := by
 unfold hexF
 (repeat' split) <;> omega
theorem stepF_bd (st c : Int) : stepF st c = 22 ∨ (0 ≤ stepF st c ∧ stepF st c ≤ 21) := by
 have h1 := decF_bd st c
 have h2 := hexF_bd st c
 unfold stepF
 generalize decF st c = x at *
 generalize hexF st c = y at *
 by_cases q1 : st = 0 ∧ c = 110
 ·rw [if_pos q1]; omega
 rw [if_neg q1]
 by_cases q2 : st = 16 ∧ c = 97
 ·rw [if_pos q2]; omega
 rw [if_neg q2]
 (repeat' split) <;> first | omega | skip
def bI (s : ByteArray) : List Int := s.data.toList.map fun c => (c.toNat : Int)
theorem bI_len (s : ByteArray) : (bI s).length = s.size := by simp [bI]
theorem bI_drop (s : ByteArray) (k : Nat) (h : k < s.size) : (bI s).drop k = (s[k].toNat : Int) :: (bI s).drop (k + 1) := by
 have hl : k < (bI s).length := by rw [bI_len]; exact h
 rw [List.drop_eq_getElem_cons hl]
 congr 1
 simp only [bI, List.getElem_map]
 rfl
def scV : Option Nat → Int × Bool
 | none => (0, true)
 | some p => (p, false)
theorem jumps {P : Program} {a : Act} {w : World} {Q : Exit → Act → World → Prop} {c rest : Code} (l : Nat) (J : Act → World → Prop) (μ : Act → World → Nat) (hf : findLabel c l = some (Code.skip.seq rest))
  (first : (∀ a w, J a w → rest.wp P (Exit.jump l (fun a' w' => J a' w' ∧ μ a' w' < μ a w) Q) a w) → c.wp P (Exit.jump l J Q) a w)
  (pass : ∀ a w, J a w → rest.wp P (Exit.jump l (fun a' w' => J a' w' ∧ μ a' w' < μ a w) Q) a w) : (Code.scope c).wp P Q a w :=
 wp_scope_jumps l J μ hf (first pass) (fun a w h => wp_seq (wp_skip (pass a w h)))
theorem scan61 (s : ByteArray) (hs : s.size ≤ 64) (w : World) : Calls Tryz.prog 61 #[.string s] w fun e w' => e = .returned (.tuple #[.int .i64 (scV (auS 0 (bI s) 0)).1, .bool (scV (auS 0 (bI s) 0)).2]) ∧ w = w' := by
 go_enter Tryz.func61, Tryz.ntmps61
 go_wp2_with fail
 refine jumps 0 (fun a' w' => ∃ (k : Nat) (st : Int) (u6 u7 u8 u9 u10 u11 u12 u13 u14 u15 u16 u17 u18 u19 u20 u21 u22 u23 u24 u25 u26 u27 u28 u29 : Value), k ≤ s.size ∧ (0 ≤ st ∧ st ≤ 21) ∧ Hid (auS st ((bI s).drop k) k = auS 0 (bI s) 0) ∧ a' = { tmps := #[.string s, undef, .int .i64 0, .bool false, .int .i64 st, .int .i64 k, u6, u7, u8, u9, u10, u11, u12, u13, u14, u15, u16, u17, u18, u19, u20, u21, u22, u23, u24, u25, u26, u27, u28, u29], defers := [] } ∧ w = w') (fun a' _ => s.size - (intOf (a'.tmps.getD 5 undef)).toNat) rfl ?first ?pass
 case first =>
  intro pass
  go_wp2_with fail
  go_step3
  simp only [Exit.then]
  rename_i hk0
  refine hk0 _ _ ?_
  exact wp_mono (pass _ _ ⟨0, 0, _, _, _, _, _, _, _, _, _, _, _, _, _, _, _, _, _, _, _, _, _, _, _, _, by omega, by omega, hid rfl, rfl, rfl⟩) (fun e a w h => by cases e <;> first | exact h | exact ⟨h.1, h.2.1⟩)
 case pass =>
  rintro a w0 ⟨k, st, u6, u7, u8, u9, u10, u11, u12, u13, u14, u15, u16, u17, u18, u19, u20, u21, u22, u23, u24, u25, u26, u27, u28, u29, hk, hst, hA, rfl, rfl⟩
  by_cases hlt : k < s.size
  ·have hx1 : (k : Int) < (s.size : Int) := by omega
   have hcb : (0 : Int) ≤ (s[k].toNat : Int) ∧ (s[k].toNat : Int) ≤ 255 := by have := s[k].toNat_lt; omega
   have hf := hid (step98 st (s[k].toNat : Int) w hcb hst)
   have hd := bI_drop s k hlt
   have hA2 : auS 0 (bI s) 0 = if stepF st (s[k].toNat : Int) = 22 then some k else auS (stepF st (s[k].toNat : Int)) ((bI s).drop (k + 1)) (k + 1) := by rw [← hA.out, hd]; rfl
   have hbd := stepF_bd st (s[k].toNat : Int)
   clear hd hcb
   go_wp2_with fail
   go_at_call 98
   refine hf.out.mono ?_
   clear hf
   rintro e w1 ⟨rfl, rfl⟩
   generalize stepF st (s[k].toNat : Int) = st2 at *
   by_cases h22 : st2 = 22
   ·rw [if_pos h22] at hA2
    have hV := hid hA2
    subst h22
    clear hA2 hbd
    go_wp2_with fail
    simp only [Exit.jump]
    go_ret2
    rw [hV.out]
    exact ⟨rfl, rfl⟩
   ·rw [if_neg h22] at hA2
    have hV := hid hA2
    have b22 := bne_of h22
    have hbd2 : 0 ≤ st2 ∧ st2 ≤ 21 := by omega
    clear hA2 hbd
    go_wp2_with fail
    rw [show ((k : Int) + 1) = ((k + 1 : Nat) : Int) by omega]
    refine wp_goto ?_
    simp only [Exit.then, Exit.jump]
    refine ⟨rfl, ⟨k + 1, st2, _, _, _, _, _, _, _, _, _, _, _, _, _, _, _, _, _, _, _, _, _, _, _, _, by omega, hbd2, hid hV.out.symm, rfl, rfl⟩, ?_⟩
    simp [intOf]
    omega
  ·obtain rfl : k = s.size := by omega
   have hx1 : ¬ (s.size : Int) < (s.size : Int) := by omega
   have hV : Hid (auS 0 (bI s) 0 = if finF st then none else some s.size) := by
    unfold Hid
    rw [← hA.out, List.drop_eq_nil_of_le (by rw [bI_len]; exact Nat.le_refl _)]
    rfl
   have h1 : st = 0 ∨ st = 1 ∨ st = 2 ∨ st = 3 ∨ st = 4 ∨ st = 5 ∨ st = 6 ∨ st = 7 ∨ st = 8 ∨ st = 9 ∨ st = 10 ∨ st = 11 ∨ st = 12 ∨ st = 13 ∨ st = 14 ∨ st = 15 ∨ st = 16 ∨ st = 17 ∨ st = 18 ∨ st = 19 ∨ st = 20 ∨ st = 21 := by omega
   clear hA hst hlt
   rcases h1 with rfl | rfl | rfl | rfl | rfl | rfl | rfl | rfl | rfl | rfl | rfl | rfl | rfl | rfl | rfl | rfl | rfl | rfl | rfl | rfl | rfl | rfl
   all_goals
    go_wp2_with fail
    simp only [Exit.jump]
    go_ret2
    rw [hV.out]
    exact ⟨rfl, rfl⟩
end
section
set_option maxRecDepth 100000
theorem common214 (s : ByteArray) (hs : 0 < s.size) (c : Int) (hc : (s[0].toNat : Int) = c) (h0 : 48 ≤ c ∧ c ≤ 57) (w : World) : Calls Tryz.prog 214 #[.string s, .string (ByteArray.mk #[105, 110, 102, 105, 110, 105, 116, 121])] w fun e w' => e = .returned (.int .i64 0) ∧ w = w' := by
 have n0 : c ≠ 105 := by omega
 have b : (c != (({ data := #[105, 110, 102, 105, 110, 105, 116, 121] } : ByteArray)[0].toNat : Int)) = true := (by simp [n0] : (c != (105 : Int)) = true)
 go_enter Tryz.func214, Tryz.ntmps214
 go_wp2_with fail
 all_goals
  refine wp_loop_rounds 1 ?_
  rw [rounds_succ]
  go_wp2_with fail
 all_goals (go_ret; exact ⟨rfl, rfl⟩)
theorem dig_ne (s : ByteArray) (hs : 0 < s.size) (h0 : 48 ≤ s[0].toNat ∧ s[0].toNat ≤ 57) (k : Int) (hk : k < 48 ∨ 57 < k) : ((s[0].toNat : Int) == k) = false := by
 generalize s[0].toNat = x at *
 exact bne_of (by omega)
theorem special_dig (s : ByteArray) (hs : 0 < s.size) (h0 : (48 ≤ s[0].toNat ∧ s[0].toNat ≤ 57)) (w : World) : Calls Tryz.prog 193 #[.string s] w fun e w' => e = .returned (.tuple #[.float .f64 0, .int .i64 0, .bool false]) ∧ w = w' := by
 have n0 : ((s.size : Int) == 0) = false := bne_of (by omega)
 have a1 := dig_ne s hs h0 43 (by omega)
 have a2 := dig_ne s hs h0 45 (by omega)
 have a3 := dig_ne s hs h0 105 (by omega)
 have a4 := dig_ne s hs h0 73 (by omega)
 have a5 := dig_ne s hs h0 110 (by omega)
 have a6 := dig_ne s hs h0 78 (by omega)
 go_enter Tryz.func193, Tryz.ntmps193
 go_wp2_with fail
 all_goals (go_ret3; exact ⟨rfl, rfl⟩)
theorem special_neg (s : ByteArray) (hs : 1 < s.size) (hm : (s[0].toNat : Int) = 45) (hd : 48 ≤ s[1].toNat ∧ s[1].toNat ≤ 57) (w : World) : Calls Tryz.prog 193 #[.string s] w fun e w' => e = .returned (.tuple #[.float .f64 0, .int .i64 0, .bool false]) ∧ w = w' := by
 have n0 : ((s.size : Int) == 0) = false := bne_of (by omega)
 have hx : 0 < (s.extract 1 s.size).size := by simp; omega
 have he : (s.extract 1 s.size)[0] = s[1] := by simp [ByteArray.getElem_extract]
 have hf := hid (common214 (s.extract 1 s.size) hx (s[1].toNat : Int) (by rw [he]) (by omega) w)
 clear he
 go_enter Tryz.func193, Tryz.ntmps193
 go_wp2_with fail
 go_at_call 214
 refine hf.out.mono ?_
 clear hf
 rintro e w1 ⟨rfl, rfl⟩
 go_wp2_with fail
 all_goals (go_ret3; exact ⟨rfl, rfl⟩)
end
section
set_option maxRecDepth 100000
theorem bool202 (b : Bool) (w : World) : Calls Tryz.prog 202 #[.bool b] w fun e w' => e = .returned (.int .u64 (if b then 1 else 0)) ∧ w = w' := by
 go_enter Tryz.func202, Tryz.ntmps202
 cases b
 all_goals go_wp2_with fail
 all_goals (go_ret; exact ⟨rfl, rfl⟩)
theorem bool196 (b : Bool) (w : World) : Calls Tryz.prog 196 #[.bool b] w fun e w' => e = .returned (.int .u32 (if b then 1 else 0)) ∧ w = w' := by
 go_enter Tryz.func196, Tryz.ntmps196
 cases b
 all_goals go_wp2_with fail
 all_goals (go_ret; exact ⟨rfl, rfl⟩)
theorem call203 (n : Int) (w : World) : (callFunc 203 #[.int .u64 n]).run Tryz.prog w = .ok (.value (.float .f64 n.toNat)) w := by
 rw [run_callFunc_extern (e := Extern.MathFloatBits.float64frombits) Tryz.func203 (by kernel_rfl) (by kernel_rfl) (by kernel_rfl) (by kernel_rfl)]
 rfl
theorem call197 (n : Int) (w : World) : (callFunc 197 #[.int .u32 n]).run Tryz.prog w = .ok (.value (.float .f32 n.toNat)) w := by
 rw [run_callFunc_extern (e := Extern.MathFloatBits.float32frombits) Tryz.func197 (by kernel_rfl) (by kernel_rfl) (by kernel_rfl) (by kernel_rfl)]
 rfl
theorem log174 (p : Int) (i : Nat) (hi : i < 696) (hp : p = (i : Int) - 348) (w : World) : Calls Tryz.prog 174 #[.int .i64 p] w fun e w' => e = .returned (.int .i64 ((lgT i : Int) - 1200)) ∧ w = w' := by
 have h : ((i : Int) - 348) * 108853 / 32768 = (lgT i : Int) - 1200 := by unfold lgT; omega
 go_enter Tryz.func174, Tryz.ntmps174
 go_wp2_with fail
 go_ret; exact ⟨rfl, rfl⟩
theorem unmin180 (x : Int) (hx : 1 ≤ x ∧ x ≤ 9007199254740992) (w : World) : Calls Tryz.prog 180 #[.int .u64 x] w fun e w' => e = .returned (.int .u64 (4 * x - 2)) ∧ w = w' := by
 go_enter Tryz.func180, Tryz.ntmps180
 go_wp2_with fail
 go_ret; exact ⟨ret_int (by omega), rfl⟩
theorem and1 (x : Nat) (hx : x < 18446744073709551616) : bits .and .u64 (x : Int) 1 = ((x % 2 : Nat) : Int) := by
 have h := u64_and_nat x 1 hx (by decide)
 rw [show ((1 : Nat) : Int) = 1 from rfl] at h
 rw [h, Nat.and_one_is_mod]
theorem round179 (u : Nat) (hu : u < 9223372036854775808) (w : World) : Calls Tryz.prog 179 #[.int .u64 u] w fun e w' => e = .returned (.int .u64 ((rnd4 u : Nat) : Int)) ∧ w = w' := by
 obtain ⟨r, hr, h⟩ : ∃ r : Int, (0 ≤ r ∧ r ≤ 1 ∧ r = ((u / 4 % 2 : Nat) : Int)) ∧ bits .and .u64 ((u : Int) / 4) 1 = r := ⟨_, ⟨by omega, by omega, rfl⟩, by rw [show (u : Int) / 4 = ((u / 4 : Nat) : Int) by omega]; exact and1 (u / 4) (by omega)⟩
 have hR := hid hr.2.2
 have hr2 : 0 ≤ r ∧ r ≤ 1 := ⟨hr.1, hr.2.1⟩
 clear hr
 go_enter Tryz.func179, Tryz.ntmps179
 go_wp2_with fail
 go_ret
 have := hR.out
 exact ⟨ret_int (by unfold rnd4; omega), rfl⟩
def Bx (w : World) (q : Nat) (cs : Array Value) (t : TypeId) : Prop := w.heap[q]? = some (.cells cs t (0, 0))
theorem Bx.cell {w : World} {q : Nat} {cs : Array Value} {t : TypeId} (h : Bx w q cs t) (i : Nat) : w.cell? ⟨q, i, none⟩ = cs[i]? := by
 unfold Bx at h
 simp [World.cell?, h]
theorem Bx.free {w : World} {q : Nat} {cs : Array Value} {t : TypeId} (h : Bx w q cs t) (i : Nat) : w.frozen? ⟨q, i, none⟩ = false := by
 unfold Bx at h
 simp [World.frozen?, h]
theorem Bx.lt {w : World} {q : Nat} {cs : Array Value} {t : TypeId} (h : Bx w q cs t) : q < w.heap.size := lt_of_block h
theorem Bx.new (w : World) (cs : Array Value) (t : TypeId) : Bx (w.alloc (.cells cs t)) w.heap.size cs t := heap_alloc_new w _
theorem Bx.on {w w' : World} {q : Nat} {cs : Array Value} {t : TypeId} (h : Bx w q cs t) {row : Option Nat} (hg : w.grownBy w' row) (hn : some q ≠ row) : Bx w' q cs t := (hg.block q h.lt hn).trans h
theorem Bx.set {w : World} {q : Nat} {cs : Array Value} {t : TypeId} (h : Bx w q cs t) (i : Nat) (v : Value) : Bx (w.setCell ⟨q, i, none⟩ v) q (cs.set! i v) t := by
 have hlt := h.lt
 have h' : w.heap[q] = .cells cs t (0, 0) := by have := h; unfold Bx at this; simpa [Array.getElem?_eq_getElem hlt] using this
 show (w.heap.modify q _)[q]? = _
 rw [Array.getElem?_eq_getElem (by simpa using hlt), Array.getElem_modify_self, h']
 rfl
theorem uscale175 (x hi lo s B : Nat) (hx : x < 18446744073709551616) (h1 : hi < 18446744073709551616) (h2 : lo < 18446744073709551616) (hs : s < 64) (hp : lo ≤ hi * 18446744073709551616) (w : World) (hb : Bx w B #[.int .u64 hi, .int .u64 lo, .int .i64 s] 210) :
  Calls Tryz.prog 175 #[.int .u64 x, .pointer (some ⟨B, 0, none⟩)] w fun e w' => e = .returned (.int .u64 ((uscF x hi lo s : Nat) : Int)) ∧ Below w.heap.size w w' := by
 have c0 := hb.cell 0
 have c1 := hb.cell 1
 have c2 := hb.cell 2
 simp at c0 c1 c2
 have hlt : x * hi < 18446744073709551616 * 18446744073709551616 := Nat.mul_lt_mul'' hx h1
 have hlt2 : x * lo < 18446744073709551616 * 18446744073709551616 := Nat.mul_lt_mul'' hx h2
 have m1 := Tryz.bits_Mul64 x hi hx h1 w
 have m2 := Tryz.bits_Mul64 x lo hx h2 w
 obtain ⟨U, hU⟩ : ∃ U, U = uscF x hi lo s := ⟨_, rfl⟩
 have hV : Hid (U = uscF x hi lo s) := hid hU
 rw [← hU]
 simp only [uscF] at hV
 obtain ⟨h, hh⟩ : ∃ h, h = x * hi / 18446744073709551616 := ⟨_, rfl⟩
 obtain ⟨mid, hmid⟩ : ∃ m, m = x * hi % 18446744073709551616 := ⟨_, rfl⟩
 obtain ⟨mid2, hmid2⟩ : ∃ m, m = x * lo / 18446744073709551616 := ⟨_, rfl⟩
 obtain ⟨low, hlow⟩ : ∃ m, m = x * lo % 18446744073709551616 := ⟨_, rfl⟩
 rw [← hh, ← hmid] at m1
 rw [← hmid2, ← hlow] at m2
 rw [← hh, ← hmid, ← hmid2] at hV
 replace m1 := hid m1
 replace m2 := hid m2
 have b1 : h < 18446744073709551616 := by rw [hh]; omega
 have b2 : mid < 18446744073709551616 := by rw [hmid]; omega
 have b3 : mid2 < 18446744073709551616 := by rw [hmid2]; omega
 have hd : h = 0 → mid2 ≤ mid := by
  intro h0
  have e1 : x * hi = mid := by rw [hmid]; omega
  have e2 : x * lo ≤ x * hi * 18446744073709551616 := by rw [Nat.mul_assoc]; exact Nat.mul_le_mul_left x hp
  rw [hmid2]
  omega
 clear hh hmid hmid2 hlow hlt hlt2 hU hp
 obtain ⟨q, hq⟩ : ∃ q, q = h / 2 ^ s := ⟨_, rfl⟩
 have hqh : q * 2 ^ s ≤ h := by rw [hq]; exact Nat.div_mul_le_self _ _
 have e1 : (h : Int) / 2 ^ s = (q : Int) := by rw [hq]; simp
 rw [← hq] at hV
 obtain ⟨q2, hq2⟩ : ∃ q2, q2 = q * 2 ^ s := ⟨_, rfl⟩
 have e2 : (q : Int) * 2 ^ s = (q2 : Int) := by rw [hq2]; simp
 rw [← hq2] at hqh hV
 have bq : q < 18446744073709551616 := by
  rw [hq]
  exact Nat.lt_of_le_of_lt (Nat.div_le_self _ _) b1
 have o1 := u64_or_nat q 1 bq (by decide)
 rw [show ((1 : Nat) : Int) = 1 from rfl] at o1
 obtain ⟨q3, hq3⟩ : ∃ q3, q3 = q ||| 1 := ⟨_, rfl⟩
 rw [← hq3] at o1 hV
 clear hq hq2 hq3
 have hand : bits .and .i64 (s : Int) 63 = (s : Int) := by
  have h := bits_mask .i64 63 (by decide) (fun n a b => by rw [IntKind.wrap_i64]; omega) 6 (by decide) (s : Int) (by omega) (by omega)
  rw [show ((2 : Int) ^ 6 - 1) = 63 from rfl, show ((2 : Int) ^ 6) = 64 from rfl] at h
  rw [h]; omega
 go_enter Tryz.func175, Tryz.ntmps175
 go_wp2_with fail
 go_at_call 124
 refine m1.out.mono ?_
 clear m1
 rintro e w1 ⟨rfl, rfl⟩
 by_cases hqq : q2 = h
 ·rw [if_pos hqq] at hV
  have bqq : ((q2 : Int) != (h : Int)) = false := by simp [hqq]
  subst hqq
  obtain ⟨bw, hbw⟩ : ∃ bw : Bool, bw = decide ((mid : Int) < (mid2 : Int)) := ⟨_, rfl⟩
  have hf := hid (bool202 bw w1)
  go_wp2_with fail
  go_at_call 124
  refine m2.out.mono ?_
  clear m2
  rintro e w2 ⟨rfl, rfl⟩
  go_wp2_with fail
  go_at_call 202
  refine (bool202 _ _).mono ?_
  rintro e w3 ⟨rfl, rfl⟩
  clear hf hbw
  obtain ⟨c, hc⟩ : ∃ c : Nat, c = if mid < mid2 then 1 else 0 := ⟨_, rfl⟩
  have hc' : (if decide (mid < mid2) = true then (1 : Int) else 0) = (c : Int) := by
   by_cases hm : mid < mid2 <;> simp [hc, hm]
  rw [← hc] at hV
  have hcq : c ≤ q2 ∧ c ≤ 1 := by
   by_cases hm : mid < mid2
   ·rw [if_pos hm] at hc; omega
   ·rw [if_neg hm] at hc; omega
  simp only [hc']
  clear hc hc' bqq e1 e2 o1 bq
  obtain ⟨q4, hq4⟩ : ∃ q4, q4 = (q2 - c) / 2 ^ s := ⟨_, rfl⟩
  have e4 : ((q2 : Int) - (c : Int)) / 2 ^ s = (q4 : Int) := by rw [hq4, show (q2 : Int) - (c : Int) = ((q2 - c : Nat) : Int) by omega]; simp
  have bq4 : q4 < 18446744073709551616 := by rw [hq4]; exact Nat.lt_of_le_of_lt (Nat.div_le_self _ _) (by omega)
  rw [← hq4] at hV
  clear hq4
  obtain ⟨m3, hm3⟩ : ∃ m3, m3 = (mid + 18446744073709551616 - mid2) % 18446744073709551616 := ⟨_, rfl⟩
  have e5 : IntKind.u64.wrap ((mid : Int) - (mid2 : Int)) = (m3 : Int) := by rw [IntKind.wrap_u64, hm3]; omega
  rw [← hm3] at hV
  have bm3 : m3 < 18446744073709551616 := by rw [hm3]; omega
  clear hm3
  obtain ⟨k, hk⟩ : ∃ k : Nat, k = if 1 < m3 then 1 else 0 := ⟨_, rfl⟩
  have hk1 : k ≤ 1 := by rw [hk]; split <;> omega
  have hk' : (if decide ((1 : Int) < (m3 : Int)) = true then (1 : Int) else 0) = (k : Int) := by
   by_cases hm : 1 < m3
   ·rw [hk, if_pos hm, if_pos (decide_eq_true (by omega))]; rfl
   ·rw [hk, if_neg hm, if_neg (by simp; omega)]; rfl
  rw [← hk] at hV
  have o3 := u64_or_nat q4 k bq4 (by omega)
  have hV2 : Hid (((q4 ||| k : Nat) : Int) = (U : Int)) := hid (by rw [hV.out])
  rw [hV2.out] at o3
  replace o3 := hid o3
  replace hk' := hid hk'
  clear hk hV hV2 hd
  go_wp2_with fail
  go_quiet ((go_at_call 202; exact Calls.quiet_of_same ((bool202 _ _).mono fun e w' h => ⟨h.1, h.2.symm⟩)))
  go_wp2_with fail
  all_goals
   go_ret
   refine ⟨ret_int ?_, below_drewN (Below.refl _ _) _⟩
   rw [← o3.out, ← hk'.out]
   first
   | rw [if_pos (decide_eq_true (by omega))]
   | rw [if_neg (by rw [decide_eq_true_eq]; omega)]
 ·rw [if_neg hqq] at hV
  have bqq : ((q2 : Int) != (h : Int)) = true := by simp; omega
  go_wp2_with fail
  go_ret
  exact ⟨ret_int (by rw [hV.out]), Below.refl _ _⟩
end
section
set_option maxRecDepth 100000
def Pw (w : World) : Prop := 8 < w.heap.size ∧ ∀ (i : Nat) (x : Nat × Nat), Go.Pinned.pow10Rows[i]? = some x → w.cell? ⟨8, i * 2, none⟩ = some (.int .u64 (x.1 : Int)) ∧ w.cell? ⟨8, i * 2 + 1, none⟩ = some (.int .u64 (x.2 : Int))
theorem prescale173 (B : Nat) (w : World) (hb : Bx w B #[.int .u64 0, .int .u64 0, .int .i64 0] 210) (e lp : Int) (he : -5000 ≤ e ∧ e ≤ 5000) (hl : -5000 ≤ lp ∧ lp ≤ 5000) (p : Int) (i : Nat) (hi : i < 696) (hp : p = (i : Int) - 348) (x : Nat × Nat) (hx : Go.Pinned.pow10Rows[i]? = some x) (hw : Pw w) (hB : B ≠ 8) (n : Nat) (hn : n ≤ B) :
  Calls Tryz.prog 173 #[.pointer (some ⟨B, 0, none⟩), .int .i64 e, .int .i64 p, .int .i64 lp] w fun e' w' => e' = .returned (.tuple #[]) ∧ Bx w' B #[.int .u64 (x.1 : Int), .int .u64 (x.2 : Int), .int .i64 (-(e + lp + 3))] 210 ∧ Below n w w' := by
 obtain ⟨d0, d1⟩ := hw.2 i x hx
 have f0 := hb.free 0
 have f1 := hb.free 1
 have f2 := hb.free 2
 have c0 := hb.cell 0
 have c1 := hb.cell 1
 have c2 := hb.cell 2
 simp at c0 c1 c2
 go_enter Tryz.func173, Tryz.ntmps173
 go_wp2_with fail
 go_end0
 refine ⟨rfl, ?_, ?_⟩
 ·have h := ((hb.set 0 (.int .u64 (x.1 : Int))).set 1 (.int .u64 (x.2 : Int))).set 2 (.int .i64 (-(e + lp + 3)))
  simpa using h
 ·exact (((Below.refl n w).setCell (p := ⟨B, 0, none⟩) hn _).setCell (p := ⟨B, 1, none⟩) hn _).setCell (p := ⟨B, 2, none⟩) hn _
def sg64 (neg : Bool) : Nat := if neg then 9223372036854775808 else 0
theorem sg64_cases (neg : Bool) : sg64 neg = 0 ∨ sg64 neg = 9223372036854775808 := by cases neg <;> simp [sg64]
theorem and_p (x i : Nat) (hx : x < 18446744073709551616) (hi : i < 64) : bits .and .u64 (x : Int) ((2 ^ i : Nat) : Int) = ((x / 2 ^ i % 2 * 2 ^ i : Nat) : Int) := by
 have hp : 2 ^ i < 18446744073709551616 := Nat.lt_of_lt_of_le (Nat.pow_lt_pow_right (by decide) hi) (by decide)
 have h := and_bit_var 64 x (i : Int) (by omega)
 have e : ((2 : Int) ^ min ((i : Int).toNat) 64 % 2 ^ 64).toNat = 2 ^ i := by
  rw [show min ((i : Int).toNat) 64 = i by omega, Int.emod_eq_of_lt (Int.le_of_lt (Int.pow_pos (by decide))) (by rw [show ((2 : Int) ^ 64) = ((18446744073709551616 : Nat) : Int) from rfl]; exact_mod_cast hp), toNat_two_pow]
 rw [e, if_neg (by omega), show ((i : Int).toNat) = i by omega] at h
 rw [u64_and_nat x (2 ^ i) hx hp, h]
theorem clr52 (x : Nat) (hx : x < 18446744073709551616) : bits .andNot .u64 (x : Int) 4503599627370496 = ((x / 9007199254740992 * 9007199254740992 + x % 4503599627370496 : Nat) : Int) := by
 have h := u64_andNot_nat x 4503599627370496 hx (by decide)
 rw [show ((4503599627370496 : Nat) : Int) = 4503599627370496 from rfl] at h
 rw [h]
 refine congrArg Int.ofNat ?_
 obtain ⟨M, hM⟩ : ∃ M, M = 18446744073709551615 - 4503599627370496 := ⟨_, rfl⟩
 rw [show (18446744073709551615 - 4503599627370496 : Nat) = M from hM.symm]
 have d := Nat.and_div_two_pow (a := x) (b := M) (n := 53)
 have r := Nat.and_mod_two_pow (a := x) (b := M) (n := 53)
 rw [show M / 2 ^ 53 = 2 ^ 11 - 1 by rw [hM], Nat.and_two_pow_sub_one_eq_mod] at d
 rw [show M % 2 ^ 53 = 2 ^ 52 - 1 by rw [hM], Nat.and_two_pow_sub_one_eq_mod] at r
 omega
theorem or_e (x e : Nat) (hx : x < 18446744073709551616) (hx2 : x / 4503599627370496 = 0 ∨ x / 4503599627370496 = 2048) (he : e < 2048) : bits .or .u64 (x : Int) ((e * 4503599627370496 : Nat) : Int) = ((x + e * 4503599627370496 : Nat) : Int) := by
 rw [u64_or_nat x _ hx (by omega)]
 refine congrArg Int.ofNat ?_
 have d := Nat.or_div_two_pow (a := x) (b := e * 4503599627370496) (n := 52)
 have r := Nat.or_mod_two_pow (a := x) (b := e * 4503599627370496) (n := 52)
 rw [show e * 4503599627370496 / 2 ^ 52 = e by omega, show x / 2 ^ 52 = x / 4503599627370496 from rfl] at d
 rw [show e * 4503599627370496 % 2 ^ 52 = 0 by omega, Nat.or_zero] at r
 have o : x / 4503599627370496 ||| e = x / 4503599627370496 + e := by
  rcases hx2 with h | h
  ·rw [h]; simp
  ·rw [h]
   have h2 := Nat.two_pow_add_eq_or_of_lt (i := 11) (b := e) he 1
   simpa using h2.symm
 rw [o] at d
 omega
theorem pack219 (neg : Bool) (m K : Nat) (hm : m < 9007199254740992) (h0 : m < 4503599627370496 → K = 0) (hK : K ≤ 4000) (t0 t1 : Int) (ht0 : t0 = ((sg64 neg + m : Nat) : Int)) (ht1 : t1 = (K : Int) - 1074) (w : World) :
  Calls Tryz.prog 219 #[.int .u64 t0, .int .i64 t1] w fun e w' => e = .returned (.tuple #[.float .f64 (sg64 neg + min (K * 4503599627370496 + m) 9218868437227405312), if 9218868437227405312 ≤ K * 4503599627370496 + m then .iface 144 (.int .i64 1) else .nilIface]) ∧ w = w' := by
 obtain ⟨R, hR⟩ : ∃ R, R = sg64 neg + min (K * 4503599627370496 + m) 9218868437227405312 := ⟨_, rfl⟩
 obtain ⟨E, hE⟩ : ∃ E, E = if 9218868437227405312 ≤ K * 4503599627370496 + m then Value.iface 144 (.int .i64 1) else .nilIface := ⟨_, rfl⟩
 rw [← hR, ← hE]
 replace hR := hid hR
 replace hE := hid hE
 obtain ⟨c, hc⟩ : ∃ c : Int, c = ((m / 4503599627370496 * 4503599627370496 : Nat) : Int) := ⟨_, rfl⟩
 have a1 : bits .and .u64 t0 4503599627370496 = c := by
  have h := and_p (sg64 neg + m) 52 (by rcases sg64_cases neg with e | e <;> omega) (by decide)
  rw [ht0, hc]
  rw [show (((2 ^ 52 : Nat) : Int)) = 4503599627370496 from rfl, show (2 : Nat) ^ 52 = 4503599627370496 from rfl] at h
  rw [h]
  rcases sg64_cases neg with e | e <;> rw [e] <;> omega
 have hh := hid h0
 have hh1 := hid ht0
 have hh2 := hid hm
 have hc' := hid hc
 have k203 := call203
 clear h0 ht0 hm hc
 go_enter Tryz.func219, Tryz.ntmps219
 by_cases hs : m < 4503599627370496
 ·have c0 : c = 0 := by rw [hc'.out]; omega
  subst c0
  have hs' := hid hs
  clear hs
  have hk0 := hh.out hs'.out
  have e1 : t0.toNat = R := by
   rw [hR.out, hh1.out, hk0]
   have := hs'.out
   omega
  have e2 : Value.nilIface = E := by
   rw [hE.out, hk0, if_neg (by have := hs'.out; omega)]
  replace hk0 := hid hk0
  go_wp2_with fail
  go_ret2
  exact ⟨by rw [← e2]; rfl, rfl⟩
 ·have c0 : (c == 0) = false := bne_of (by rw [hc'.out]; omega)
  have a2 : bits .and .u64 t0 9223372036854775808 = (sg64 neg : Int) := by
   have h := and_p (sg64 neg + m) 63 (by have := hh2.out; rcases sg64_cases neg with e | e <;> omega) (by decide)
   rw [hh1.out]
   rw [show (((2 ^ 63 : Nat) : Int)) = 9223372036854775808 from rfl, show (2 : Nat) ^ 63 = 9223372036854775808 from rfl] at h
   rw [h]
   have := hh2.out
   rcases sg64_cases neg with e | e <;> rw [e] <;> omega
  have a3 : bits .or .u64 (sg64 neg : Int) 9218868437227405312 = ((sg64 neg + 9218868437227405312 : Nat) : Int) := by
   have h := or_e (sg64 neg) 2047 (by rcases sg64_cases neg with e | e <;> omega) (by rcases sg64_cases neg with e | e <;> rw [e] <;> decide) (by decide)
   exact h
  obtain ⟨g, hg⟩ : ∃ g, g = sg64 neg + (m - 4503599627370496) := ⟨_, rfl⟩
  have a4 : bits .andNot .u64 t0 4503599627370496 = (g : Int) := by
   rw [hh1.out, clr52 _ (by have := hh2.out; rcases sg64_cases neg with e | e <;> omega), hg]
   have := hh2.out
   rcases sg64_cases neg with e | e <;> rw [e] <;> omega
  have a5 : K + 1 < 2048 → bits .or .u64 (g : Int) ((1075 + ((K : Int) - 1074)) * 4503599627370496) = ((g + (K + 1) * 4503599627370496 : Nat) : Int) := by
   intro hk
   have h := or_e g (K + 1) (by have := hh2.out; rcases sg64_cases neg with e | e <;> omega) (by have := hh2.out; rcases sg64_cases neg with e | e <;> omega) hk
   rw [← h]
   congr 1
   omega
  replace a3 := hid a3
  replace a5 := hid a5
  replace hg := hid hg
  have hs' := hid hs
  clear hs
  go_wp2_with fail
  ·rename_i hk
   go_ret2
   have := hs'.out
   have := hh2.out
   refine ⟨?_, rfl⟩
   rw [a3.out, hR.out, hE.out, if_pos (by omega), show min (K * 4503599627370496 + m) 9218868437227405312 = 9218868437227405312 by omega]
   rfl
  ·rename_i hk
   go_ret2
   have := hs'.out
   have := hh2.out
   refine ⟨?_, rfl⟩
   rw [a5.out (by omega), hR.out, hE.out, if_neg (by omega), hg.out, show min (K * 4503599627370496 + m) 9218868437227405312 = K * 4503599627370496 + m by omega]
   rw [show sg64 neg + (m - 4503599627370496) + (K + 1) * 4503599627370496 = sg64 neg + (K * 4503599627370496 + m) by omega]
   rfl
end
end Go.Proofs.YtlgneiaenanfaaaGreatDoor
