/- Walks: the host's args and grants. -/
import Derived.Test.YtmbdlhgclkbdiaaHostB
namespace Go.Proofs.Ytmbdlhgclkbdiaa
open Go.RowKit
set_option linter.unusedVariables false
set_option linter.unusedSimpArgs false

set_option maxHeartbeats 1000000 in
set_option maxRecDepth 10000 in
theorem args33_clear (s : ByteArray) (x : Int) (h21 : ∀ w, Calls Try.prog 21 #[.int .u32 x] w fun e w' => e = .returned (.string s) ∧ w.grownBy w' none) (h0 : (s.toList == [99, 108, 101, 97, 114]) = true) (h1 : (s.toList == [99, 108, 111, 99, 107]) = false) (h2 : (s.toList == [112, 97, 114, 115, 101]) = false) (h3 : (s.toList == [112, 97, 114, 115, 101, 102]) = false) (h4 : (s.toList == [103, 101, 116]) = false) (h5 : (s.toList == [115, 101, 116]) = false) (h6 : (s.toList == [97, 100, 100]) = false) (h7 : (s.toList == [109, 117, 108]) = false) (h8 : (s.toList == [100, 105, 118]) = false) (h9 : (s.toList == [116, 117, 114, 110]) = false) (h10 : (s.toList == [119, 97, 118, 101]) = false) (w : World) : Calls Try.prog 33 #[.int .u32 x] w fun e w' => e = .returned (.int .i64 0) ∧ w.grownBy w' none := by
  have h21' := hid h21
  clear h21
  go_enter Try.func33, Try.ntmps33
  go_wp2_with fail
  refine (h21'.out _).mono ?_
  rintro e w1 ⟨rfl, hg⟩
  have hg' := hid hg
  clear hg
  go_wp2_with fail
  go_ret
  exact ⟨rfl, hg'.out⟩
set_option maxHeartbeats 1000000 in
set_option maxRecDepth 10000 in
theorem args33_clock (s : ByteArray) (x : Int) (h21 : ∀ w, Calls Try.prog 21 #[.int .u32 x] w fun e w' => e = .returned (.string s) ∧ w.grownBy w' none) (h0 : (s.toList == [99, 108, 101, 97, 114]) = false) (h1 : (s.toList == [99, 108, 111, 99, 107]) = true) (h2 : (s.toList == [112, 97, 114, 115, 101]) = false) (h3 : (s.toList == [112, 97, 114, 115, 101, 102]) = false) (h4 : (s.toList == [103, 101, 116]) = false) (h5 : (s.toList == [115, 101, 116]) = false) (h6 : (s.toList == [97, 100, 100]) = false) (h7 : (s.toList == [109, 117, 108]) = false) (h8 : (s.toList == [100, 105, 118]) = false) (h9 : (s.toList == [116, 117, 114, 110]) = false) (h10 : (s.toList == [119, 97, 118, 101]) = false) (w : World) : Calls Try.prog 33 #[.int .u32 x] w fun e w' => e = .returned (.int .i64 0) ∧ w.grownBy w' none := by
  have h21' := hid h21
  clear h21
  go_enter Try.func33, Try.ntmps33
  go_wp2_with fail
  refine (h21'.out _).mono ?_
  rintro e w1 ⟨rfl, hg⟩
  have hg' := hid hg
  clear hg
  go_wp2_with fail
  go_ret
  exact ⟨rfl, hg'.out⟩
set_option maxHeartbeats 1000000 in
set_option maxRecDepth 10000 in
theorem args33_parse (s : ByteArray) (x : Int) (h21 : ∀ w, Calls Try.prog 21 #[.int .u32 x] w fun e w' => e = .returned (.string s) ∧ w.grownBy w' none) (h0 : (s.toList == [99, 108, 101, 97, 114]) = false) (h1 : (s.toList == [99, 108, 111, 99, 107]) = false) (h2 : (s.toList == [112, 97, 114, 115, 101]) = true) (h3 : (s.toList == [112, 97, 114, 115, 101, 102]) = false) (h4 : (s.toList == [103, 101, 116]) = false) (h5 : (s.toList == [115, 101, 116]) = false) (h6 : (s.toList == [97, 100, 100]) = false) (h7 : (s.toList == [109, 117, 108]) = false) (h8 : (s.toList == [100, 105, 118]) = false) (h9 : (s.toList == [116, 117, 114, 110]) = false) (h10 : (s.toList == [119, 97, 118, 101]) = false) (w : World) : Calls Try.prog 33 #[.int .u32 x] w fun e w' => e = .returned (.int .i64 2) ∧ w.grownBy w' none := by
  have h21' := hid h21
  clear h21
  go_enter Try.func33, Try.ntmps33
  go_wp2_with fail
  refine (h21'.out _).mono ?_
  rintro e w1 ⟨rfl, hg⟩
  have hg' := hid hg
  clear hg
  go_wp2_with fail
  go_ret
  exact ⟨rfl, hg'.out⟩
set_option maxHeartbeats 1000000 in
set_option maxRecDepth 10000 in
theorem args33_parsef (s : ByteArray) (x : Int) (h21 : ∀ w, Calls Try.prog 21 #[.int .u32 x] w fun e w' => e = .returned (.string s) ∧ w.grownBy w' none) (h0 : (s.toList == [99, 108, 101, 97, 114]) = false) (h1 : (s.toList == [99, 108, 111, 99, 107]) = false) (h2 : (s.toList == [112, 97, 114, 115, 101]) = false) (h3 : (s.toList == [112, 97, 114, 115, 101, 102]) = true) (h4 : (s.toList == [103, 101, 116]) = false) (h5 : (s.toList == [115, 101, 116]) = false) (h6 : (s.toList == [97, 100, 100]) = false) (h7 : (s.toList == [109, 117, 108]) = false) (h8 : (s.toList == [100, 105, 118]) = false) (h9 : (s.toList == [116, 117, 114, 110]) = false) (h10 : (s.toList == [119, 97, 118, 101]) = false) (w : World) : Calls Try.prog 33 #[.int .u32 x] w fun e w' => e = .returned (.int .i64 2) ∧ w.grownBy w' none := by
  have h21' := hid h21
  clear h21
  go_enter Try.func33, Try.ntmps33
  go_wp2_with fail
  refine (h21'.out _).mono ?_
  rintro e w1 ⟨rfl, hg⟩
  have hg' := hid hg
  clear hg
  go_wp2_with fail
  go_ret
  exact ⟨rfl, hg'.out⟩
set_option maxHeartbeats 1000000 in
set_option maxRecDepth 10000 in
theorem args33_get (s : ByteArray) (x : Int) (h21 : ∀ w, Calls Try.prog 21 #[.int .u32 x] w fun e w' => e = .returned (.string s) ∧ w.grownBy w' none) (h0 : (s.toList == [99, 108, 101, 97, 114]) = false) (h1 : (s.toList == [99, 108, 111, 99, 107]) = false) (h2 : (s.toList == [112, 97, 114, 115, 101]) = false) (h3 : (s.toList == [112, 97, 114, 115, 101, 102]) = false) (h4 : (s.toList == [103, 101, 116]) = true) (h5 : (s.toList == [115, 101, 116]) = false) (h6 : (s.toList == [97, 100, 100]) = false) (h7 : (s.toList == [109, 117, 108]) = false) (h8 : (s.toList == [100, 105, 118]) = false) (h9 : (s.toList == [116, 117, 114, 110]) = false) (h10 : (s.toList == [119, 97, 118, 101]) = false) (w : World) : Calls Try.prog 33 #[.int .u32 x] w fun e w' => e = .returned (.int .i64 2) ∧ w.grownBy w' none := by
  have h21' := hid h21
  clear h21
  go_enter Try.func33, Try.ntmps33
  go_wp2_with fail
  refine (h21'.out _).mono ?_
  rintro e w1 ⟨rfl, hg⟩
  have hg' := hid hg
  clear hg
  go_wp2_with fail
  go_ret
  exact ⟨rfl, hg'.out⟩
set_option maxHeartbeats 1000000 in
set_option maxRecDepth 10000 in
theorem args33_set (s : ByteArray) (x : Int) (h21 : ∀ w, Calls Try.prog 21 #[.int .u32 x] w fun e w' => e = .returned (.string s) ∧ w.grownBy w' none) (h0 : (s.toList == [99, 108, 101, 97, 114]) = false) (h1 : (s.toList == [99, 108, 111, 99, 107]) = false) (h2 : (s.toList == [112, 97, 114, 115, 101]) = false) (h3 : (s.toList == [112, 97, 114, 115, 101, 102]) = false) (h4 : (s.toList == [103, 101, 116]) = false) (h5 : (s.toList == [115, 101, 116]) = true) (h6 : (s.toList == [97, 100, 100]) = false) (h7 : (s.toList == [109, 117, 108]) = false) (h8 : (s.toList == [100, 105, 118]) = false) (h9 : (s.toList == [116, 117, 114, 110]) = false) (h10 : (s.toList == [119, 97, 118, 101]) = false) (w : World) : Calls Try.prog 33 #[.int .u32 x] w fun e w' => e = .returned (.int .i64 2) ∧ w.grownBy w' none := by
  have h21' := hid h21
  clear h21
  go_enter Try.func33, Try.ntmps33
  go_wp2_with fail
  refine (h21'.out _).mono ?_
  rintro e w1 ⟨rfl, hg⟩
  have hg' := hid hg
  clear hg
  go_wp2_with fail
  go_ret
  exact ⟨rfl, hg'.out⟩
set_option maxHeartbeats 1000000 in
set_option maxRecDepth 10000 in
theorem args33_add (s : ByteArray) (x : Int) (h21 : ∀ w, Calls Try.prog 21 #[.int .u32 x] w fun e w' => e = .returned (.string s) ∧ w.grownBy w' none) (h0 : (s.toList == [99, 108, 101, 97, 114]) = false) (h1 : (s.toList == [99, 108, 111, 99, 107]) = false) (h2 : (s.toList == [112, 97, 114, 115, 101]) = false) (h3 : (s.toList == [112, 97, 114, 115, 101, 102]) = false) (h4 : (s.toList == [103, 101, 116]) = false) (h5 : (s.toList == [115, 101, 116]) = false) (h6 : (s.toList == [97, 100, 100]) = true) (h7 : (s.toList == [109, 117, 108]) = false) (h8 : (s.toList == [100, 105, 118]) = false) (h9 : (s.toList == [116, 117, 114, 110]) = false) (h10 : (s.toList == [119, 97, 118, 101]) = false) (w : World) : Calls Try.prog 33 #[.int .u32 x] w fun e w' => e = .returned (.int .i64 3) ∧ w.grownBy w' none := by
  have h21' := hid h21
  clear h21
  go_enter Try.func33, Try.ntmps33
  go_wp2_with fail
  refine (h21'.out _).mono ?_
  rintro e w1 ⟨rfl, hg⟩
  have hg' := hid hg
  clear hg
  go_wp2_with fail
  go_ret
  exact ⟨rfl, hg'.out⟩
set_option maxHeartbeats 1000000 in
set_option maxRecDepth 10000 in
theorem args33_mul (s : ByteArray) (x : Int) (h21 : ∀ w, Calls Try.prog 21 #[.int .u32 x] w fun e w' => e = .returned (.string s) ∧ w.grownBy w' none) (h0 : (s.toList == [99, 108, 101, 97, 114]) = false) (h1 : (s.toList == [99, 108, 111, 99, 107]) = false) (h2 : (s.toList == [112, 97, 114, 115, 101]) = false) (h3 : (s.toList == [112, 97, 114, 115, 101, 102]) = false) (h4 : (s.toList == [103, 101, 116]) = false) (h5 : (s.toList == [115, 101, 116]) = false) (h6 : (s.toList == [97, 100, 100]) = false) (h7 : (s.toList == [109, 117, 108]) = true) (h8 : (s.toList == [100, 105, 118]) = false) (h9 : (s.toList == [116, 117, 114, 110]) = false) (h10 : (s.toList == [119, 97, 118, 101]) = false) (w : World) : Calls Try.prog 33 #[.int .u32 x] w fun e w' => e = .returned (.int .i64 3) ∧ w.grownBy w' none := by
  have h21' := hid h21
  clear h21
  go_enter Try.func33, Try.ntmps33
  go_wp2_with fail
  refine (h21'.out _).mono ?_
  rintro e w1 ⟨rfl, hg⟩
  have hg' := hid hg
  clear hg
  go_wp2_with fail
  go_ret
  exact ⟨rfl, hg'.out⟩
set_option maxHeartbeats 1000000 in
set_option maxRecDepth 10000 in
theorem args33_div (s : ByteArray) (x : Int) (h21 : ∀ w, Calls Try.prog 21 #[.int .u32 x] w fun e w' => e = .returned (.string s) ∧ w.grownBy w' none) (h0 : (s.toList == [99, 108, 101, 97, 114]) = false) (h1 : (s.toList == [99, 108, 111, 99, 107]) = false) (h2 : (s.toList == [112, 97, 114, 115, 101]) = false) (h3 : (s.toList == [112, 97, 114, 115, 101, 102]) = false) (h4 : (s.toList == [103, 101, 116]) = false) (h5 : (s.toList == [115, 101, 116]) = false) (h6 : (s.toList == [97, 100, 100]) = false) (h7 : (s.toList == [109, 117, 108]) = false) (h8 : (s.toList == [100, 105, 118]) = true) (h9 : (s.toList == [116, 117, 114, 110]) = false) (h10 : (s.toList == [119, 97, 118, 101]) = false) (w : World) : Calls Try.prog 33 #[.int .u32 x] w fun e w' => e = .returned (.int .i64 3) ∧ w.grownBy w' none := by
  have h21' := hid h21
  clear h21
  go_enter Try.func33, Try.ntmps33
  go_wp2_with fail
  refine (h21'.out _).mono ?_
  rintro e w1 ⟨rfl, hg⟩
  have hg' := hid hg
  clear hg
  go_wp2_with fail
  go_ret
  exact ⟨rfl, hg'.out⟩
set_option maxHeartbeats 1000000 in
set_option maxRecDepth 10000 in
theorem args33_turn (s : ByteArray) (x : Int) (h21 : ∀ w, Calls Try.prog 21 #[.int .u32 x] w fun e w' => e = .returned (.string s) ∧ w.grownBy w' none) (h0 : (s.toList == [99, 108, 101, 97, 114]) = false) (h1 : (s.toList == [99, 108, 111, 99, 107]) = false) (h2 : (s.toList == [112, 97, 114, 115, 101]) = false) (h3 : (s.toList == [112, 97, 114, 115, 101, 102]) = false) (h4 : (s.toList == [103, 101, 116]) = false) (h5 : (s.toList == [115, 101, 116]) = false) (h6 : (s.toList == [97, 100, 100]) = false) (h7 : (s.toList == [109, 117, 108]) = false) (h8 : (s.toList == [100, 105, 118]) = false) (h9 : (s.toList == [116, 117, 114, 110]) = true) (h10 : (s.toList == [119, 97, 118, 101]) = false) (w : World) : Calls Try.prog 33 #[.int .u32 x] w fun e w' => e = .returned (.int .i64 3) ∧ w.grownBy w' none := by
  have h21' := hid h21
  clear h21
  go_enter Try.func33, Try.ntmps33
  go_wp2_with fail
  refine (h21'.out _).mono ?_
  rintro e w1 ⟨rfl, hg⟩
  have hg' := hid hg
  clear hg
  go_wp2_with fail
  go_ret
  exact ⟨rfl, hg'.out⟩
set_option maxHeartbeats 1000000 in
set_option maxRecDepth 10000 in
theorem args33_wave (s : ByteArray) (x : Int) (h21 : ∀ w, Calls Try.prog 21 #[.int .u32 x] w fun e w' => e = .returned (.string s) ∧ w.grownBy w' none) (h0 : (s.toList == [99, 108, 101, 97, 114]) = false) (h1 : (s.toList == [99, 108, 111, 99, 107]) = false) (h2 : (s.toList == [112, 97, 114, 115, 101]) = false) (h3 : (s.toList == [112, 97, 114, 115, 101, 102]) = false) (h4 : (s.toList == [103, 101, 116]) = false) (h5 : (s.toList == [115, 101, 116]) = false) (h6 : (s.toList == [97, 100, 100]) = false) (h7 : (s.toList == [109, 117, 108]) = false) (h8 : (s.toList == [100, 105, 118]) = false) (h9 : (s.toList == [116, 117, 114, 110]) = false) (h10 : (s.toList == [119, 97, 118, 101]) = true) (w : World) : Calls Try.prog 33 #[.int .u32 x] w fun e w' => e = .returned (.int .i64 3) ∧ w.grownBy w' none := by
  have h21' := hid h21
  clear h21
  go_enter Try.func33, Try.ntmps33
  go_wp2_with fail
  refine (h21'.out _).mono ?_
  rintro e w1 ⟨rfl, hg⟩
  have hg' := hid hg
  clear hg
  go_wp2_with fail
  go_ret
  exact ⟨rfl, hg'.out⟩
set_option maxHeartbeats 1000000 in
set_option maxRecDepth 10000 in
theorem args33_other (s : ByteArray) (x : Int) (h21 : ∀ w, Calls Try.prog 21 #[.int .u32 x] w fun e w' => e = .returned (.string s) ∧ w.grownBy w' none) (h0 : (s.toList == [99, 108, 101, 97, 114]) = false) (h1 : (s.toList == [99, 108, 111, 99, 107]) = false) (h2 : (s.toList == [112, 97, 114, 115, 101]) = false) (h3 : (s.toList == [112, 97, 114, 115, 101, 102]) = false) (h4 : (s.toList == [103, 101, 116]) = false) (h5 : (s.toList == [115, 101, 116]) = false) (h6 : (s.toList == [97, 100, 100]) = false) (h7 : (s.toList == [109, 117, 108]) = false) (h8 : (s.toList == [100, 105, 118]) = false) (h9 : (s.toList == [116, 117, 114, 110]) = false) (h10 : (s.toList == [119, 97, 118, 101]) = false) (w : World) : Calls Try.prog 33 #[.int .u32 x] w fun e w' => e = .returned (.int .i64 1) ∧ w.grownBy w' none := by
  have h21' := hid h21
  clear h21
  go_enter Try.func33, Try.ntmps33
  go_wp2_with fail
  refine (h21'.out _).mono ?_
  rintro e w1 ⟨rfl, hg⟩
  have hg' := hid hg
  clear hg
  go_wp2_with fail
  go_ret
  exact ⟨rfl, hg'.out⟩
theorem args33 (k : Nat) (hk : k < 24) (x : Int) (hx : x = 16 + k) (w : World) : Calls Try.prog 33 #[.int .u32 x] w fun e w' => e = .returned (.int .i64 (ar k)) ∧ w.grownBy w' none := by
  have h21 := fun w => word21 k hk x hx w
  clear hx
  match k, hk with
  | 0, _ => exact args33_other _ x h21 (by rw [ByteArray.toList_eq]; decide) (by rw [ByteArray.toList_eq]; decide) (by rw [ByteArray.toList_eq]; decide) (by rw [ByteArray.toList_eq]; decide) (by rw [ByteArray.toList_eq]; decide) (by rw [ByteArray.toList_eq]; decide) (by rw [ByteArray.toList_eq]; decide) (by rw [ByteArray.toList_eq]; decide) (by rw [ByteArray.toList_eq]; decide) (by rw [ByteArray.toList_eq]; decide) (by rw [ByteArray.toList_eq]; decide) w
  | 1, _ => exact args33_other _ x h21 (by rw [ByteArray.toList_eq]; decide) (by rw [ByteArray.toList_eq]; decide) (by rw [ByteArray.toList_eq]; decide) (by rw [ByteArray.toList_eq]; decide) (by rw [ByteArray.toList_eq]; decide) (by rw [ByteArray.toList_eq]; decide) (by rw [ByteArray.toList_eq]; decide) (by rw [ByteArray.toList_eq]; decide) (by rw [ByteArray.toList_eq]; decide) (by rw [ByteArray.toList_eq]; decide) (by rw [ByteArray.toList_eq]; decide) w
  | 2, _ => exact args33_other _ x h21 (by rw [ByteArray.toList_eq]; decide) (by rw [ByteArray.toList_eq]; decide) (by rw [ByteArray.toList_eq]; decide) (by rw [ByteArray.toList_eq]; decide) (by rw [ByteArray.toList_eq]; decide) (by rw [ByteArray.toList_eq]; decide) (by rw [ByteArray.toList_eq]; decide) (by rw [ByteArray.toList_eq]; decide) (by rw [ByteArray.toList_eq]; decide) (by rw [ByteArray.toList_eq]; decide) (by rw [ByteArray.toList_eq]; decide) w
  | 3, _ => exact args33_other _ x h21 (by rw [ByteArray.toList_eq]; decide) (by rw [ByteArray.toList_eq]; decide) (by rw [ByteArray.toList_eq]; decide) (by rw [ByteArray.toList_eq]; decide) (by rw [ByteArray.toList_eq]; decide) (by rw [ByteArray.toList_eq]; decide) (by rw [ByteArray.toList_eq]; decide) (by rw [ByteArray.toList_eq]; decide) (by rw [ByteArray.toList_eq]; decide) (by rw [ByteArray.toList_eq]; decide) (by rw [ByteArray.toList_eq]; decide) w
  | 4, _ => exact args33_other _ x h21 (by rw [ByteArray.toList_eq]; decide) (by rw [ByteArray.toList_eq]; decide) (by rw [ByteArray.toList_eq]; decide) (by rw [ByteArray.toList_eq]; decide) (by rw [ByteArray.toList_eq]; decide) (by rw [ByteArray.toList_eq]; decide) (by rw [ByteArray.toList_eq]; decide) (by rw [ByteArray.toList_eq]; decide) (by rw [ByteArray.toList_eq]; decide) (by rw [ByteArray.toList_eq]; decide) (by rw [ByteArray.toList_eq]; decide) w
  | 5, _ => exact args33_clear _ x h21 (by rw [ByteArray.toList_eq]; decide) (by rw [ByteArray.toList_eq]; decide) (by rw [ByteArray.toList_eq]; decide) (by rw [ByteArray.toList_eq]; decide) (by rw [ByteArray.toList_eq]; decide) (by rw [ByteArray.toList_eq]; decide) (by rw [ByteArray.toList_eq]; decide) (by rw [ByteArray.toList_eq]; decide) (by rw [ByteArray.toList_eq]; decide) (by rw [ByteArray.toList_eq]; decide) (by rw [ByteArray.toList_eq]; decide) w
  | 6, _ => exact args33_other _ x h21 (by rw [ByteArray.toList_eq]; decide) (by rw [ByteArray.toList_eq]; decide) (by rw [ByteArray.toList_eq]; decide) (by rw [ByteArray.toList_eq]; decide) (by rw [ByteArray.toList_eq]; decide) (by rw [ByteArray.toList_eq]; decide) (by rw [ByteArray.toList_eq]; decide) (by rw [ByteArray.toList_eq]; decide) (by rw [ByteArray.toList_eq]; decide) (by rw [ByteArray.toList_eq]; decide) (by rw [ByteArray.toList_eq]; decide) w
  | 7, _ => exact args33_other _ x h21 (by rw [ByteArray.toList_eq]; decide) (by rw [ByteArray.toList_eq]; decide) (by rw [ByteArray.toList_eq]; decide) (by rw [ByteArray.toList_eq]; decide) (by rw [ByteArray.toList_eq]; decide) (by rw [ByteArray.toList_eq]; decide) (by rw [ByteArray.toList_eq]; decide) (by rw [ByteArray.toList_eq]; decide) (by rw [ByteArray.toList_eq]; decide) (by rw [ByteArray.toList_eq]; decide) (by rw [ByteArray.toList_eq]; decide) w
  | 8, _ => exact args33_parse _ x h21 (by rw [ByteArray.toList_eq]; decide) (by rw [ByteArray.toList_eq]; decide) (by rw [ByteArray.toList_eq]; decide) (by rw [ByteArray.toList_eq]; decide) (by rw [ByteArray.toList_eq]; decide) (by rw [ByteArray.toList_eq]; decide) (by rw [ByteArray.toList_eq]; decide) (by rw [ByteArray.toList_eq]; decide) (by rw [ByteArray.toList_eq]; decide) (by rw [ByteArray.toList_eq]; decide) (by rw [ByteArray.toList_eq]; decide) w
  | 9, _ => exact args33_parsef _ x h21 (by rw [ByteArray.toList_eq]; decide) (by rw [ByteArray.toList_eq]; decide) (by rw [ByteArray.toList_eq]; decide) (by rw [ByteArray.toList_eq]; decide) (by rw [ByteArray.toList_eq]; decide) (by rw [ByteArray.toList_eq]; decide) (by rw [ByteArray.toList_eq]; decide) (by rw [ByteArray.toList_eq]; decide) (by rw [ByteArray.toList_eq]; decide) (by rw [ByteArray.toList_eq]; decide) (by rw [ByteArray.toList_eq]; decide) w
  | 10, _ => exact args33_get _ x h21 (by rw [ByteArray.toList_eq]; decide) (by rw [ByteArray.toList_eq]; decide) (by rw [ByteArray.toList_eq]; decide) (by rw [ByteArray.toList_eq]; decide) (by rw [ByteArray.toList_eq]; decide) (by rw [ByteArray.toList_eq]; decide) (by rw [ByteArray.toList_eq]; decide) (by rw [ByteArray.toList_eq]; decide) (by rw [ByteArray.toList_eq]; decide) (by rw [ByteArray.toList_eq]; decide) (by rw [ByteArray.toList_eq]; decide) w
  | 11, _ => exact args33_set _ x h21 (by rw [ByteArray.toList_eq]; decide) (by rw [ByteArray.toList_eq]; decide) (by rw [ByteArray.toList_eq]; decide) (by rw [ByteArray.toList_eq]; decide) (by rw [ByteArray.toList_eq]; decide) (by rw [ByteArray.toList_eq]; decide) (by rw [ByteArray.toList_eq]; decide) (by rw [ByteArray.toList_eq]; decide) (by rw [ByteArray.toList_eq]; decide) (by rw [ByteArray.toList_eq]; decide) (by rw [ByteArray.toList_eq]; decide) w
  | 12, _ => exact args33_other _ x h21 (by rw [ByteArray.toList_eq]; decide) (by rw [ByteArray.toList_eq]; decide) (by rw [ByteArray.toList_eq]; decide) (by rw [ByteArray.toList_eq]; decide) (by rw [ByteArray.toList_eq]; decide) (by rw [ByteArray.toList_eq]; decide) (by rw [ByteArray.toList_eq]; decide) (by rw [ByteArray.toList_eq]; decide) (by rw [ByteArray.toList_eq]; decide) (by rw [ByteArray.toList_eq]; decide) (by rw [ByteArray.toList_eq]; decide) w
  | 13, _ => exact args33_other _ x h21 (by rw [ByteArray.toList_eq]; decide) (by rw [ByteArray.toList_eq]; decide) (by rw [ByteArray.toList_eq]; decide) (by rw [ByteArray.toList_eq]; decide) (by rw [ByteArray.toList_eq]; decide) (by rw [ByteArray.toList_eq]; decide) (by rw [ByteArray.toList_eq]; decide) (by rw [ByteArray.toList_eq]; decide) (by rw [ByteArray.toList_eq]; decide) (by rw [ByteArray.toList_eq]; decide) (by rw [ByteArray.toList_eq]; decide) w
  | 14, _ => exact args33_clock _ x h21 (by rw [ByteArray.toList_eq]; decide) (by rw [ByteArray.toList_eq]; decide) (by rw [ByteArray.toList_eq]; decide) (by rw [ByteArray.toList_eq]; decide) (by rw [ByteArray.toList_eq]; decide) (by rw [ByteArray.toList_eq]; decide) (by rw [ByteArray.toList_eq]; decide) (by rw [ByteArray.toList_eq]; decide) (by rw [ByteArray.toList_eq]; decide) (by rw [ByteArray.toList_eq]; decide) (by rw [ByteArray.toList_eq]; decide) w
  | 15, _ => exact args33_other _ x h21 (by rw [ByteArray.toList_eq]; decide) (by rw [ByteArray.toList_eq]; decide) (by rw [ByteArray.toList_eq]; decide) (by rw [ByteArray.toList_eq]; decide) (by rw [ByteArray.toList_eq]; decide) (by rw [ByteArray.toList_eq]; decide) (by rw [ByteArray.toList_eq]; decide) (by rw [ByteArray.toList_eq]; decide) (by rw [ByteArray.toList_eq]; decide) (by rw [ByteArray.toList_eq]; decide) (by rw [ByteArray.toList_eq]; decide) w
  | 16, _ => exact args33_other _ x h21 (by rw [ByteArray.toList_eq]; decide) (by rw [ByteArray.toList_eq]; decide) (by rw [ByteArray.toList_eq]; decide) (by rw [ByteArray.toList_eq]; decide) (by rw [ByteArray.toList_eq]; decide) (by rw [ByteArray.toList_eq]; decide) (by rw [ByteArray.toList_eq]; decide) (by rw [ByteArray.toList_eq]; decide) (by rw [ByteArray.toList_eq]; decide) (by rw [ByteArray.toList_eq]; decide) (by rw [ByteArray.toList_eq]; decide) w
  | 17, _ => exact args33_other _ x h21 (by rw [ByteArray.toList_eq]; decide) (by rw [ByteArray.toList_eq]; decide) (by rw [ByteArray.toList_eq]; decide) (by rw [ByteArray.toList_eq]; decide) (by rw [ByteArray.toList_eq]; decide) (by rw [ByteArray.toList_eq]; decide) (by rw [ByteArray.toList_eq]; decide) (by rw [ByteArray.toList_eq]; decide) (by rw [ByteArray.toList_eq]; decide) (by rw [ByteArray.toList_eq]; decide) (by rw [ByteArray.toList_eq]; decide) w
  | 18, _ => exact args33_add _ x h21 (by rw [ByteArray.toList_eq]; decide) (by rw [ByteArray.toList_eq]; decide) (by rw [ByteArray.toList_eq]; decide) (by rw [ByteArray.toList_eq]; decide) (by rw [ByteArray.toList_eq]; decide) (by rw [ByteArray.toList_eq]; decide) (by rw [ByteArray.toList_eq]; decide) (by rw [ByteArray.toList_eq]; decide) (by rw [ByteArray.toList_eq]; decide) (by rw [ByteArray.toList_eq]; decide) (by rw [ByteArray.toList_eq]; decide) w
  | 19, _ => exact args33_mul _ x h21 (by rw [ByteArray.toList_eq]; decide) (by rw [ByteArray.toList_eq]; decide) (by rw [ByteArray.toList_eq]; decide) (by rw [ByteArray.toList_eq]; decide) (by rw [ByteArray.toList_eq]; decide) (by rw [ByteArray.toList_eq]; decide) (by rw [ByteArray.toList_eq]; decide) (by rw [ByteArray.toList_eq]; decide) (by rw [ByteArray.toList_eq]; decide) (by rw [ByteArray.toList_eq]; decide) (by rw [ByteArray.toList_eq]; decide) w
  | 20, _ => exact args33_div _ x h21 (by rw [ByteArray.toList_eq]; decide) (by rw [ByteArray.toList_eq]; decide) (by rw [ByteArray.toList_eq]; decide) (by rw [ByteArray.toList_eq]; decide) (by rw [ByteArray.toList_eq]; decide) (by rw [ByteArray.toList_eq]; decide) (by rw [ByteArray.toList_eq]; decide) (by rw [ByteArray.toList_eq]; decide) (by rw [ByteArray.toList_eq]; decide) (by rw [ByteArray.toList_eq]; decide) (by rw [ByteArray.toList_eq]; decide) w
  | 21, _ => exact args33_turn _ x h21 (by rw [ByteArray.toList_eq]; decide) (by rw [ByteArray.toList_eq]; decide) (by rw [ByteArray.toList_eq]; decide) (by rw [ByteArray.toList_eq]; decide) (by rw [ByteArray.toList_eq]; decide) (by rw [ByteArray.toList_eq]; decide) (by rw [ByteArray.toList_eq]; decide) (by rw [ByteArray.toList_eq]; decide) (by rw [ByteArray.toList_eq]; decide) (by rw [ByteArray.toList_eq]; decide) (by rw [ByteArray.toList_eq]; decide) w
  | 22, _ => exact args33_other _ x h21 (by rw [ByteArray.toList_eq]; decide) (by rw [ByteArray.toList_eq]; decide) (by rw [ByteArray.toList_eq]; decide) (by rw [ByteArray.toList_eq]; decide) (by rw [ByteArray.toList_eq]; decide) (by rw [ByteArray.toList_eq]; decide) (by rw [ByteArray.toList_eq]; decide) (by rw [ByteArray.toList_eq]; decide) (by rw [ByteArray.toList_eq]; decide) (by rw [ByteArray.toList_eq]; decide) (by rw [ByteArray.toList_eq]; decide) w
  | 23, _ => exact args33_wave _ x h21 (by rw [ByteArray.toList_eq]; decide) (by rw [ByteArray.toList_eq]; decide) (by rw [ByteArray.toList_eq]; decide) (by rw [ByteArray.toList_eq]; decide) (by rw [ByteArray.toList_eq]; decide) (by rw [ByteArray.toList_eq]; decide) (by rw [ByteArray.toList_eq]; decide) (by rw [ByteArray.toList_eq]; decide) (by rw [ByteArray.toList_eq]; decide) (by rw [ByteArray.toList_eq]; decide) (by rw [ByteArray.toList_eq]; decide) w
  | n + 24, h => exact absurd h (by omega)
def grF (_ i : Nat) : Value := .int .u32 (16 + i : Nat)
def grG (_ i : Nat) : Value := .int .i64 (ar i)

set_option maxHeartbeats 1000000 in
set_option maxRecDepth 10000 in
theorem grants15 (w : World) : Calls Try.prog 15 #[] w fun e w' => ∃ v, e = .returned v ∧ w'.ownsRow w.heap.size 58 2 v 24 (pairsM grF grG 0 24) ∧ Below w.heap.size w w' := by
  go_enter Try.func15, Try.ntmps15
  go_wp2_with fail
  go_loopw [1, 2] (fun v i wr => ∃ (k : Nat) (v0 : Value), k ≤ 24 ∧ v0 = v ∧ i = .int .u32 ((16 + k : Nat) : Int) ∧ wr.ownsRow w.heap.size 58 2 v0 k (pairsM grF grG 0 k) ∧ Below w.heap.size w wr) (fun _ i _ => 40 - (intOf i).toNat)
  case atStart => exact ⟨0, _, by omega, rfl, rfl, World.ownsRow_nil _ _ 58 2, Below.refl _ _⟩
  case round =>
    obtain ⟨k, v, hk, rfl, rfl, ho, hb⟩ := hrel
    have hO := hid ho
    have hB := hid hb
    clear ho hb
    by_cases hlt : k < 24
    · have hle : (((16 + k : Nat) : Int) ≤ 39) = True := eq_true (by omega)
      have hpx := hid (pairsM_succ grF grG 0 k)
      have h33 := hid (fun w => args33 k hlt ((16 + k : Nat) : Int) (by omega) w)
      have hwr : IntKind.u32.wrap (((16 + k : Nat) : Int) + 1) = ((16 + (k + 1) : Nat) : Int) := by rw [IntKind.wrap_u32]; omega
      have hwr' := hid hwr
      have hgF : grF 0 k = .int .u32 ((16 + k : Nat) : Int) := rfl
      have hgG : grG 0 k = .int .i64 (ar k) := rfl
      rw [hgF, hgG] at hpx
      generalize ar k = y at *
      clear hgF hgG hwr
      obtain ⟨z, hz⟩ : ∃ z : Int, z = ((16 + k : Nat) : Int) := ⟨_, rfl⟩
      have hz' := hid hz
      rw [← hz] at hle hpx h33 hwr' ⊢
      clear hz
      go_wp2_with fail
      refine (h33.out _).mono ?_
      rintro e w1 ⟨rfl, hg⟩
      have hO1 := hid (hO.out.kept hg (by cases v.ownBlock <;> simp))
      have hB1 := hid (hB.out.trans ((below_of_grown hg).mono hB.out.size))
      have hsz := hB1.out.size
      clear hg
      go_wp2_with (at_builtin; go_must (refine wpList_append_new rfl _ _ 29 rfl w.heap.size 58 58 (.agg #[.int .u32 0, .int .i64 0]) 2 16 1 Try.underlying29 (by kernel_rfl) rfl (by decide) _ k _ [.int .u32 z, .int .i64 y] (0, 0) hO1.out rfl (by simp [Value.oneCell']) (by unfold maxLen; omega) (by omega) hsz rfl rfl ?_); intro v' w2 hown' hb' _)
      rw [← hpx.out] at hown'
      have hO2 := hid hown'
      have hB2 := hid (hB1.out.trans hb')
      clear hown' hb'
      go_roundw
      case rel => exact ⟨k + 1, _, by omega, rfl, val_int hwr'.out, hO2.out, hB2.out⟩
      case measure => have h1 := hz'.out; have h2 := hwr'.out; simp [intOf]; omega
    · obtain rfl : k = 24 := by omega
      go_wp2_with fail
      go_ret
      exact ⟨_, rfl, hO.out, hB.out⟩

end Go.Proofs.Ytmbdlhgclkbdiaa
