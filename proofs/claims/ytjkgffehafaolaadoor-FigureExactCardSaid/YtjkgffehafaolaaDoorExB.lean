/- Walks: the document's parts of a number. No condition. -/
import Derived.Test.YtjkgffehafaolaaDoorExA
import Derived.Laws.BitsAllLaws
import Derived.Laws.ResultCell
import Derived.Laws.Rows
namespace Go.Proofs.YtjkgffehafaolaaDoor
open Go.RowKit
set_option linter.unusedVariables false
set_option linter.unusedSimpArgs false

abbrev FmV : Value := .agg #[.int .i64 52, .int .i64 11, .int .i64 (-1074)]
set_option maxRecDepth 100000 in
set_option maxHeartbeats 1000000 in
theorem sign15 (w : World) : Calls Tryd.prog 15 #[FmV] w fun e w' => e = .returned (.int .u64 9223372036854775808) ∧ Below w.heap.size w w' := by
  go_enter Tryd.func15, Tryd.ntmps15
  go_wp2_with fail
  go_ret
  exact ⟨rfl, (Below.refl _ _).alloc (Nat.le_refl _) _⟩
set_option maxRecDepth 100000 in
set_option maxHeartbeats 1000000 in
theorem endless25 (w : World) : Calls Tryd.prog 25 #[FmV] w fun e w' => e = .returned (.int .u64 9218868437227405312) ∧ Below w.heap.size w w' := by
  go_enter Tryd.func25, Tryd.ntmps25
  go_wp2_with fail
  go_ret
  exact ⟨rfl, (Below.refl _ _).alloc (Nat.le_refl _) _⟩
/-- with its sign -/
def sgF (b : Int) (s : ByteArray) : ByteArray := if 9223372036854775808 ≤ b then ⟨#[45]⟩ ++ s else s
set_option maxRecDepth 100000 in
set_option maxHeartbeats 1000000 in
theorem signed16 (b : Int) (s : ByteArray) (hs : s.size ≤ 1048576) (w : World) : Calls Tryd.prog 16 #[FmV, .int .u64 b, .string s] w fun e w' => e = .returned (.string (sgF b s)) ∧ Below w.heap.size w w' := by
  have h0 : Below w.heap.size w (w.alloc (.cells #[.int .i64 52, .int .i64 11, .int .i64 (-1074)] 39)) := (Below.refl _ _).alloc (Nat.le_refl _) _
  have hB := hid h0
  have c := hid (sign15 (w.alloc (.cells #[.int .i64 52, .int .i64 11, .int .i64 (-1074)] 39)))
  clear h0
  by_cases h : 9223372036854775808 ≤ b
  · rw [show sgF b s = ⟨#[45]⟩ ++ s from if_pos h]
    go_enter Tryd.func16, Tryd.ntmps16
    go_wp2_with fail
    refine c.out.mono ?_
    rintro e w2 ⟨rfl, hb⟩
    have hB2 := hid (hB.out.trans (hb.mono hB.out.size))
    clear hb c
    go_wp2_with fail
    go_ret
    exact ⟨rfl, hB2.out⟩
  · rw [show sgF b s = s from if_neg h]
    go_enter Tryd.func16, Tryd.ntmps16
    go_wp2_with fail
    refine c.out.mono ?_
    rintro e w2 ⟨rfl, hb⟩
    have hB2 := hid (hB.out.trans (hb.mono hB.out.size))
    clear hb c
    go_wp2_with fail
    go_ret
    exact ⟨rfl, hB2.out⟩
theorem and52 (r : Nat) (hr : r < 18446744073709551616) : bits .and .u64 (r : Int) 4503599627370495 = ((r % 4503599627370496 : Nat) : Int) := by
  have h := u64_and_nat r 4503599627370495 hr (by decide)
  rw [show ((4503599627370495 : Nat) : Int) = 4503599627370495 from rfl] at h
  rw [h]
  exact congrArg Int.ofNat (Nat.and_two_pow_sub_one_eq_mod r 52)
/-- the parts of a number without a sign -/
def mantF (r : Nat) : Nat := if r / 4503599627370496 = 0 then r else r % 4503599627370496 + 4503599627370496
def powF (r : Nat) : Int := if r / 4503599627370496 = 0 then -1074 else -1075 + ((r / 4503599627370496 : Nat) : Int)
set_option maxRecDepth 100000 in
set_option maxHeartbeats 2000000 in
theorem parts14 (r : Nat) (hr : r < 9218868437227405312) (w : World) : Calls Tryd.prog 14 #[FmV, .int .u64 r] w fun e w' => e = .returned (.tuple #[.int .u64 (mantF r), .int .i64 (powF r)]) ∧ Below w.heap.size w w' := by
  have hB := hid ((Below.refl w.heap.size w).alloc (Nat.le_refl _) (.cells #[.int .i64 52, .int .i64 11, .int .i64 (-1074)] 39))
  by_cases h0 : r / 4503599627370496 = 0
  · have h1 : (r : Int) / 4503599627370496 = 0 := by omega
    have hm : mantF r = r := by unfold mantF; rw [if_pos h0]
    have hp : powF r = -1074 := by unfold powF; rw [if_pos h0]
    have h3 : (r : Int) % 4503599627370496 = r := by omega
    rw [hm, hp]
    go_enter Tryd.func14, Tryd.ntmps14
    go_wp2_with fail
    go_region
    go_wp2_with fail
    rw [and52 r (by omega), show ((r % 4503599627370496 : Nat) : Int) = r by omega]
    go_ret2
    exact ⟨rfl, hB.out.drew⟩
  · have h1 : ((r : Int) / 4503599627370496 == 0) = false := beq_eq_false_iff_ne.2 (by omega)
    go_enter Tryd.func14, Tryd.ntmps14
    go_wp2_with fail
    go_region
    go_wp2_with fail
    rw [and52 r (by omega), show IntKind.u64.wrap (((r % 4503599627370496 : Nat) : Int) + 4503599627370496) = ((mantF r : Nat) : Int) by unfold mantF; rw [if_neg h0, IntKind.wrap_u64]; omega, show (-1074 + (r : Int) / 4503599627370496 - 1) = powF r by unfold powF; rw [if_neg h0]; omega]
    go_ret2
    exact ⟨rfl, hB.out.drew⟩
set_option maxRecDepth 100000 in
set_option maxHeartbeats 1000000 in
theorem whole12 (w : World) : Calls Tryd.prog 12 #[] w fun e w' => e = .returned FmV ∧ Below w.heap.size w w' := by
  go_enter Tryd.func12, Tryd.ntmps12
  go_wp2_with fail
  refine bodyPost_ret (v := FmV) (results_cell_row rfl _ _ w.heap.size _ _ _ _ rfl (heap_alloc_new w _) Tryd.underlying39 rfl (by kernel_rfl)) rfl ?_
  exact ⟨rfl, (Below.refl w.heap.size w).alloc (Nat.le_refl _) _⟩
def specF (b : Int) (s : ByteArray) : ByteArray × Bool :=
  if 9218868437227405312 < b % 9223372036854775808 then (⟨#[110, 97, 110]⟩, true) else if b % 9223372036854775808 = 9218868437227405312 then (sgF b ⟨#[105, 110, 102]⟩, true) else if b % 9223372036854775808 = 0 then (sgF b s, true) else (⟨#[]⟩, false)
set_option maxRecDepth 100000 in
set_option maxHeartbeats 2000000 in
theorem special13 (b : Int) (h0 : 0 ≤ b) (s : ByteArray) (hs : s.size ≤ 1048576) (w : World) : Calls Tryd.prog 13 #[FmV, .int .u64 b, .string s] w fun e w' => e = .returned (.tuple #[.string (specF b s).1, .bool (specF b s).2]) ∧ Below w.heap.size w w' := by
  have hB0 := hid ((Below.refl w.heap.size w).alloc (Nat.le_refl _) (.cells #[.int .i64 52, .int .i64 11, .int .i64 (-1074)] 39))
  obtain ⟨W, hW⟩ : ∃ x : World, x = w.alloc (.cells #[.int .i64 52, .int .i64 11, .int .i64 (-1074)] 39) := ⟨_, rfl⟩
  have hX : ∀ w' : World, Below W.heap.size W w' → w'.cell? ⟨w.heap.size, 0, none⟩ = some (.int .i64 52) ∧ w'.cell? ⟨w.heap.size, 1, none⟩ = some (.int .i64 11) ∧ w'.cell? ⟨w.heap.size, 2, none⟩ = some (.int .i64 (-1074)) := fun w' hb => by
    refine ⟨(hb.cell ?_).trans ?_, (hb.cell ?_).trans ?_, (hb.cell ?_).trans ?_⟩ <;> simp [hW]
  rw [← hW] at hB0
  have HX := hid hX
  have c := hid (sign15 W)
  obtain ⟨r, hr⟩ : ∃ r, r = b % 9223372036854775808 := ⟨_, rfl⟩
  have hR := hid hr
  have hsp : specF b s = if 9218868437227405312 < r then (⟨#[110, 97, 110]⟩, true) else if r = 9218868437227405312 then (sgF b ⟨#[105, 110, 102]⟩, true) else if r = 0 then (sgF b s, true) else (⟨#[]⟩, false) := by rw [hr]; rfl
  obtain ⟨R, hRR⟩ : ∃ R, R = specF b s := ⟨_, rfl⟩
  rw [← hRR]
  have HS := hid (hRR.trans hsp)
  clear hX hsp hRR
  go_enter Tryd.func13, Tryd.ntmps13
  go_wp2_with fail
  rw [← hW]
  clear hW
  refine c.out.mono ?_
  rintro e w2 ⟨rfl, hb2⟩
  have hB2 := hid hb2
  have x := HX.out w2 hb2
  obtain ⟨x0, x1, x2⟩ := x
  have c2 := hid (endless25 w2)
  clear hb2 c
  have hr2 : b % 9223372036854775808 = r := hr.symm
  have hr3 : b.tmod 9223372036854775808 = r := by rw [hr, Int.tmod_eq_emod_of_nonneg h0]
  clear hr
  go_wp2_with fail
  clear hr2 hr3
  refine c2.out.mono ?_
  rintro e w3 ⟨rfl, hb3⟩
  have hB3 := hid (hB2.out.trans (hb3.mono hB2.out.size))
  clear hb3 c2 x0 x1 x2
  by_cases h1 : 9218868437227405312 < r
  · have E := hid (show R = (⟨#[110, 97, 110]⟩, true) by rw [HS.out, if_pos h1])
    go_wp2_with fail
    go_ret2
    exact ⟨by rw [E.out]; rfl, hB0.out.trans (hB3.out.mono hB0.out.size)⟩
  have H1 := hid h1
  obtain ⟨x0, x1, x2⟩ := HX.out w3 hB3.out
  have c3 := hid (endless25 w3)
  go_wp2_with fail
  refine c3.out.mono ?_
  rintro e w4 ⟨rfl, hb4⟩
  have hB4 := hid (hB3.out.trans (hb4.mono hB3.out.size))
  clear hb4 c3 x0 x1 x2
  obtain ⟨x0, x1, x2⟩ := HX.out w4 hB4.out
  by_cases h2 : r = 9218868437227405312
  · have E := hid (show R = (sgF b ⟨#[105, 110, 102]⟩, true) by rw [HS.out, if_neg (show ¬ 9218868437227405312 < r by have := H1.out; omega), if_pos h2])
    have c4 := hid (signed16 b ⟨#[105, 110, 102]⟩ (by decide) w4)
    go_wp2_with fail
    refine c4.out.mono ?_
    rintro e w5 ⟨rfl, hb5⟩
    have hB5 := hid (hB4.out.trans (hb5.mono hB4.out.size))
    clear hb5 c4 x0 x1 x2
    go_wp2_with fail
    go_ret2
    exact ⟨by rw [E.out]; rfl, hB0.out.trans (hB5.out.mono hB0.out.size)⟩
  have H2 := hid h2
  have h2b : (r == 9218868437227405312) = false := beq_eq_false_iff_ne.2 h2
  by_cases h3 : r = 0
  · have E := hid (show R = (sgF b s, true) by rw [HS.out, if_neg (show ¬ 9218868437227405312 < r by have := H1.out; omega), if_neg (show ¬ r = 9218868437227405312 by have := H2.out; omega), if_pos h3])
    have c4 := hid (signed16 b s hs w4)
    go_wp2_with fail
    refine c4.out.mono ?_
    rintro e w5 ⟨rfl, hb5⟩
    have hB5 := hid (hB4.out.trans (hb5.mono hB4.out.size))
    clear hb5 c4 x0 x1 x2
    go_wp2_with fail
    go_ret2
    exact ⟨by rw [E.out]; rfl, hB0.out.trans (hB5.out.mono hB0.out.size)⟩
  have E := hid (show R = (⟨#[]⟩, false) by rw [HS.out, if_neg (show ¬ 9218868437227405312 < r by have := H1.out; omega), if_neg (show ¬ r = 9218868437227405312 by have := H2.out; omega), if_neg h3])
  have h3b : (r == 0) = false := beq_eq_false_iff_ne.2 h3
  go_wp2_with fail
  go_ret2
  exact ⟨by rw [E.out]; rfl, hB0.out.trans (hB4.out.mono hB0.out.size)⟩

end Go.Proofs.YtjkgffehafaolaaDoor
