/- Walks: FigureWord: figure.Word. -/
import Derived.Test.YtmbdlhgclkbdiaaWordP
namespace Go.Proofs.Ytmbdlhgclkbdiaa
open Go.RowKit
set_option linter.unusedVariables false
set_option linter.unusedSimpArgs false

def isM (s : ByteArray) : Prop := byt s 0 = 45 ∧ 0 < s.size
def isX (s : ByteArray) : Prop := (byt s 0 = 48 ∧ byt s 1 = 120) ∧ 1 < s.size
def isB (s : ByteArray) : Prop := (byt s 0 = 48 ∧ byt s 1 = 98) ∧ 1 < s.size
instance (s : ByteArray) : Decidable (isM s) := by unfold isM; infer_instance
instance (s : ByteArray) : Decidable (isX s) := by unfold isX; infer_instance
instance (s : ByteArray) : Decidable (isB s) := by unfold isB; infer_instance
theorem preM (s : ByteArray) : pre s ⟨#[45]⟩ = decide (isM s) := by rw [pre1, decide_eq_decide]; exact Iff.rfl
theorem preX (s : ByteArray) : pre s ⟨#[48, 120]⟩ = decide (isX s) := by rw [pre2, decide_eq_decide]; exact Iff.rfl
theorem preB (s : ByteArray) : pre s ⟨#[48, 98]⟩ = decide (isB s) := by rw [pre2, decide_eq_decide]; exact Iff.rfl

def finV (neg : Bool) (r : Int × Int × Int) : Int × Int × Int :=
  if r.2.2 = 0 then (if neg = true then (4294967296 - r.1) % 4294967296 else r.1, 0, 0) else (0, r.2.1, r.2.2)
/-- what a text's word is: number, place, errno -/
def wordV (s : ByteArray) : Int × Int × Int :=
  if 64 < s.size then (0, 64, 42)
  else if isM s then finV true (digs 10 2147483648 s 1)
  else if isX s then finV false (digs 16 4294967295 s 2)
  else if isB s then finV false (digs 2 4294967295 s 2)
  else finV false (digs 10 4294967295 s 0)
theorem fin_ok {neg : Bool} {v p : Int} : finV neg (v, p, 0) = (if neg = true then (4294967296 - v) % 4294967296 else v, 0, 0) := by unfold finV; simp
theorem fin_no {neg : Bool} {v p q : Int} (h : q ≠ 0) : finV neg (v, p, q) = (0, p, q) := by unfold finV; simp [h]

theorem trip3 {x y z : Int} {r : Int × Int × Int} (h : r = (x, y, z)) : Ending.returned (.tuple #[.int .u32 x, .int .i64 y, .int .i64 z]) = .returned (.tuple #[.int .u32 r.1, .int .i64 r.2.1, .int .i64 r.2.2]) := by rw [h]


set_option maxHeartbeats 1000000 in
theorem word28M (s : ByteArray) (w : World) (hle : s.size ≤ 64) (hM : isM s) :
    Calls Try.prog 28 #[.string s] w fun e w' => e = .returned (.tuple #[.int .u32 (wordV s).1, .int .i64 (wordV s).2.1, .int .i64 (wordV s).2.2]) ∧ w = w' := by
  have hn : ¬ 64 < s.size := by omega
  have hV : Hid (wordV s = finV true (digs 10 2147483648 s 1)) := by
    unfold Hid wordV
    rw [if_neg hn, if_pos hM]
  have hX : ¬ isX s := by unfold isX; unfold isM at hM; omega
  have hB : ¬ isB s := by unfold isB; unfold isM at hM; omega
  have pX := hid ((preX s).trans (decide_eq_false hX))
  have pB := hid ((preB s).trans (decide_eq_false hB))
  have pM := hid ((preM s).trans (decide_eq_true hM))
  have hat : 1 ≤ s.size := (by unfold isM at hM; omega)
  have hbd := digs_bd 10 2147483648 s 1 (by decide) (by decide)
  have hdig := hid (digits52 s 1 10 2147483648 w hle hat (by decide) (by decide) (by decide) (by decide))
  clear hM hX hB
  go_enter Try.func28, Try.ntmps28
  go_wp2_with fail
  refine (prefix51 s ⟨#[48, 120]⟩ w (by omega) (by decide)).mono ?_
  rintro e w1 ⟨rfl, rfl⟩
  rw [pX.out]
  go_wp2_with fail
  refine (prefix51 s ⟨#[48, 98]⟩ w (by omega) (by decide)).mono ?_
  rintro e w1 ⟨rfl, rfl⟩
  rw [pB.out]
  go_wp2_with fail
  refine (prefix51 s ⟨#[45]⟩ w (by omega) (by decide)).mono ?_
  rintro e w1 ⟨rfl, rfl⟩
  rw [pM.out]
  go_wp2_with fail
  refine hdig.out.mono ?_
  rintro e w1 ⟨rfl, rfl⟩
  clear hdig
  generalize digs 10 2147483648 s 1 = r at *
  obtain ⟨v, p, q⟩ := r
  simp only [] at hbd ⊢
  by_cases hq : q = 0
  · subst hq
    have hV2 := hid (hV.out.trans fin_ok)
    have hw0 : IntKind.u64.wrap (-v) = (18446744073709551616 - v) % 18446744073709551616 := by rw [IntKind.wrap_u64]; omega
    have hw1 : IntKind.u32.wrap ((18446744073709551616 - v) % 18446744073709551616) = (4294967296 - v) % 4294967296 := by rw [IntKind.wrap_u32]; omega
    go_wp2_with fail
    go_ret3
    exact ⟨trip3 (hV2.out.trans (by simp)), rfl⟩
  · have hV2 := hid (hV.out.trans (fin_no hq))
    have hq1 : (q == 0) = false := by rw [beq_eq_false_iff_ne]; exact hq
    have hq2 : (q != 0) = true := by rw [bne_iff_ne]; exact hq
    have hw0 : IntKind.u64.wrap (-v) = (18446744073709551616 - v) % 18446744073709551616 := by rw [IntKind.wrap_u64]; omega
    clear hq
    go_wp2_with fail
    go_ret3
    exact ⟨trip3 hV2.out, rfl⟩

set_option maxHeartbeats 1000000 in
theorem word28X (s : ByteArray) (w : World) (hle : s.size ≤ 64) (hM : ¬ isM s) (hX : isX s) :
    Calls Try.prog 28 #[.string s] w fun e w' => e = .returned (.tuple #[.int .u32 (wordV s).1, .int .i64 (wordV s).2.1, .int .i64 (wordV s).2.2]) ∧ w = w' := by
  have hn : ¬ 64 < s.size := by omega
  have hV : Hid (wordV s = finV false (digs 16 4294967295 s 2)) := by
    unfold Hid wordV
    rw [if_neg hn, if_neg hM, if_pos hX]
  have hB : ¬ isB s := by unfold isB; unfold isX at hX; omega
  have pX := hid ((preX s).trans (decide_eq_true hX))
  have hat : 2 ≤ s.size := (by unfold isX at hX; omega)
  have hbd := digs_bd 16 4294967295 s 2 (by decide) (by decide)
  have hdig := hid (digits52 s 2 16 4294967295 w hle hat (by decide) (by decide) (by decide) (by decide))
  clear hM hX hB
  go_enter Try.func28, Try.ntmps28
  go_wp2_with fail
  refine (prefix51 s ⟨#[48, 120]⟩ w (by omega) (by decide)).mono ?_
  rintro e w1 ⟨rfl, rfl⟩
  rw [pX.out]
  go_wp2_with fail
  refine hdig.out.mono ?_
  rintro e w1 ⟨rfl, rfl⟩
  clear hdig
  generalize digs 16 4294967295 s 2 = r at *
  obtain ⟨v, p, q⟩ := r
  simp only [] at hbd ⊢
  by_cases hq : q = 0
  · subst hq
    have hV2 := hid (hV.out.trans fin_ok)
    go_wp2_with fail
    go_ret3
    exact ⟨trip3 (hV2.out.trans (by simp)), rfl⟩
  · have hV2 := hid (hV.out.trans (fin_no hq))
    have hq1 : (q == 0) = false := by rw [beq_eq_false_iff_ne]; exact hq
    have hq2 : (q != 0) = true := by rw [bne_iff_ne]; exact hq
    clear hq
    go_wp2_with fail
    go_ret3
    exact ⟨trip3 hV2.out, rfl⟩

set_option maxHeartbeats 1000000 in
theorem word28B (s : ByteArray) (w : World) (hle : s.size ≤ 64) (hM : ¬ isM s) (hX : ¬ isX s) (hB : isB s) :
    Calls Try.prog 28 #[.string s] w fun e w' => e = .returned (.tuple #[.int .u32 (wordV s).1, .int .i64 (wordV s).2.1, .int .i64 (wordV s).2.2]) ∧ w = w' := by
  have hn : ¬ 64 < s.size := by omega
  have hV : Hid (wordV s = finV false (digs 2 4294967295 s 2)) := by
    unfold Hid wordV
    rw [if_neg hn, if_neg hM, if_neg hX, if_pos hB]
  have pX := hid ((preX s).trans (decide_eq_false hX))
  have pB := hid ((preB s).trans (decide_eq_true hB))
  have hat : 2 ≤ s.size := (by unfold isB at hB; omega)
  have hbd := digs_bd 2 4294967295 s 2 (by decide) (by decide)
  have hdig := hid (digits52 s 2 2 4294967295 w hle hat (by decide) (by decide) (by decide) (by decide))
  clear hM hX hB
  go_enter Try.func28, Try.ntmps28
  go_wp2_with fail
  refine (prefix51 s ⟨#[48, 120]⟩ w (by omega) (by decide)).mono ?_
  rintro e w1 ⟨rfl, rfl⟩
  rw [pX.out]
  go_wp2_with fail
  refine (prefix51 s ⟨#[48, 98]⟩ w (by omega) (by decide)).mono ?_
  rintro e w1 ⟨rfl, rfl⟩
  rw [pB.out]
  go_wp2_with fail
  refine hdig.out.mono ?_
  rintro e w1 ⟨rfl, rfl⟩
  clear hdig
  generalize digs 2 4294967295 s 2 = r at *
  obtain ⟨v, p, q⟩ := r
  simp only [] at hbd ⊢
  by_cases hq : q = 0
  · subst hq
    have hV2 := hid (hV.out.trans fin_ok)
    go_wp2_with fail
    go_ret3
    exact ⟨trip3 (hV2.out.trans (by simp)), rfl⟩
  · have hV2 := hid (hV.out.trans (fin_no hq))
    have hq1 : (q == 0) = false := by rw [beq_eq_false_iff_ne]; exact hq
    have hq2 : (q != 0) = true := by rw [bne_iff_ne]; exact hq
    clear hq
    go_wp2_with fail
    go_ret3
    exact ⟨trip3 hV2.out, rfl⟩

set_option maxHeartbeats 1000000 in
theorem word28N (s : ByteArray) (w : World) (hle : s.size ≤ 64) (hM : ¬ isM s) (hX : ¬ isX s) (hB : ¬ isB s) :
    Calls Try.prog 28 #[.string s] w fun e w' => e = .returned (.tuple #[.int .u32 (wordV s).1, .int .i64 (wordV s).2.1, .int .i64 (wordV s).2.2]) ∧ w = w' := by
  have hn : ¬ 64 < s.size := by omega
  have hV : Hid (wordV s = finV false (digs 10 4294967295 s 0)) := by
    unfold Hid wordV
    rw [if_neg hn, if_neg hM, if_neg hX, if_neg hB]
  have pX := hid ((preX s).trans (decide_eq_false hX))
  have pB := hid ((preB s).trans (decide_eq_false hB))
  have pM := hid ((preM s).trans (decide_eq_false hM))
  have hat : 0 ≤ s.size := (by omega)
  have hbd := digs_bd 10 4294967295 s 0 (by decide) (by decide)
  have hdig := hid (digits52 s 0 10 4294967295 w hle hat (by decide) (by decide) (by decide) (by decide))
  clear hM hX hB
  go_enter Try.func28, Try.ntmps28
  go_wp2_with fail
  refine (prefix51 s ⟨#[48, 120]⟩ w (by omega) (by decide)).mono ?_
  rintro e w1 ⟨rfl, rfl⟩
  rw [pX.out]
  go_wp2_with fail
  refine (prefix51 s ⟨#[48, 98]⟩ w (by omega) (by decide)).mono ?_
  rintro e w1 ⟨rfl, rfl⟩
  rw [pB.out]
  go_wp2_with fail
  refine (prefix51 s ⟨#[45]⟩ w (by omega) (by decide)).mono ?_
  rintro e w1 ⟨rfl, rfl⟩
  rw [pM.out]
  go_wp2_with fail
  refine hdig.out.mono ?_
  rintro e w1 ⟨rfl, rfl⟩
  clear hdig
  generalize digs 10 4294967295 s 0 = r at *
  obtain ⟨v, p, q⟩ := r
  simp only [] at hbd ⊢
  by_cases hq : q = 0
  · subst hq
    have hV2 := hid (hV.out.trans fin_ok)
    go_wp2_with fail
    go_ret3
    exact ⟨trip3 (hV2.out.trans (by simp)), rfl⟩
  · have hV2 := hid (hV.out.trans (fin_no hq))
    have hq1 : (q == 0) = false := by rw [beq_eq_false_iff_ne]; exact hq
    have hq2 : (q != 0) = true := by rw [bne_iff_ne]; exact hq
    clear hq
    go_wp2_with fail
    go_ret3
    exact ⟨trip3 hV2.out, rfl⟩

theorem word28 (s : ByteArray) (w : World) (hs : s.size ≤ 9223372036854775807) :
    Calls Try.prog 28 #[.string s] w fun e w' => e = .returned (.tuple #[.int .u32 (wordV s).1, .int .i64 (wordV s).2.1, .int .i64 (wordV s).2.2]) ∧ w = w' := by
  by_cases h : 64 < s.size
  · have hr : Hid (wordV s = (0, 64, 42)) := by unfold Hid wordV; rw [if_pos h]
    go_enter Try.func28, Try.ntmps28
    go_wp2_with fail
    go_ret3
    exact ⟨trip3 hr.out, rfl⟩
  · by_cases hM : isM s
    · exact word28M s w (by omega) hM
    · by_cases hX : isX s
      · exact word28X s w (by omega) hM hX
      · by_cases hB : isB s
        · exact word28B s w (by omega) hM hX hB
        · exact word28N s w (by omega) hM hX hB
end Go.Proofs.Ytmbdlhgclkbdiaa
