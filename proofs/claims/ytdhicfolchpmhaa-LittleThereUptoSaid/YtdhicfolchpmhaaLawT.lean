/- Walks: LittleThere (arguments of bulk at most 2^20). -/
import Derived.Test.YtdhicfolchpmhaaLawS
namespace Go.Proofs.Ytdhicfolchpmhaa
open Go.RowKit
set_option linter.unusedVariables false
set_option linter.unusedSimpArgs false


set_option maxHeartbeats 2000000 in
set_option maxRecDepth 100000 in
theorem there1 (w : World) (ao : Option Addr) (cap : Nat) (l : List Int) (hi : Ints .u64 w ao l) (hcap : l.length ≤ cap) (bo : Option Addr) (cap2 : Nat) (b : List Int) (hj : Ints .u8 w bo b) (hcap2 : b.length ≤ cap2) (y : Int) (hy : -9223372036854775808 ≤ y ∧ y ≤ 9223372036854775807) (hw : wid y = 1)
    (hB : cap + cap2 ≤ 1048576) :
    Calls Try.prog 7 #[.slice ao l.length cap, .slice bo b.length cap2, .int .i64 y] w fun e w' => e = .returned (.bool true) ∧ Below w.heap.size w w' := by
  have hI := hid hi
  have hJ := hid hj
  clear hi hj
  have hW := hid hw
  clear hw
  have hbyt := hid (byt_of_ints hJ.out)
  go_enter Try.func7, Try.ntmps7
  go_wp2_with fail
  refine (width_any _ _ hy).mono ?_
  rintro e w' ⟨rfl, rfl⟩
  rw [hW.out]
  go_wp2_with fail
  refine (cut1 _ _ _ l _ rfl (by omega) hI.out).mono ?_
  rintro e w1 ⟨v1, rfl, ho1, hb1⟩
  have hxb := hid (cutL_bd 1 l)
  have hxl := hid (cutL_len 1 l)
  obtain ⟨xs, hxs⟩ : ∃ xs, xs = cutL 1 l := ⟨_, rfl⟩
  rw [← hxs] at ho1 hxb hxl
  clear hxs
  obtain ⟨a1, c1, hv1, hI1, -, hc1, -⟩ := ints_of_own ho1 (fun x hx => wf_u64.2 (by have := hxb.out x hx; omega))
  subst hv1
  have hX1 := hid hI1
  have hB1 := hid hb1
  have hJ1 := hid (hJ.out.mono hb1)
  have hxle : xs.length ≤ 1048576 := by have := hxl.out; omega
  have hnx : (l.length : Int) = xs.length := by rw [hxl.out]
  have hNX := hid hnx
  clear ho1 hI1 hb1 hnx
  go_wp2_with fail
  refine (lput1 _ _ _ xs _ rfl (by omega) hX1.out hxb.out).mono ?_
  rintro e w2 ⟨v2, rfl, ho2, hb2⟩
  have hpl := hid (putL_len 1 xs)
  have hpb := hid (putL_byt 1 xs)
  have hap := hid (all_put 1 (by decide) xs hxb.out)
  obtain ⟨P, hP⟩ : ∃ P, P = putL 1 xs := ⟨_, rfl⟩
  rw [← hP] at ho2 hpl hpb hap
  clear hP
  obtain ⟨a2, c2, hv2, hI2, -, hc2, -⟩ := ints_of_own ho2 (ints_of_byt hpb.out)
  subst hv2
  have hX2 := hid hI2
  have hB2 := hid (hB1.out.trans (hb2.mono hB1.out.size))
  have hX1b := hid (hX1.out.mono hb2)
  have hJ2 := hid (hJ1.out.mono hb2)
  have hPl : P.length ≤ 8388608 := by have := hpl.out; omega
  clear ho2 hI2 hb2
  have hr : Hid (allR 1 P = (xs, 0)) := by
    unfold Hid allR
    rw [if_pos (by rw [hpl.out]; omega), hap.out]
  go_wp2_with fail
  refine (lall1 _ _ _ P _ rfl (by omega) (by rw [hr.out]; show xs.length * 8 ≤ 140737488351232; omega) hc2 hX2.out).mono ?_
  rintro e w3 ⟨v3, rfl, ho3, hb3⟩
  rw [hr.out] at ho3 ⊢
  obtain ⟨a3, c3, hv3, hI3, -, hc3, -⟩ := ints_of_own ho3 (fun x hx => wf_u64.2 (by have := hxb.out x hx; omega))
  subst hv3
  have hX3 := hid hI3
  have hB3 := hid (hB2.out.trans (hb3.mono hB2.out.size))
  have hX1c := hid (hX1b.out.mono hb3)
  have hJ3 := hid (hJ2.out.mono hb3)
  clear ho3 hI3 hb3
  have hmul : IntKind.i64.wrap (1 * (xs.length : Int)) = 1 * (xs.length : Int) := IntWalk.i64_in _ (by omega)
  have hne : ((P.length : Int) != 1 * (xs.length : Int)) = false := by rw [bne_eq_false_iff_eq]; have := hpl.out; omega
  have hne1 : ((P.length : Int) != (xs.length : Int)) = false ∨ 1 ≠ 1 := by
    by_cases h : (1 : Nat) = 1
    · left; rw [bne_eq_false_iff_eq]; have := hpl.out; omega
    · exact .inr h
  simp only [ne_eq, not_true_eq_false, or_false] at hne1
  go_wp2_with fail
  refine (samen_any _ _ c3 xs _ _ c1 xs _ rfl rfl (by omega) hX3.out hX1c.out).mono ?_
  rintro e w4 ⟨rfl, q4, rfl⟩
  rw [show decide (xs = xs) = true from decide_eq_true rfl]
  have hJ4 : Hid (Ints .u8 (w3.drewN q4) bo b) := hJ3.out.drewN q4
  have hB4 : Hid (Below w.heap.size w (w3.drewN q4)) := below_drewN' hB3.out q4
  go_wp2_with fail
  obtain ⟨w5, hw5⟩ : ∃ w5, w5 = w3.drewN q4 := ⟨_, rfl⟩
  rw [← hw5] at hJ4 hB4 ⊢
  clear hw5
  have hrb : (allR 1 b).1.length ≤ b.length := by
    unfold allR
    split
    · rw [allL_len]; exact Nat.div_le_self _ _
    · simp
  refine (lall1 _ _ _ b _ rfl (by omega) (by omega) hcap2 hJ4.out).mono ?_
  rintro e w6 ⟨v6, rfl, ho6, hb6⟩
  have hB6 := hid (hB4.out.trans (hb6.mono hB4.out.size))
  have hJ6 := hid (hJ4.out.mono hb6)
  have hO6 := hid ho6
  clear ho6 hb6 hrb
  by_cases hmod : b.length % 1 = 0
  · have hra : Hid (allR 1 b = (allL 1 b, 0)) := by unfold Hid allR; rw [if_pos hmod]
    rw [hra.out] at hO6 ⊢
    have hback := hid (put_all 1 (by decide) b hbyt.out hmod)
    have hlm := hid (allL_len 1 b)
    have hmb : Hid (∀ x ∈ allL 1 b, 0 ≤ x ∧ x < 256 ^ 1) := by
      intro x hx
      simp only [allL] at hx
      obtain ⟨i, hi, rfl⟩ := List.mem_map.1 hx
      have h1 := num_bd _ (chunk_byt hbyt.out (w := 1) i)
      have h2 : (chunk 1 b i).length = 1 := by
        have := List.mem_range.1 hi
        exact chunk_len (by have := Nat.div_add_mod b.length 1; omega)
      rw [h2] at h1
      exact h1
    obtain ⟨M, hM⟩ : ∃ M, M = allL 1 b := ⟨_, rfl⟩
    rw [← hM] at hO6 hback hlm hmb
    clear hM
    obtain ⟨a7, c7, hv7, hI7, -, hc7, -⟩ := ints_of_own hO6.out (fun x hx => wf_u64.2 (by have := hmb.out x hx; omega))
    subst hv7
    have hX7 := hid hI7
    have hMl : M.length ≤ 1048576 := by have := hlm.out; have := Nat.div_le_self b.length 1; omega
    clear hI7 hO6
    have ht : (((b.length : Int) % 1) != 0) = false := by rw [bne_eq_false_iff_eq]; omega
    clear hmod
    go_wp2_with fail
    refine (lput1 _ _ _ M _ rfl (by omega) hX7.out hmb.out).mono ?_
    rintro e w8 ⟨v8, rfl, ho8, hb8⟩
    rw [hback.out] at ho8
    obtain ⟨a8, c8, hv8, hI8, -, hc8, -⟩ := ints_of_own ho8 (ints_of_byt hbyt.out)
    subst hv8
    have hX8 := hid hI8
    have hB8 := hid (hB6.out.trans (hb8.mono hB6.out.size))
    have hJ8 := hid (hJ6.out.mono hb8)
    clear ho8 hI8 hb8
    skip
    go_wp2_with fail
    refine (same_any _ _ c8 b _ _ cap2 b _ rfl rfl (by omega) hX8.out hJ8.out).mono ?_
    rintro e w9 ⟨rfl, q9, rfl⟩
    rw [show decide (b = b) = true from decide_eq_true rfl]
    go_wp2_with fail
    go_ret
    exact ⟨rfl, below_drewN' hB8.out q9⟩
  · omega


set_option maxHeartbeats 2000000 in
set_option maxRecDepth 100000 in
theorem there2 (w : World) (ao : Option Addr) (cap : Nat) (l : List Int) (hi : Ints .u64 w ao l) (hcap : l.length ≤ cap) (bo : Option Addr) (cap2 : Nat) (b : List Int) (hj : Ints .u8 w bo b) (hcap2 : b.length ≤ cap2) (y : Int) (hy : -9223372036854775808 ≤ y ∧ y ≤ 9223372036854775807) (hw : wid y = 2)
    (hB : cap + cap2 ≤ 1048576) :
    Calls Try.prog 7 #[.slice ao l.length cap, .slice bo b.length cap2, .int .i64 y] w fun e w' => e = .returned (.bool true) ∧ Below w.heap.size w w' := by
  have hI := hid hi
  have hJ := hid hj
  clear hi hj
  have hW := hid hw
  clear hw
  have hbyt := hid (byt_of_ints hJ.out)
  go_enter Try.func7, Try.ntmps7
  go_wp2_with fail
  refine (width_any _ _ hy).mono ?_
  rintro e w' ⟨rfl, rfl⟩
  rw [hW.out]
  go_wp2_with fail
  refine (cut2 _ _ _ l _ rfl (by omega) hI.out).mono ?_
  rintro e w1 ⟨v1, rfl, ho1, hb1⟩
  have hxb := hid (cutL_bd 2 l)
  have hxl := hid (cutL_len 2 l)
  obtain ⟨xs, hxs⟩ : ∃ xs, xs = cutL 2 l := ⟨_, rfl⟩
  rw [← hxs] at ho1 hxb hxl
  clear hxs
  obtain ⟨a1, c1, hv1, hI1, -, hc1, -⟩ := ints_of_own ho1 (fun x hx => wf_u64.2 (by have := hxb.out x hx; omega))
  subst hv1
  have hX1 := hid hI1
  have hB1 := hid hb1
  have hJ1 := hid (hJ.out.mono hb1)
  have hxle : xs.length ≤ 1048576 := by have := hxl.out; omega
  have hnx : (l.length : Int) = xs.length := by rw [hxl.out]
  have hNX := hid hnx
  clear ho1 hI1 hb1 hnx
  go_wp2_with fail
  refine (lput2 _ _ _ xs _ rfl (by omega) hX1.out hxb.out).mono ?_
  rintro e w2 ⟨v2, rfl, ho2, hb2⟩
  have hpl := hid (putL_len 2 xs)
  have hpb := hid (putL_byt 2 xs)
  have hap := hid (all_put 2 (by decide) xs hxb.out)
  obtain ⟨P, hP⟩ : ∃ P, P = putL 2 xs := ⟨_, rfl⟩
  rw [← hP] at ho2 hpl hpb hap
  clear hP
  obtain ⟨a2, c2, hv2, hI2, -, hc2, -⟩ := ints_of_own ho2 (ints_of_byt hpb.out)
  subst hv2
  have hX2 := hid hI2
  have hB2 := hid (hB1.out.trans (hb2.mono hB1.out.size))
  have hX1b := hid (hX1.out.mono hb2)
  have hJ2 := hid (hJ1.out.mono hb2)
  have hPl : P.length ≤ 8388608 := by have := hpl.out; omega
  clear ho2 hI2 hb2
  have hr : Hid (allR 2 P = (xs, 0)) := by
    unfold Hid allR
    rw [if_pos (by rw [hpl.out]; omega), hap.out]
  go_wp2_with fail
  refine (lall2 _ _ _ P _ rfl (by omega) (by rw [hr.out]; show xs.length * 8 ≤ 140737488351232; omega) hc2 hX2.out).mono ?_
  rintro e w3 ⟨v3, rfl, ho3, hb3⟩
  rw [hr.out] at ho3 ⊢
  obtain ⟨a3, c3, hv3, hI3, -, hc3, -⟩ := ints_of_own ho3 (fun x hx => wf_u64.2 (by have := hxb.out x hx; omega))
  subst hv3
  have hX3 := hid hI3
  have hB3 := hid (hB2.out.trans (hb3.mono hB2.out.size))
  have hX1c := hid (hX1b.out.mono hb3)
  have hJ3 := hid (hJ2.out.mono hb3)
  clear ho3 hI3 hb3
  have hmul : IntKind.i64.wrap (2 * (xs.length : Int)) = 2 * (xs.length : Int) := IntWalk.i64_in _ (by omega)
  have hne : ((P.length : Int) != 2 * (xs.length : Int)) = false := by rw [bne_eq_false_iff_eq]; have := hpl.out; omega
  have hne1 : ((P.length : Int) != (xs.length : Int)) = false ∨ 2 ≠ 1 := by
    by_cases h : (2 : Nat) = 1
    · left; rw [bne_eq_false_iff_eq]; have := hpl.out; omega
    · exact .inr h
  clear hne1
  go_wp2_with fail
  refine (samen_any _ _ c3 xs _ _ c1 xs _ rfl rfl (by omega) hX3.out hX1c.out).mono ?_
  rintro e w4 ⟨rfl, q4, rfl⟩
  rw [show decide (xs = xs) = true from decide_eq_true rfl]
  have hJ4 : Hid (Ints .u8 (w3.drewN q4) bo b) := hJ3.out.drewN q4
  have hB4 : Hid (Below w.heap.size w (w3.drewN q4)) := below_drewN' hB3.out q4
  go_wp2_with fail
  obtain ⟨w5, hw5⟩ : ∃ w5, w5 = w3.drewN q4 := ⟨_, rfl⟩
  rw [← hw5] at hJ4 hB4 ⊢
  clear hw5
  have hrb : (allR 2 b).1.length ≤ b.length := by
    unfold allR
    split
    · rw [allL_len]; exact Nat.div_le_self _ _
    · simp
  refine (lall2 _ _ _ b _ rfl (by omega) (by omega) hcap2 hJ4.out).mono ?_
  rintro e w6 ⟨v6, rfl, ho6, hb6⟩
  have hB6 := hid (hB4.out.trans (hb6.mono hB4.out.size))
  have hJ6 := hid (hJ4.out.mono hb6)
  have hO6 := hid ho6
  clear ho6 hb6 hrb
  by_cases hmod : b.length % 2 = 0
  · have hra : Hid (allR 2 b = (allL 2 b, 0)) := by unfold Hid allR; rw [if_pos hmod]
    rw [hra.out] at hO6 ⊢
    have hback := hid (put_all 2 (by decide) b hbyt.out hmod)
    have hlm := hid (allL_len 2 b)
    have hmb : Hid (∀ x ∈ allL 2 b, 0 ≤ x ∧ x < 256 ^ 2) := by
      intro x hx
      simp only [allL] at hx
      obtain ⟨i, hi, rfl⟩ := List.mem_map.1 hx
      have h1 := num_bd _ (chunk_byt hbyt.out (w := 2) i)
      have h2 : (chunk 2 b i).length = 2 := by
        have := List.mem_range.1 hi
        exact chunk_len (by have := Nat.div_add_mod b.length 2; omega)
      rw [h2] at h1
      exact h1
    obtain ⟨M, hM⟩ : ∃ M, M = allL 2 b := ⟨_, rfl⟩
    rw [← hM] at hO6 hback hlm hmb
    clear hM
    obtain ⟨a7, c7, hv7, hI7, -, hc7, -⟩ := ints_of_own hO6.out (fun x hx => wf_u64.2 (by have := hmb.out x hx; omega))
    subst hv7
    have hX7 := hid hI7
    have hMl : M.length ≤ 1048576 := by have := hlm.out; have := Nat.div_le_self b.length 2; omega
    clear hI7 hO6
    have ht : (((b.length : Int) % 2) != 0) = false := by rw [bne_eq_false_iff_eq]; omega
    clear hmod
    go_wp2_with fail
    refine (lput2 _ _ _ M _ rfl (by omega) hX7.out hmb.out).mono ?_
    rintro e w8 ⟨v8, rfl, ho8, hb8⟩
    rw [hback.out] at ho8
    obtain ⟨a8, c8, hv8, hI8, -, hc8, -⟩ := ints_of_own ho8 (ints_of_byt hbyt.out)
    subst hv8
    have hX8 := hid hI8
    have hB8 := hid (hB6.out.trans (hb8.mono hB6.out.size))
    have hJ8 := hid (hJ6.out.mono hb8)
    clear ho8 hI8 hb8
    skip
    go_wp2_with fail
    refine (same_any _ _ c8 b _ _ cap2 b _ rfl rfl (by omega) hX8.out hJ8.out).mono ?_
    rintro e w9 ⟨rfl, q9, rfl⟩
    rw [show decide (b = b) = true from decide_eq_true rfl]
    go_wp2_with fail
    go_ret
    exact ⟨rfl, below_drewN' hB8.out q9⟩
  · have hno := hid hmod
    have hra : Hid (allR 2 b = ([], 21)) := by unfold Hid allR; rw [if_neg hmod]
    rw [hra.out]
    have ht : (((b.length : Int) % 2) != 0) = true := by rw [bne_iff_ne]; omega
    clear hmod
    go_wp2_with fail
    go_ret
    exact ⟨rfl, hB6.out⟩


set_option maxHeartbeats 2000000 in
set_option maxRecDepth 100000 in
theorem there4 (w : World) (ao : Option Addr) (cap : Nat) (l : List Int) (hi : Ints .u64 w ao l) (hcap : l.length ≤ cap) (bo : Option Addr) (cap2 : Nat) (b : List Int) (hj : Ints .u8 w bo b) (hcap2 : b.length ≤ cap2) (y : Int) (hy : -9223372036854775808 ≤ y ∧ y ≤ 9223372036854775807) (hw : wid y = 4)
    (hB : cap + cap2 ≤ 1048576) :
    Calls Try.prog 7 #[.slice ao l.length cap, .slice bo b.length cap2, .int .i64 y] w fun e w' => e = .returned (.bool true) ∧ Below w.heap.size w w' := by
  have hI := hid hi
  have hJ := hid hj
  clear hi hj
  have hW := hid hw
  clear hw
  have hbyt := hid (byt_of_ints hJ.out)
  go_enter Try.func7, Try.ntmps7
  go_wp2_with fail
  refine (width_any _ _ hy).mono ?_
  rintro e w' ⟨rfl, rfl⟩
  rw [hW.out]
  go_wp2_with fail
  refine (cut4 _ _ _ l _ rfl (by omega) hI.out).mono ?_
  rintro e w1 ⟨v1, rfl, ho1, hb1⟩
  have hxb := hid (cutL_bd 4 l)
  have hxl := hid (cutL_len 4 l)
  obtain ⟨xs, hxs⟩ : ∃ xs, xs = cutL 4 l := ⟨_, rfl⟩
  rw [← hxs] at ho1 hxb hxl
  clear hxs
  obtain ⟨a1, c1, hv1, hI1, -, hc1, -⟩ := ints_of_own ho1 (fun x hx => wf_u64.2 (by have := hxb.out x hx; omega))
  subst hv1
  have hX1 := hid hI1
  have hB1 := hid hb1
  have hJ1 := hid (hJ.out.mono hb1)
  have hxle : xs.length ≤ 1048576 := by have := hxl.out; omega
  have hnx : (l.length : Int) = xs.length := by rw [hxl.out]
  have hNX := hid hnx
  clear ho1 hI1 hb1 hnx
  go_wp2_with fail
  refine (lput4 _ _ _ xs _ rfl (by omega) hX1.out hxb.out).mono ?_
  rintro e w2 ⟨v2, rfl, ho2, hb2⟩
  have hpl := hid (putL_len 4 xs)
  have hpb := hid (putL_byt 4 xs)
  have hap := hid (all_put 4 (by decide) xs hxb.out)
  obtain ⟨P, hP⟩ : ∃ P, P = putL 4 xs := ⟨_, rfl⟩
  rw [← hP] at ho2 hpl hpb hap
  clear hP
  obtain ⟨a2, c2, hv2, hI2, -, hc2, -⟩ := ints_of_own ho2 (ints_of_byt hpb.out)
  subst hv2
  have hX2 := hid hI2
  have hB2 := hid (hB1.out.trans (hb2.mono hB1.out.size))
  have hX1b := hid (hX1.out.mono hb2)
  have hJ2 := hid (hJ1.out.mono hb2)
  have hPl : P.length ≤ 8388608 := by have := hpl.out; omega
  clear ho2 hI2 hb2
  have hr : Hid (allR 4 P = (xs, 0)) := by
    unfold Hid allR
    rw [if_pos (by rw [hpl.out]; omega), hap.out]
  go_wp2_with fail
  refine (lall4 _ _ _ P _ rfl (by omega) (by rw [hr.out]; show xs.length * 8 ≤ 140737488351232; omega) hc2 hX2.out).mono ?_
  rintro e w3 ⟨v3, rfl, ho3, hb3⟩
  rw [hr.out] at ho3 ⊢
  obtain ⟨a3, c3, hv3, hI3, -, hc3, -⟩ := ints_of_own ho3 (fun x hx => wf_u64.2 (by have := hxb.out x hx; omega))
  subst hv3
  have hX3 := hid hI3
  have hB3 := hid (hB2.out.trans (hb3.mono hB2.out.size))
  have hX1c := hid (hX1b.out.mono hb3)
  have hJ3 := hid (hJ2.out.mono hb3)
  clear ho3 hI3 hb3
  have hmul : IntKind.i64.wrap (4 * (xs.length : Int)) = 4 * (xs.length : Int) := IntWalk.i64_in _ (by omega)
  have hne : ((P.length : Int) != 4 * (xs.length : Int)) = false := by rw [bne_eq_false_iff_eq]; have := hpl.out; omega
  have hne1 : ((P.length : Int) != (xs.length : Int)) = false ∨ 4 ≠ 1 := by
    by_cases h : (4 : Nat) = 1
    · left; rw [bne_eq_false_iff_eq]; have := hpl.out; omega
    · exact .inr h
  clear hne1
  go_wp2_with fail
  refine (samen_any _ _ c3 xs _ _ c1 xs _ rfl rfl (by omega) hX3.out hX1c.out).mono ?_
  rintro e w4 ⟨rfl, q4, rfl⟩
  rw [show decide (xs = xs) = true from decide_eq_true rfl]
  have hJ4 : Hid (Ints .u8 (w3.drewN q4) bo b) := hJ3.out.drewN q4
  have hB4 : Hid (Below w.heap.size w (w3.drewN q4)) := below_drewN' hB3.out q4
  go_wp2_with fail
  obtain ⟨w5, hw5⟩ : ∃ w5, w5 = w3.drewN q4 := ⟨_, rfl⟩
  rw [← hw5] at hJ4 hB4 ⊢
  clear hw5
  have hrb : (allR 4 b).1.length ≤ b.length := by
    unfold allR
    split
    · rw [allL_len]; exact Nat.div_le_self _ _
    · simp
  refine (lall4 _ _ _ b _ rfl (by omega) (by omega) hcap2 hJ4.out).mono ?_
  rintro e w6 ⟨v6, rfl, ho6, hb6⟩
  have hB6 := hid (hB4.out.trans (hb6.mono hB4.out.size))
  have hJ6 := hid (hJ4.out.mono hb6)
  have hO6 := hid ho6
  clear ho6 hb6 hrb
  by_cases hmod : b.length % 4 = 0
  · have hra : Hid (allR 4 b = (allL 4 b, 0)) := by unfold Hid allR; rw [if_pos hmod]
    rw [hra.out] at hO6 ⊢
    have hback := hid (put_all 4 (by decide) b hbyt.out hmod)
    have hlm := hid (allL_len 4 b)
    have hmb : Hid (∀ x ∈ allL 4 b, 0 ≤ x ∧ x < 256 ^ 4) := by
      intro x hx
      simp only [allL] at hx
      obtain ⟨i, hi, rfl⟩ := List.mem_map.1 hx
      have h1 := num_bd _ (chunk_byt hbyt.out (w := 4) i)
      have h2 : (chunk 4 b i).length = 4 := by
        have := List.mem_range.1 hi
        exact chunk_len (by have := Nat.div_add_mod b.length 4; omega)
      rw [h2] at h1
      exact h1
    obtain ⟨M, hM⟩ : ∃ M, M = allL 4 b := ⟨_, rfl⟩
    rw [← hM] at hO6 hback hlm hmb
    clear hM
    obtain ⟨a7, c7, hv7, hI7, -, hc7, -⟩ := ints_of_own hO6.out (fun x hx => wf_u64.2 (by have := hmb.out x hx; omega))
    subst hv7
    have hX7 := hid hI7
    have hMl : M.length ≤ 1048576 := by have := hlm.out; have := Nat.div_le_self b.length 4; omega
    clear hI7 hO6
    have ht : (((b.length : Int) % 4) != 0) = false := by rw [bne_eq_false_iff_eq]; omega
    clear hmod
    go_wp2_with fail
    refine (lput4 _ _ _ M _ rfl (by omega) hX7.out hmb.out).mono ?_
    rintro e w8 ⟨v8, rfl, ho8, hb8⟩
    rw [hback.out] at ho8
    obtain ⟨a8, c8, hv8, hI8, -, hc8, -⟩ := ints_of_own ho8 (ints_of_byt hbyt.out)
    subst hv8
    have hX8 := hid hI8
    have hB8 := hid (hB6.out.trans (hb8.mono hB6.out.size))
    have hJ8 := hid (hJ6.out.mono hb8)
    clear ho8 hI8 hb8
    skip
    go_wp2_with fail
    refine (same_any _ _ c8 b _ _ cap2 b _ rfl rfl (by omega) hX8.out hJ8.out).mono ?_
    rintro e w9 ⟨rfl, q9, rfl⟩
    rw [show decide (b = b) = true from decide_eq_true rfl]
    go_wp2_with fail
    go_ret
    exact ⟨rfl, below_drewN' hB8.out q9⟩
  · have hno := hid hmod
    have hra : Hid (allR 4 b = ([], 21)) := by unfold Hid allR; rw [if_neg hmod]
    rw [hra.out]
    have ht : (((b.length : Int) % 4) != 0) = true := by rw [bne_iff_ne]; omega
    clear hmod
    go_wp2_with fail
    go_ret
    exact ⟨rfl, hB6.out⟩


set_option maxHeartbeats 2000000 in
set_option maxRecDepth 100000 in
theorem there8 (w : World) (ao : Option Addr) (cap : Nat) (l : List Int) (hi : Ints .u64 w ao l) (hcap : l.length ≤ cap) (bo : Option Addr) (cap2 : Nat) (b : List Int) (hj : Ints .u8 w bo b) (hcap2 : b.length ≤ cap2) (y : Int) (hy : -9223372036854775808 ≤ y ∧ y ≤ 9223372036854775807) (hw : wid y = 8)
    (hB : cap + cap2 ≤ 1048576) :
    Calls Try.prog 7 #[.slice ao l.length cap, .slice bo b.length cap2, .int .i64 y] w fun e w' => e = .returned (.bool true) ∧ Below w.heap.size w w' := by
  have hI := hid hi
  have hJ := hid hj
  clear hi hj
  have hW := hid hw
  clear hw
  have hbyt := hid (byt_of_ints hJ.out)
  go_enter Try.func7, Try.ntmps7
  go_wp2_with fail
  refine (width_any _ _ hy).mono ?_
  rintro e w' ⟨rfl, rfl⟩
  rw [hW.out]
  go_wp2_with fail
  refine (cut8 _ _ _ l _ rfl (by omega) hI.out).mono ?_
  rintro e w1 ⟨v1, rfl, ho1, hb1⟩
  have hxb := hid (cutL_bd 8 l)
  have hxl := hid (cutL_len 8 l)
  obtain ⟨xs, hxs⟩ : ∃ xs, xs = cutL 8 l := ⟨_, rfl⟩
  rw [← hxs] at ho1 hxb hxl
  clear hxs
  obtain ⟨a1, c1, hv1, hI1, -, hc1, -⟩ := ints_of_own ho1 (fun x hx => wf_u64.2 (by have := hxb.out x hx; omega))
  subst hv1
  have hX1 := hid hI1
  have hB1 := hid hb1
  have hJ1 := hid (hJ.out.mono hb1)
  have hxle : xs.length ≤ 1048576 := by have := hxl.out; omega
  have hnx : (l.length : Int) = xs.length := by rw [hxl.out]
  have hNX := hid hnx
  clear ho1 hI1 hb1 hnx
  go_wp2_with fail
  refine (lput8 _ _ _ xs _ rfl (by omega) hX1.out hxb.out).mono ?_
  rintro e w2 ⟨v2, rfl, ho2, hb2⟩
  have hpl := hid (putL_len 8 xs)
  have hpb := hid (putL_byt 8 xs)
  have hap := hid (all_put 8 (by decide) xs hxb.out)
  obtain ⟨P, hP⟩ : ∃ P, P = putL 8 xs := ⟨_, rfl⟩
  rw [← hP] at ho2 hpl hpb hap
  clear hP
  obtain ⟨a2, c2, hv2, hI2, -, hc2, -⟩ := ints_of_own ho2 (ints_of_byt hpb.out)
  subst hv2
  have hX2 := hid hI2
  have hB2 := hid (hB1.out.trans (hb2.mono hB1.out.size))
  have hX1b := hid (hX1.out.mono hb2)
  have hJ2 := hid (hJ1.out.mono hb2)
  have hPl : P.length ≤ 8388608 := by have := hpl.out; omega
  clear ho2 hI2 hb2
  have hr : Hid (allR 8 P = (xs, 0)) := by
    unfold Hid allR
    rw [if_pos (by rw [hpl.out]; omega), hap.out]
  go_wp2_with fail
  refine (lall8 _ _ _ P _ rfl (by omega) (by rw [hr.out]; show xs.length * 8 ≤ 140737488351232; omega) hc2 hX2.out).mono ?_
  rintro e w3 ⟨v3, rfl, ho3, hb3⟩
  rw [hr.out] at ho3 ⊢
  obtain ⟨a3, c3, hv3, hI3, -, hc3, -⟩ := ints_of_own ho3 (fun x hx => wf_u64.2 (by have := hxb.out x hx; omega))
  subst hv3
  have hX3 := hid hI3
  have hB3 := hid (hB2.out.trans (hb3.mono hB2.out.size))
  have hX1c := hid (hX1b.out.mono hb3)
  have hJ3 := hid (hJ2.out.mono hb3)
  clear ho3 hI3 hb3
  have hmul : IntKind.i64.wrap (8 * (xs.length : Int)) = 8 * (xs.length : Int) := IntWalk.i64_in _ (by omega)
  have hne : ((P.length : Int) != 8 * (xs.length : Int)) = false := by rw [bne_eq_false_iff_eq]; have := hpl.out; omega
  have hne1 : ((P.length : Int) != (xs.length : Int)) = false ∨ 8 ≠ 1 := by
    by_cases h : (8 : Nat) = 1
    · left; rw [bne_eq_false_iff_eq]; have := hpl.out; omega
    · exact .inr h
  clear hne1
  go_wp2_with fail
  refine (samen_any _ _ c3 xs _ _ c1 xs _ rfl rfl (by omega) hX3.out hX1c.out).mono ?_
  rintro e w4 ⟨rfl, q4, rfl⟩
  rw [show decide (xs = xs) = true from decide_eq_true rfl]
  have hJ4 : Hid (Ints .u8 (w3.drewN q4) bo b) := hJ3.out.drewN q4
  have hB4 : Hid (Below w.heap.size w (w3.drewN q4)) := below_drewN' hB3.out q4
  go_wp2_with fail
  obtain ⟨w5, hw5⟩ : ∃ w5, w5 = w3.drewN q4 := ⟨_, rfl⟩
  rw [← hw5] at hJ4 hB4 ⊢
  clear hw5
  have hrb : (allR 8 b).1.length ≤ b.length := by
    unfold allR
    split
    · rw [allL_len]; exact Nat.div_le_self _ _
    · simp
  refine (lall8 _ _ _ b _ rfl (by omega) (by omega) hcap2 hJ4.out).mono ?_
  rintro e w6 ⟨v6, rfl, ho6, hb6⟩
  have hB6 := hid (hB4.out.trans (hb6.mono hB4.out.size))
  have hJ6 := hid (hJ4.out.mono hb6)
  have hO6 := hid ho6
  clear ho6 hb6 hrb
  by_cases hmod : b.length % 8 = 0
  · have hra : Hid (allR 8 b = (allL 8 b, 0)) := by unfold Hid allR; rw [if_pos hmod]
    rw [hra.out] at hO6 ⊢
    have hback := hid (put_all 8 (by decide) b hbyt.out hmod)
    have hlm := hid (allL_len 8 b)
    have hmb : Hid (∀ x ∈ allL 8 b, 0 ≤ x ∧ x < 256 ^ 8) := by
      intro x hx
      simp only [allL] at hx
      obtain ⟨i, hi, rfl⟩ := List.mem_map.1 hx
      have h1 := num_bd _ (chunk_byt hbyt.out (w := 8) i)
      have h2 : (chunk 8 b i).length = 8 := by
        have := List.mem_range.1 hi
        exact chunk_len (by have := Nat.div_add_mod b.length 8; omega)
      rw [h2] at h1
      exact h1
    obtain ⟨M, hM⟩ : ∃ M, M = allL 8 b := ⟨_, rfl⟩
    rw [← hM] at hO6 hback hlm hmb
    clear hM
    obtain ⟨a7, c7, hv7, hI7, -, hc7, -⟩ := ints_of_own hO6.out (fun x hx => wf_u64.2 (by have := hmb.out x hx; omega))
    subst hv7
    have hX7 := hid hI7
    have hMl : M.length ≤ 1048576 := by have := hlm.out; have := Nat.div_le_self b.length 8; omega
    clear hI7 hO6
    have ht : (((b.length : Int) % 8) != 0) = false := by rw [bne_eq_false_iff_eq]; omega
    clear hmod
    go_wp2_with fail
    refine (lput8 _ _ _ M _ rfl (by omega) hX7.out hmb.out).mono ?_
    rintro e w8 ⟨v8, rfl, ho8, hb8⟩
    rw [hback.out] at ho8
    obtain ⟨a8, c8, hv8, hI8, -, hc8, -⟩ := ints_of_own ho8 (ints_of_byt hbyt.out)
    subst hv8
    have hX8 := hid hI8
    have hB8 := hid (hB6.out.trans (hb8.mono hB6.out.size))
    have hJ8 := hid (hJ6.out.mono hb8)
    clear ho8 hI8 hb8
    skip
    go_wp2_with fail
    refine (same_any _ _ c8 b _ _ cap2 b _ rfl rfl (by omega) hX8.out hJ8.out).mono ?_
    rintro e w9 ⟨rfl, q9, rfl⟩
    rw [show decide (b = b) = true from decide_eq_true rfl]
    go_wp2_with fail
    go_ret
    exact ⟨rfl, below_drewN' hB8.out q9⟩
  · have hno := hid hmod
    have hra : Hid (allR 8 b = ([], 21)) := by unfold Hid allR; rw [if_neg hmod]
    rw [hra.out]
    have ht : (((b.length : Int) % 8) != 0) = true := by rw [bne_iff_ne]; omega
    clear hmod
    go_wp2_with fail
    go_ret
    exact ⟨rfl, hB6.out⟩


theorem there_walk (w : World) (ao : Option Addr) (cap : Nat) (l : List Int) (hi : Ints .u64 w ao l) (hcap : l.length ≤ cap) (hmax : cap ≤ maxLen) (bo : Option Addr) (cap2 : Nat) (b : List Int) (hj : Ints .u8 w bo b) (hcap2 : b.length ≤ cap2) (hmax2 : cap2 ≤ maxLen) (y : Int) (wy : (Lit.int .i64 y).wf = true) (hB : cap + cap2 ≤ 1048576) :
    Calls Try.prog 7 #[.slice ao l.length cap, .slice bo b.length cap2, .int .i64 y] w fun e w' => e = .returned (.bool true) ∧ Below w.heap.size w w' := by
  rcases wid_cases y with h | h | h | h
  · exact there1 w ao cap l hi hcap bo cap2 b hj hcap2 y (wf_i64.1 wy) h hB
  · exact there2 w ao cap l hi hcap bo cap2 b hj hcap2 y (wf_i64.1 wy) h hB
  · exact there4 w ao cap l hi hcap bo cap2 b hj hcap2 y (wf_i64.1 wy) h hB
  · exact there8 w ao cap l hi hcap bo cap2 b hj hcap2 y (wf_i64.1 wy) h hB
end Go.Proofs.Ytdhicfolchpmhaa
