/- Walks: the reference's runeAt. No condition. -/
import Derived.Test.YtecpkadjnecbiaaGreatDoorProg
import Derived.Test.YtecpkadjnecbiaaGreatDoorRefA
namespace Go.Proofs.YtecpkadjnecbiaaGreatDoor
open Go.RowKit
set_option linter.unusedVariables false
set_option linter.unusedSimpArgs false

open Go.Shelf
attribute [local go_sem] Oper.semAt_some

def by' (s : ByteArray) (k i : Nat) : Nat := (s.get! (k + i)).toNat
theorem by_lt (s : ByteArray) (k i : Nat) : by' s k i < 256 := (s.get! (k + i)).toNat_lt
theorem by_at (s : ByteArray) (k i : Nat) (h : k + i < s.size) : ((s[k + i]'h).toNat : Int) = by' s k i := by
  unfold by'
  have := get_at s (k + i) h
  rw [Nat.add_zero] at this
  rw [this]
def val (s : ByteArray) (k : Nat) (base : Int) : Nat → Int
  | 0 => base
  | j + 1 => val s k base j * 64 + by' s k (j + 1) - 128
/-- what 'runeAt' tells -/
def RuneAt (s : ByteArray) (k : Nat) (r : Int) (n : Nat) : Prop := (lostAt s k = true ∧ n = 0) ∨ (lostAt s k = false ∧ r = ((Utf8.decode s k).1 : Int) ∧ n = (Utf8.decode s k).2)
theorem runeAt_lost {s : ByteArray} {k : Nat} {r : Int} (hk : k < s.size) (h : Utf8.decode s k = (65533, 1)) : RuneAt s k r 0 := .inl ⟨(lost_iff s k hk).2 h, rfl⟩
theorem runeAt_is {s : ByteArray} {k c n : Nat} {r : Int} (hk : k < s.size) (h : Utf8.decode s k = (c, n)) (hn : (c, n) ≠ (65533, 1)) (hr : r = c) : RuneAt s k r n := .inr ⟨by
  cases hl : lostAt s k
  · rfl
  · rw [(lost_iff s k hk).1 hl] at h
    exact absurd h.symm hn, by rw [h]; exact hr, by rw [h]⟩
theorem dec1 (s : ByteArray) (k : Nat) (h : by' s k 0 < 128) : Utf8.decode s k = (by' s k 0, 1) := by
  have h0 := by_lt s k 0
  simp only [by', Nat.add_zero] at *
  simp only [Utf8.decode, Nat.add_zero]
  rw [if_pos (by omega)]
theorem decX (s : ByteArray) (k : Nat) (h : 128 ≤ by' s k 0) (h2 : by' s k 0 < 192 ∨ 248 ≤ by' s k 0) : Utf8.decode s k = (65533, 1) := by
  have h0 := by_lt s k 0
  simp only [by', Nat.add_zero] at *
  simp only [Utf8.decode, Nat.add_zero, Utf8.runeError]
  repeat' split
  all_goals simp_all
  all_goals omega
theorem dec2X (s : ByteArray) (k : Nat) (h : 192 ≤ by' s k 0) (h2 : by' s k 0 < 224) (hx : s.size < k + 2 ∨ by' s k 1 < 128 ∨ 191 < by' s k 1) : Utf8.decode s k = (65533, 1) := by
  have h0 := by_lt s k 0; have h1 := by_lt s k 1;
  simp only [by', Nat.add_zero] at *
  simp only [Utf8.decode, Nat.add_zero, Utf8.runeError]
  repeat' split
  all_goals simp_all
  all_goals omega
set_option maxRecDepth 100000 in
theorem dec2Y (s : ByteArray) (k : Nat) (h : 192 ≤ by' s k 0) (h2 : by' s k 0 < 224) (hk : k + 2 ≤ s.size) (hc1 : 128 ≤ by' s k 1 ∧ by' s k 1 ≤ 191) :
    (val s k (by' s k 0 - 192) 1 < 128 ∨ 1114111 < val s k (by' s k 0 - 192) 1 ∨ (55296 ≤ val s k (by' s k 0 - 192) 1 ∧ val s k (by' s k 0 - 192) 1 ≤ 57343) → Utf8.decode s k = (65533, 1)) ∧
    (¬ (val s k (by' s k 0 - 192) 1 < 128 ∨ 1114111 < val s k (by' s k 0 - 192) 1 ∨ (55296 ≤ val s k (by' s k 0 - 192) 1 ∧ val s k (by' s k 0 - 192) 1 ≤ 57343)) → Utf8.decode s k = ((val s k (by' s k 0 - 192) 1).toNat, 2)) := by
  have h0 := by_lt s k 0; have h1 := by_lt s k 1;
  simp only [val]
  simp only [by', Nat.add_zero] at *
  constructor
  all_goals
    intro hv
    unfold Utf8.decode
    simp only [Nat.add_zero]
    repeat' split
    all_goals simp_all [Utf8.runeError, Utf8.valid]
    all_goals omega
theorem dec3X (s : ByteArray) (k : Nat) (h : 224 ≤ by' s k 0) (h2 : by' s k 0 < 240) (hx : s.size < k + 3 ∨ by' s k 1 < 128 ∨ 191 < by' s k 1 ∨ by' s k 2 < 128 ∨ 191 < by' s k 2) : Utf8.decode s k = (65533, 1) := by
  have h0 := by_lt s k 0; have h1 := by_lt s k 1; have h2 := by_lt s k 2;
  simp only [by', Nat.add_zero] at *
  simp only [Utf8.decode, Nat.add_zero, Utf8.runeError]
  repeat' split
  all_goals simp_all
  all_goals omega
set_option maxRecDepth 100000 in
theorem dec3Y (s : ByteArray) (k : Nat) (h : 224 ≤ by' s k 0) (h2 : by' s k 0 < 240) (hk : k + 3 ≤ s.size) (hc1 : 128 ≤ by' s k 1 ∧ by' s k 1 ≤ 191) (hc2 : 128 ≤ by' s k 2 ∧ by' s k 2 ≤ 191) :
    (val s k (by' s k 0 - 224) 2 < 2048 ∨ 1114111 < val s k (by' s k 0 - 224) 2 ∨ (55296 ≤ val s k (by' s k 0 - 224) 2 ∧ val s k (by' s k 0 - 224) 2 ≤ 57343) → Utf8.decode s k = (65533, 1)) ∧
    (¬ (val s k (by' s k 0 - 224) 2 < 2048 ∨ 1114111 < val s k (by' s k 0 - 224) 2 ∨ (55296 ≤ val s k (by' s k 0 - 224) 2 ∧ val s k (by' s k 0 - 224) 2 ≤ 57343)) → Utf8.decode s k = ((val s k (by' s k 0 - 224) 2).toNat, 3)) := by
  have h0 := by_lt s k 0; have h1 := by_lt s k 1; have h2 := by_lt s k 2;
  simp only [val]
  simp only [by', Nat.add_zero] at *
  constructor
  all_goals
    intro hv
    unfold Utf8.decode
    simp only [Nat.add_zero]
    repeat' split
    all_goals simp_all [Utf8.runeError, Utf8.valid]
    all_goals omega
theorem dec4X (s : ByteArray) (k : Nat) (h : 240 ≤ by' s k 0) (h2 : by' s k 0 < 248) (hx : s.size < k + 4 ∨ by' s k 1 < 128 ∨ 191 < by' s k 1 ∨ by' s k 2 < 128 ∨ 191 < by' s k 2 ∨ by' s k 3 < 128 ∨ 191 < by' s k 3) : Utf8.decode s k = (65533, 1) := by
  have h0 := by_lt s k 0; have h1 := by_lt s k 1; have h2 := by_lt s k 2; have h3 := by_lt s k 3;
  simp only [by', Nat.add_zero] at *
  simp only [Utf8.decode, Nat.add_zero, Utf8.runeError]
  repeat' split
  all_goals simp_all
  all_goals omega
set_option maxRecDepth 100000 in
theorem dec4Y (s : ByteArray) (k : Nat) (h : 240 ≤ by' s k 0) (h2 : by' s k 0 < 248) (hk : k + 4 ≤ s.size) (hc1 : 128 ≤ by' s k 1 ∧ by' s k 1 ≤ 191) (hc2 : 128 ≤ by' s k 2 ∧ by' s k 2 ≤ 191) (hc3 : 128 ≤ by' s k 3 ∧ by' s k 3 ≤ 191) :
    (val s k (by' s k 0 - 240) 3 < 65536 ∨ 1114111 < val s k (by' s k 0 - 240) 3 ∨ (55296 ≤ val s k (by' s k 0 - 240) 3 ∧ val s k (by' s k 0 - 240) 3 ≤ 57343) → Utf8.decode s k = (65533, 1)) ∧
    (¬ (val s k (by' s k 0 - 240) 3 < 65536 ∨ 1114111 < val s k (by' s k 0 - 240) 3 ∨ (55296 ≤ val s k (by' s k 0 - 240) 3 ∧ val s k (by' s k 0 - 240) 3 ≤ 57343)) → Utf8.decode s k = ((val s k (by' s k 0 - 240) 3).toNat, 4)) := by
  have h0 := by_lt s k 0; have h1 := by_lt s k 1; have h2 := by_lt s k 2; have h3 := by_lt s k 3;
  simp only [val]
  simp only [by', Nat.add_zero] at *
  constructor
  all_goals
    intro hv
    unfold Utf8.decode
    simp only [Nat.add_zero]
    repeat' split
    all_goals simp_all [Utf8.runeError, Utf8.valid]
    all_goals omega

end Go.Proofs.YtecpkadjnecbiaaGreatDoor
