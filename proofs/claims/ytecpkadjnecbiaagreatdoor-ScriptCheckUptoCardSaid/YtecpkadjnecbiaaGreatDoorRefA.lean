/- Walks: the reference's runes. No condition. -/
import Derived.Test.YtecpkadjnecbiaaGreatDoorProg
import Derived.Test.YtecpkadjnecbiaaGreatDoorTokH
import Derived.Test.YtecpkadjnecbiaaGreatDoorTokK
namespace Go.Proofs.YtecpkadjnecbiaaGreatDoor
open Go.RowKit
set_option linter.unusedVariables false
set_option linter.unusedSimpArgs false

open Go.Shelf
attribute [local go_sem] Oper.semAt_some

theorem first3 (s : ByteArray) (h : 3 ≤ s.size) : (s.extract 0 3).toList = [s.get! 0, s.get! 1, s.get! 2] := by
  rw [ByteArray.toList_eq]
  have hl : (s.extract 0 3).data.toList.length = 3 := by
    show (s.extract 0 3).size = 3
    simp
    omega
  refine List.ext_getElem (by rw [hl]; rfl) (fun i h1 h2 => ?_)
  have hi : i < 3 := by rw [hl] at h1; exact h1
  have hb := ByteArray.getElem_extract (b := s) (start := 0) (stop := 3) (i := i) (by simp; omega)
  have : (s.extract 0 3).data.toList[i] = s[i]'(by omega) := by
    have h0 : (s.extract 0 3).data.toList[i] = (s.extract 0 3)[i]'(by simp; omega) := rfl
    rw [h0, hb]
    simp
  rw [this]
  have hg := get_at s i (by omega)
  rw [Nat.add_zero] at hg
  have hc : i = 0 ∨ i = 1 ∨ i = 2 := by omega
  rcases hc with h | h | h <;> subst h <;> exact hg.symm
theorem extract_get (s : ByteArray) (p j : Nat) (h : p + j < s.size) : (s.extract p s.size).get! j = s.get! (p + j) := by
  have h1 := get_at (s.extract p s.size) j (by simp; omega)
  have h2 := get_at s (p + j) h
  rw [Nat.add_zero] at h1 h2
  rw [h1, h2]
  exact ByteArray.getElem_extract (by simp; omega)
theorem prefixed3 (s : ByteArray) (p : Nat) (hp : p ≤ s.size) : prefixed (s.extract p s.size) ⟨#[239, 191, 189]⟩ = (decide (p + 3 ≤ s.size) && (s.get! p == 239 && (s.get! (p + 1) == 191 && s.get! (p + 2) == 189))) := by
  have hsz : (s.extract p s.size).size = s.size - p := by simp
  unfold prefixed
  have e1 : (⟨#[239, 191, 189]⟩ : ByteArray).size = 3 := rfl
  rw [e1]
  by_cases h : p + 3 ≤ s.size
  · have x0 := extract_get s p 0 (by omega)
    have x1 := extract_get s p 1 (by omega)
    have x2 := extract_get s p 2 (by omega)
    rw [Nat.add_zero] at x0
    rw [first3 _ (by omega), x0, x1, x2, ByteArray.toList_eq]
    have : decide (3 ≤ (s.extract p s.size).size) = true := by simp; omega
    rw [this]
    simp [h]
  · have : decide (3 ≤ (s.extract p s.size).size) = false := by simp; omega
    rw [this]
    simp [h]
theorem decode_fits (s : ByteArray) (p : Nat) (hp : p < s.size) : p + (Utf8.decode s p).2 ≤ s.size := by
  simp only [Utf8.decode]
  repeat' split
  all_goals simp_all
  all_goals omega
theorem lost_iff (s : ByteArray) (p : Nat) (hp : p < s.size) : lostAt s p = true ↔ Utf8.decode s p = (65533, 1) := by
  unfold lostAt
  rw [prefixed3 s p (by omega)]
  have h0 := (s.get! p).toNat_lt; have h1 := (s.get! (p + 1)).toNat_lt; have h2 := (s.get! (p + 2)).toNat_lt; have h3 := (s.get! (p + 3)).toNat_lt
  have e0 : (s.get! p == 239) = decide ((s.get! p).toNat = 239) := by rw [Bool.eq_iff_iff]; simp [← UInt8.toNat_inj]
  have e1 : (s.get! (p + 1) == 191) = decide ((s.get! (p + 1)).toNat = 191) := by rw [Bool.eq_iff_iff]; simp [← UInt8.toNat_inj]
  have e2 : (s.get! (p + 2) == 189) = decide ((s.get! (p + 2)).toNat = 189) := by rw [Bool.eq_iff_iff]; simp [← UInt8.toNat_inj]
  rw [e0, e1, e2]
  simp only [Utf8.decode, Nat.add_zero]
  repeat' split
  all_goals simp_all [Utf8.runeError, Utf8.valid]
  all_goals omega

end Go.Proofs.YtecpkadjnecbiaaGreatDoor
