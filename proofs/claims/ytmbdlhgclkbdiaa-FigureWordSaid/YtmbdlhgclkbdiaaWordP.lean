/- FigureWord: prefixes, in plain Lean. -/
import Derived.Test.YtmbdlhgclkbdiaaWordB
namespace Go.Proofs.Ytmbdlhgclkbdiaa
set_option linter.unusedVariables false
set_option linter.unusedSimpArgs false

theorem byt_mk (l : List UInt8) (k : Nat) : byt ⟨⟨l⟩⟩ k = ((l[k]?.map fun b => (b.toNat : Int)).getD 0) := by
  unfold byt
  have hs : (⟨⟨l⟩⟩ : ByteArray).size = l.length := rfl
  by_cases h : k < l.length
  · rw [dif_pos (by rw [hs]; exact h), List.getElem?_eq_getElem h]
    rfl
  · rw [dif_neg (by rw [hs]; exact h), List.getElem?_eq_none (by omega)]
    rfl
theorem u8_iff (a b : UInt8) : (a == b) = decide ((a.toNat : Int) = (b.toNat : Int)) := by
  by_cases h : a = b
  · subst h; simp
  · rw [beq_eq_false_iff_ne.2 h]
    symm
    rw [decide_eq_false_iff_not]
    intro e
    exact h (UInt8.toNat_inj.1 (by omega))
theorem extract_mk (l : List UInt8) (n : Nat) : ((⟨⟨l⟩⟩ : ByteArray).extract 0 n).toList = l.take n := by
  rw [ByteArray.toList_eq, ByteArray.data_extract]
  simp
theorem pre1 (s : ByteArray) (x : UInt8) : pre s ⟨#[x]⟩ = decide (byt s 0 = x.toNat ∧ 0 < s.size) := by
  obtain ⟨⟨l⟩⟩ := s
  have hs : (⟨⟨l⟩⟩ : ByteArray).size = l.length := rfl
  have hp : (⟨#[x]⟩ : ByteArray).size = 1 := rfl
  unfold pre
  rw [hp, extract_mk, byt_mk, hs, ByteArray.toList_eq]
  match l with
  | [] => simp
  | a :: t => simp [u8_iff]
theorem pre2 (s : ByteArray) (x y : UInt8) : pre s ⟨#[x, y]⟩ = decide ((byt s 0 = x.toNat ∧ byt s 1 = y.toNat) ∧ 1 < s.size) := by
  obtain ⟨⟨l⟩⟩ := s
  have hs : (⟨⟨l⟩⟩ : ByteArray).size = l.length := rfl
  have hp : (⟨#[x, y]⟩ : ByteArray).size = 2 := rfl
  unfold pre
  rw [hp, extract_mk, byt_mk, byt_mk, hs, ByteArray.toList_eq]
  match l with
  | [] => simp
  | [a] => simp
  | a :: b :: t => simp [u8_iff]
theorem scan_bd (base lim : Int) (s : ByteArray) (hl : 0 ≤ lim) (hb : 0 ≤ base) : ∀ (f k : Nat) (n : Int), 0 ≤ n → n ≤ lim → 0 ≤ (scan base lim s f k n).1 ∧ (scan base lim s f k n).1 ≤ lim
  | 0, _, n, h0, h1 => ⟨h0, h1⟩
  | f + 1, k, n, h0, h1 => by
    unfold scan
    have hd := dg_bd (byt s k) base hb
    have hp : 0 ≤ n * base := Int.mul_nonneg h0 hb
    split
    · exact ⟨by simp, hl⟩
    · split
      · exact ⟨by simp, hl⟩
      · exact scan_bd base lim s hl hb f (k + 1) _ (by omega) (by omega)
theorem digs_bd (base lim : Int) (s : ByteArray) (k : Nat) (hl : 0 ≤ lim) (hb : 0 ≤ base) : 0 ≤ (digs base lim s k).1 ∧ (digs base lim s k).1 ≤ lim := by
  unfold digs
  split
  · exact ⟨by simp, hl⟩
  · exact scan_bd base lim s hl hb _ _ _ (by omega) hl
end Go.Proofs.Ytmbdlhgclkbdiaa
