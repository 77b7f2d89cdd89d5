/- Plain: names that rise are apart. No condition. -/
import Derived.Test.YtmjholcpajfldaaGreatDoorHostMb
namespace Go.Proofs.YtmjholcpajfldaaGreatDoor
open Go.RowKit
set_option linter.unusedVariables false
set_option linter.unusedSimpArgs false

theorem less_irr : ∀ a : List UInt8, Op.bytesLess a a = false
  | [] => by simp [Op.bytesLess]
  | x :: xs => by
    have h2 : ¬ x < x := by rw [UInt8.lt_iff_toNat_lt]; omega
    rw [Op.bytesLess, less_irr xs]
    simp [h2]
theorem less_trans : ∀ a b c : List UInt8, Op.bytesLess a b = true → Op.bytesLess b c = true → Op.bytesLess a c = true
  | _, [], _, h, _ => by simp [Op.bytesLess] at h
  | _, _ :: _, [], _, h => by simp [Op.bytesLess] at h
  | [], _ :: _, _ :: _, _, _ => by simp [Op.bytesLess]
  | x :: xs, y :: ys, z :: zs, h1, h2 => by
    rw [Op.bytesLess] at h1 h2 ⊢
    simp only [Bool.or_eq_true, Bool.and_eq_true, decide_eq_true_eq, beq_iff_eq, UInt8.lt_iff_toNat_lt] at h1 h2 ⊢
    rcases h1 with h1 | ⟨rfl, h1⟩
    · rcases h2 with h2 | ⟨rfl, h2⟩
      · exact .inl (by omega)
      · exact .inl h1
    · rcases h2 with h2 | ⟨rfl, h2⟩
      · exact .inl h2
      · exact .inr ⟨rfl, less_trans xs ys zs h1 h2⟩
theorem rise {l : NW} {k : Nat} (h : ∀ j, j ≤ k → okAt l j = true) : ∀ j, j ≤ k → ∀ i, i < j → Op.bytesLess (nmA l i).toList (nmA l j).toList = true := by
  intro j
  induction j with
  | zero => intro _ i hi; omega
  | succ j ih =>
    intro hj i hi
    have h1 := h (j + 1) hj
    unfold okAt at h1
    have h2 : Op.bytesLess (nmA l j).toList (nmA l (j + 1)).toList = true := by
      have h4 := h1
      simp at h4
      exact h4.2
    rcases Nat.lt_or_eq_of_le (Nat.le_of_lt_succ hi) with h3 | h3
    · exact less_trans _ _ _ (ih (by omega) i h3) h2
    · rw [h3]; exact h2
theorem lookI_no {α : Type} (s : ByteArray) : ∀ (l : List (ByteArray × α)) (i : Nat), (∀ x ∈ l, x.1 ≠ s) → lookI s l i = none
  | [], _, _ => rfl
  | x :: r, i, h => by
    have h1 : ¬ (s == x.1) = true := fun e => h x List.mem_cons_self ((Go.MapKept.bytes_beq s x.1).1 e).symm
    rw [lookI, if_neg h1]
    exact lookI_no s r (i + 1) fun y hy => h y (List.mem_cons_of_mem _ hy)
/-- the variables, as the host's map has them -/
def vsA (l : NW) : List (ByteArray × Value) := l.map fun x => (x.1, .int .u32 x.2)
theorem vsA_len (l : NW) : (vsA l).length = l.length := by simp [vsA]
theorem vsA_at (l : NW) (k : Nat) (h : k < l.length) : (vsA l)[k]'(by rw [vsA_len]; exact h) = (nmA l k, .int .u32 (wdA l k)) := by
  simp [vsA, nmA, wdA, List.getD, List.getElem?_eq_getElem h]
theorem vsA_take (l : NW) (k : Nat) (h : k < l.length) : (vsA l).take (k + 1) = (vsA l).take k ++ [(nmA l k, .int .u32 (wdA l k))] := by
  rw [List.take_succ_eq_append_getElem (by rw [vsA_len]; exact h), vsA_at l k h]
theorem put_new {l : NW} {k : Nat} (hk : k < l.length) (h : ∀ j, j ≤ k → okAt l j = true) : putM (nmA l k) (.int .u32 (wdA l k)) ((vsA l).take k) = (vsA l).take (k + 1) := by
  rw [vsA_take l k hk]
  refine lookI_none _ _ _ (lookI_no _ _ _ fun x hx e => ?_)
  obtain ⟨i, hi, rfl⟩ := List.getElem_of_mem hx
  have hi2 : i < k := by simp only [List.length_take] at hi; omega
  rw [List.getElem_take, vsA_at l i (by omega)] at e
  have h1 := rise h k (Nat.le_refl _) i hi2
  have e2 : nmA l i = nmA l k := e
  rw [e2, less_irr] at h1
  cases h1

end Go.Proofs.YtmjholcpajfldaaGreatDoor
