/- Walks: the document's number, At, All, Put, at every width. -/
import Derived.Test.YtdhicfolchpmhaaLawS
namespace Go.Proofs.Ytdhicfolchpmhaa
open Go.RowKit
set_option linter.unusedVariables false
set_option linter.unusedSimpArgs false

theorem num_tail (l : List Int) (k W j : Nat) (hk : k + W ≤ l.length) (hj : j < W) : num ((l.drop (k + (W - (j + 1)))).take (j + 1)) = num ((l.drop (k + (W - j))).take j) * 256 + l.getD (k + (W - 1 - j)) 0 := by
  have h : k + (W - (j + 1)) < l.length := by omega
  rw [List.drop_eq_getElem_cons h, List.take_succ_cons]
  simp only [num]
  have e1 : k + (W - (j + 1)) + 1 = k + (W - j) := by omega
  have e2 : l.getD (k + (W - 1 - j)) 0 = l[k + (W - (j + 1))] := by
    have : k + (W - 1 - j) = k + (W - (j + 1)) := by omega
    rw [this]; simp [List.getD, h]
  rw [e1, e2]; omega
theorem num_tail_bd (l : List Int) (k j : Nat) (hb : Byt l) (hj : j < 8) : 0 ≤ num ((l.drop k).take j) ∧ num ((l.drop k).take j) < 72057594037927936 := by
  have hB : Byt ((l.drop k).take j) := fun b hbm => hb b (List.mem_of_mem_drop (List.mem_of_mem_take hbm))
  obtain ⟨h1, h2⟩ := num_bd _ hB
  refine ⟨h1, ?_⟩
  have h3 : ((l.drop k).take j).length ≤ 7 := by rw [List.length_take]; omega
  have h4 : (256 : Int) ^ ((l.drop k).take j).length ≤ 256 ^ 7 := by
    generalize ((l.drop k).take j).length = m at *
    have h5 := Int.ofNat_le.2 (Nat.pow_le_pow_right (n := 256) (by decide) h3)
    have e1 : ((256 ^ m : Nat) : Int) = (256 : Int) ^ m := Int.natCast_pow 256 m
    have e2 : ((256 ^ 7 : Nat) : Int) = (256 : Int) ^ 7 := Int.natCast_pow 256 7
    rw [← e1, ← e2]
    exact h5
  have h6 : (256 : Int) ^ 7 = 72057594037927936 := by decide
  omega

set_option maxHeartbeats 1000000 in
theorem number104 (W : Nat) (hW : 1 ≤ W) (hW8 : W ≤ 8) (ao : Option Addr) (n cap : Nat) (l : List Int) (k : Nat) (w : World) (hn : n = l.length) (hl : l.length ≤ 140737488351232) (hi : Ints .u8 w ao l) (hk : k + W ≤ l.length) :
    Calls Try.prog 104 #[.int .i64 W, .slice ao n cap, .int .i64 k] w fun e w' => e = .returned (.int .u64 (num ((l.drop k).take W))) ∧ w = w' := by
  subst hn
  obtain ⟨b, off, hao, hc⟩ := hi.at
  have hB : Hid (Byt l) := fun x hx => wf_u8.1 (hi.wf x hx)
  clear hi
  rcases hao with h0 | rfl
  · omega
  have hw0 : IntKind.i64.wrap ((W : Int) - 1) = (W : Int) - 1 := IntWalk.i64_in _ (by omega)
  go_enter Try.func104, Try.ntmps104
  go_wp2_with fail
  go_loopw [7, 8] (fun v i wr => ∃ j : Nat, j ≤ W ∧ v = .int .u64 (num ((l.drop (k + (W - j))).take j)) ∧ i = .int .i64 ((W : Int) - 1 - j) ∧ w = wr) (fun _ i _ => (intOf i + 1).toNat)
  case atStart => exact ⟨0, by omega, by simp [num], by simp, rfl⟩
  case round =>
    obtain ⟨j, hj, rfl, rfl, rfl⟩ := hrel
    by_cases hlt : j < W
    · have hcell := hc.out (k + (W - 1 - j)) (by omega)
      have hst := hid (num_tail l k W j hk hlt)
      have hbd := num_tail_bd l (k + (W - j)) j hB.out (by omega)
      have hbx := hB.out (l.getD (k + (W - 1 - j)) 0) (getD_mem l _ 0 (by omega))
      generalize l.getD (k + (W - 1 - j)) 0 = x at *
      generalize num ((l.drop (k + (W - j))).take j) = v at *
      obtain ⟨p, hp⟩ : ∃ p : Nat, p = W - 1 - j := ⟨_, rfl⟩
      have hpi : (W : Int) - 1 - j = (p : Int) := by omega
      have hpj : Hid (W = p + 1 + j) := by unfold Hid; omega
      rw [← hp] at hcell
      rw [hpi]
      have hw1 : IntKind.u64.wrap (v * 256) = v * 256 := by rw [IntKind.wrap_u64]; omega
      have hw2 : IntKind.u64.wrap (v * 256 + x) = v * 256 + x := by rw [IntKind.wrap_u64]; omega
      have hx1 : ((k : Int) + (p : Int)) < (l.length : Int) := by omega
      have hx2 : k + p < l.length := by omega
      have hw3 : IntKind.i64.wrap ((k : Int) + p) = (k : Int) + p := IntWalk.i64_in _ (by omega)
      have hw4 : IntKind.i64.wrap ((p : Int) - 1) = (p : Int) - 1 := IntWalk.i64_in _ (by omega)
      clear hp hpi
      go_wp2_with fail
      go_roundw
      case rel => exact ⟨j + 1, by omega, by rw [hst.out], by rw [hpj.out]; congr 1; omega, trivial⟩
      case measure => first | (simp [intOf]; omega) | simp [intOf]
    · obtain ⟨z, hz⟩ : ∃ z, z = W := ⟨_, rfl⟩
      obtain rfl : j = z := by omega
      have hs : Hid (num ((l.drop (k + (W - j))).take j) = num ((l.drop k).take W)) := by unfold Hid; rw [hz]; simp
      have hneg : (W : Int) - 1 - j = -1 := by omega
      rw [hneg]
      go_wp2_with fail
      go_ret
      exact ⟨ret_int hs.out, rfl⟩
end Go.Proofs.Ytdhicfolchpmhaa
