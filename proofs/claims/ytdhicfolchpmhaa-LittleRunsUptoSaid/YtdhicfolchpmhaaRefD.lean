/- Walks: the document's Put, at every width. -/
import Derived.Test.YtdhicfolchpmhaaRefC
namespace Go.Proofs.Ytdhicfolchpmhaa
open Go.RowKit
set_option linter.unusedVariables false
set_option linter.unusedSimpArgs false

theorem le_snoc (j : Nat) : ∀ x : Int, 0 ≤ x → le (j + 1) x = le j x ++ [x / 256 ^ j % 256] := by
  induction j with
  | zero => intro x _; simp [le]
  | succ j ih =>
    intro x hx
    show x % 256 :: le (j + 1) (x / 256) = (x % 256 :: le j (x / 256)) ++ [x / 256 ^ (j + 1) % 256]
    rw [ih (x / 256) (by omega)]
    have e : x / 256 / 256 ^ j = x / 256 ^ (j + 1) := by
      rw [Int.ediv_ediv_of_nonneg (by decide), Int.pow_succ, Int.mul_comm]
    rw [e]
    rfl
theorem put_snoc (W : Nat) (l : List Int) (k : Nat) (h : k < l.length) : putL W (l.take (k + 1)) = putL W (l.take k) ++ le W (l.getD k 0) := by
  rw [take_snoc l k 0 h]; simp [putL]
theorem ediv_step (x : Int) (j : Nat) : x / 256 ^ j / 256 = x / 256 ^ (j + 1) := by
  rw [Int.ediv_ediv_of_nonneg (Int.le_of_lt (Int.pow_pos (by decide))), Int.pow_succ]
theorem ediv_bd (x : Int) (j : Nat) (h : 0 ≤ x ∧ x ≤ 18446744073709551615) : 0 ≤ x / 256 ^ j ∧ x / 256 ^ j ≤ 18446744073709551615 := by
  have hp : (0 : Int) < 256 ^ j := Int.pow_pos (by decide)
  refine ⟨Int.ediv_nonneg h.1 (Int.le_of_lt hp), ?_⟩
  exact Int.le_trans (Int.ediv_le_self _ h.1) h.2

set_option maxHeartbeats 1000000 in
theorem refput (W : Nat) (hW : 1 ≤ W) (hW8 : W ≤ 8) (ao : Option Addr) (n cap : Nat) (l : List Int) (w : World) (hn : n = l.length) (hl : l.length * 8 ≤ 140737488351232) (hi : Ints .u64 w ao l) :
    Calls Try.prog 34 #[.int .i64 W, .slice ao n cap] w fun e w' => ∃ v, e = .returned v ∧ w'.ownsRow w.heap.size 5 1 v (n * W) ((putL W l).map (Value.int .u8)) ∧ Below w.heap.size w w' := by
  subst hn
  obtain ⟨b, off, hao, hc⟩ := hi.at
  have hwf := hid hi.wf
  clear hi
  have hmul : ∀ i : Nat, i ≤ l.length → i * W ≤ l.length * 8 := fun i h => Nat.mul_le_mul h hW8
  have hM := hid hmul
  clear hmul
  rcases hao with hz | rfl
  all_goals
    go_enter Try.func34, Try.ntmps34
    go_wp2_with fail
    go_loopw [5, 6] (fun v i wr => ∃ k : Nat, k ≤ l.length ∧ i = .int .i64 k ∧ wr.ownsRow w.heap.size 5 1 v (k * W) ((putL W (l.take k)).map (Value.int .u8)) ∧ Below w.heap.size w wr) (fun _ i _ => l.length - (intOf i).toNat)
    case atStart => exact ⟨0, Nat.zero_le _, rfl, by simpa [putL] using World.ownsRow_nil w w.heap.size 5 1, Below.refl _ _⟩
    case round =>
      obtain ⟨k, hk, rfl, hown, hb⟩ := hrel
      have hO := hid hown
      have hB := hid hb
      clear hown
      by_cases hlt : k < l.length
      · first
        | omega
        | have hcell := hc.out k hlt
          have hcell' : wr.cell? ⟨b, off + k, none⟩ = some (.int .u64 (l.getD k 0)) := (hb.cell (World.block_lt_of_cell? w _ hcell)).trans hcell
          have hxb := wf_u64.1 (hwf.out _ (getD_mem l k 0 hlt))
          have HP := hid (put_snoc W l k hlt)
          clear hcell hb
          generalize l.getD k 0 = x at *
          have hxb' := hid hxb
          clear hxb
          go_wp2_with fail
          go_loopw [5, 7, 8] (fun v y i wr => ∃ j : Nat, j ≤ W ∧ y = .int .u64 (x / 256 ^ j) ∧ i = .int .i64 j ∧ wr.ownsRow w.heap.size 5 1 v (k * W + j) ((putL W (l.take k) ++ le j x).map (Value.int .u8)) ∧ Below w.heap.size w wr) (fun _ _ i _ => W - (intOf i).toNat)
          case atStart => exact ⟨0, Nat.zero_le _, by simp, rfl, by simpa [le] using hO.out, hB.out⟩
          case round =>
            clear hO hB hcell'
            obtain ⟨j, hj, rfl, rfl, hown, hb⟩ := hrel
            have hO := hid hown
            have hsz := hb.size
            have hB := hid hb
            clear hown hb
            by_cases hlt2 : j < W
            · have hs := hid (le_snoc j x hxb'.out.1)
              have he := hid (ediv_step x j)
              have hyb := ediv_bd x j hxb'.out
              have hkM := hM.out (k + 1) (by omega)
              have hkm : (k + 1) * W = k * W + W := Nat.succ_mul k W
              have hlen : k * W + j + 1 ≤ 140737488351232 := by omega
              clear hkm hkM
              generalize x / 256 ^ j = y at *
              go_wp2_with (at_builtin; go_must (refine wpList_append_new rfl _ _ 23 rfl w.heap.size 5 5 (.int .u8 0) 1 1 1 Try.underlying23 Try.info5 rfl (by decide) _ (k * W + j) _ [.int .u8 (y % 256)] (0, 0) hO.out rfl (by simp [Value.oneCell']) (by unfold maxLen; omega) (by omega) hsz rfl rfl ?_); intro v' w1 hown' hb' _)
              go_roundw
              case rel => exact ⟨j + 1, by omega, by rw [← he.out], by go_num, by rw [hs.out]; simpa [Nat.add_assoc] using hown', hB.out.trans hb'⟩
              case measure => simp [intOf]; omega
            · obtain ⟨z, hz⟩ : ∃ z, z = W := ⟨_, rfl⟩
              obtain rfl : j = z := by omega
              have hz' := hid hz
              clear hz
              go_wp2_with fail
              go_roundw
              case rel => exact ⟨k + 1, by omega, by go_num, by rw [HP.out]; have := hO.out; rw [hz'.out] at this; rw [Nat.succ_mul]; exact this, hB.out⟩
              case measure => simp [intOf]; omega
      · have hke : Hid (l.take k = l) := List.take_of_length_le (by omega)
        have hkl : Hid (k = l.length) := by unfold Hid; omega
        go_wp2_with fail
        go_ret
        exact ⟨_, rfl, by have := hO.out; rw [hke.out, hkl.out] at this; exact this, hB.out⟩
end Go.Proofs.Ytdhicfolchpmhaa
