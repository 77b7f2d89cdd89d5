/- Walks: the document's With, at every width. -/
import Derived.Test.YtdhicfolchpmhaaRefD
namespace Go.Proofs.Ytdhicfolchpmhaa
open Go.RowKit
set_option linter.unusedVariables false
set_option linter.unusedSimpArgs false

theorem le_get : ∀ (W : Nat) (x : Int) (j : Nat), 0 ≤ x → j < W → (le W x).getD j 0 = x / 256 ^ j % 256
  | 0, _, j, _, h => by omega
  | W + 1, x, 0, _, _ => by simp [le]
  | W + 1, x, j + 1, hx, h => by
    have := le_get W (x / 256) j (by omega) (by omega)
    have e : x / 256 / 256 ^ j = x / 256 ^ (j + 1) := by
      rw [Int.ediv_ediv_of_nonneg (by decide), Int.pow_succ, Int.mul_comm]
    rw [e] at this
    simpa [le] using this
theorem with_len (W : Nat) (l : List Int) (k : Nat) (x : Int) (h : k + W ≤ l.length) : (withL W l k x).length = l.length := by
  simp [withL, le_len]; omega
theorem with_get1 (W : Nat) (l : List Int) (k : Nat) (x : Int) (h : k + W ≤ l.length) (i : Nat) (hi : i < k) : (withL W l k x).getD i 0 = l.getD i 0 := by
  unfold withL
  rw [List.append_assoc]
  simp only [List.getD_eq_getElem?_getD]
  rw [List.getElem?_append_left (by rw [List.length_take]; omega), List.getElem?_take, if_pos hi]
theorem with_get2 (W : Nat) (l : List Int) (k : Nat) (x : Int) (hx : 0 ≤ x) (h : k + W ≤ l.length) (j : Nat) (hj : j < W) : (withL W l k x).getD (k + j) 0 = x / 256 ^ j % 256 := by
  rw [← le_get W x j hx hj]
  unfold withL
  rw [List.append_assoc]
  simp only [List.getD_eq_getElem?_getD]
  have hk : (l.take k).length = k := by rw [List.length_take]; omega
  rw [List.getElem?_append_right (by omega), hk, List.getElem?_append_left (by rw [le_len]; omega)]
  congr 2
  omega
theorem with_get3 (W : Nat) (l : List Int) (k : Nat) (x : Int) (h : k + W ≤ l.length) (i : Nat) (hi : k + W ≤ i) : (withL W l k x).getD i 0 = l.getD i 0 := by
  unfold withL
  rw [List.append_assoc]
  simp only [List.getD_eq_getElem?_getD]
  have hk : (l.take k).length = k := by rw [List.length_take]; omega
  rw [List.getElem?_append_right (by omega), hk, List.getElem?_append_right (by rw [le_len]; omega), le_len, List.getElem?_drop]
  congr 2
  omega

set_option maxHeartbeats 2000000 in
theorem refwith (W : Nat) (hW : 1 ≤ W) (hW8 : W ≤ 8) (ao : Option Addr) (n cap : Nat) (l : List Int) (k : Nat) (x : Int) (w : World) (hn : n = l.length) (hl : l.length ≤ 140737488351232) (hi : Ints .u8 w ao l) (hx : 0 ≤ x ∧ x ≤ 18446744073709551615) (hk : k + W ≤ l.length) :
    Calls Try.prog 37 #[.int .i64 W, .slice ao n cap, .int .i64 k, .int .u64 x] w fun e w' => ∃ v, e = .returned (.tuple #[v, .int .i64 0]) ∧ w'.ownsRow w.heap.size 5 1 v n ((withL W l k x).map (Value.int .u8)) ∧ Below w.heap.size w w' := by
  subst hn
  obtain ⟨b, off, hao, hc⟩ := hi.at
  clear hi
  rcases hao with h0 | rfl
  · omega
  have hX := hid hx
  clear hx
  have hLn := hid (with_len W l k x hk)
  have hw1 : IntKind.i64.wrap ((l.length : Int) - (W : Int)) = (l.length : Int) - (W : Int) := IntWalk.i64_in _ (by omega)
  have hw2 : IntKind.i64.wrap ((k : Int) + (W : Int)) = (k : Int) + (W : Int) := IntWalk.i64_in _ (by omega)
  have hk1 : (k : Int) ≤ (l.length : Int) - (W : Int) := by omega
  go_enter Try.func37, Try.ntmps37
  go_wp2_with fail
  go_loopw [3, 10, 11] (fun y v i wr => ∃ j : Nat, j ≤ l.length ∧ i = .int .i64 j ∧ y = .int .u64 (x / 256 ^ (min (j - k) W)) ∧ wr.ownsRow w.heap.size 5 1 v j (((withL W l k x).take j).map (Value.int .u8)) ∧ Below w.heap.size w wr) (fun _ _ i _ => l.length - (intOf i).toNat)
  case atStart => exact ⟨0, Nat.zero_le _, rfl, by simp, by simpa using World.ownsRow_nil w w.heap.size 5 1, Below.refl _ _⟩
  case round =>
    obtain ⟨j, hj, rfl, rfl, hown, hb⟩ := hrel
    have hO := hid hown
    have hsz := hb.size
    have hB := hid hb
    clear hown
    by_cases hlt : j < l.length
    · have hcell := hc.out j hlt
      have hcell' : wr.cell? ⟨b, off + j, none⟩ = some (.int .u8 (l.getD j 0)) := (hb.cell (World.block_lt_of_cell? w _ hcell)).trans hcell
      have hS := hid (take_snoc (withL W l k x) j 0 (by rw [hLn.out]; exact hlt))
      clear hcell hb
      by_cases h1 : j < k
      · have hg := hid (with_get1 W l k x hk j h1)
        have hm : Hid (min (j - k) W = min (j + 1 - k) W) := by unfold Hid; omega
        have hnk : ¬ (k : Int) ≤ (j : Int) := by omega
        generalize l.getD j 0 = z at *
        go_wp2_with (at_builtin; go_must (refine wpList_append_new rfl _ _ 23 rfl w.heap.size 5 5 (.int .u8 0) 1 1 1 Try.underlying23 Try.info5 rfl (by decide) _ j _ [.int .u8 z] (0, 0) hO.out rfl (by simp [Value.oneCell']) (by unfold maxLen; omega) (by omega) hsz rfl rfl ?_); intro v' w1 hown' hb' _)
        go_roundw
        case rel => exact ⟨j + 1, by omega, by go_num, by rw [hm.out], by rw [hS.out, hg.out]; simpa using hown', hB.out.trans hb'⟩
        case measure => simp [intOf]; omega
      · by_cases h2 : j < k + W
        · obtain ⟨p, hp⟩ : ∃ p, p = j - k := ⟨_, rfl⟩
          have hjp : j = k + p := by omega
          have hg := hid (with_get2 W l k x hX.out.1 hk p (by omega))
          have hm : Hid (min (j - k) W = p) := by unfold Hid; omega
          have hm2 : Hid (min (j + 1 - k) W = p + 1) := by unfold Hid; omega
          have he := hid (ediv_step x p)
          have hyb := ediv_bd x p hX.out
          have hJ := hid hjp
          have hnk : (k : Int) ≤ (j : Int) := by omega
          have hnl : (j : Int) < (k : Int) + (W : Int) := by omega
          rw [← hjp] at hg
          clear hp hjp
          rw [hm.out]
          generalize x / 256 ^ p = y at *
          go_wp2_with (at_builtin; go_must (refine wpList_append_new rfl _ _ 23 rfl w.heap.size 5 5 (.int .u8 0) 1 1 1 Try.underlying23 Try.info5 rfl (by decide) _ j _ [.int .u8 (y % 256)] (0, 0) hO.out rfl (by simp [Value.oneCell']) (by unfold maxLen; omega) (by omega) hsz rfl rfl ?_); intro v' w1 hown' hb' _)
          go_roundw
          case rel => exact ⟨j + 1, by omega, by go_num, by rw [hm2.out, ← he.out], by rw [hS.out, hg.out]; simpa using hown', hB.out.trans hb'⟩
          case measure => simp [intOf]; omega
        · have hg := hid (with_get3 W l k x hk j (by omega))
          have hm : Hid (min (j - k) W = min (j + 1 - k) W) := by unfold Hid; omega
          have hnk : (k : Int) ≤ (j : Int) := by omega
          have hnl : ¬ (j : Int) < (k : Int) + (W : Int) := by omega
          generalize l.getD j 0 = z at *
          go_wp2_with (at_builtin; go_must (refine wpList_append_new rfl _ _ 23 rfl w.heap.size 5 5 (.int .u8 0) 1 1 1 Try.underlying23 Try.info5 rfl (by decide) _ j _ [.int .u8 z] (0, 0) hO.out rfl (by simp [Value.oneCell']) (by unfold maxLen; omega) (by omega) hsz rfl rfl ?_); intro v' w1 hown' hb' _)
          go_roundw
          case rel => exact ⟨j + 1, by omega, by go_num, by rw [hm.out], by rw [hS.out, hg.out]; simpa using hown', hB.out.trans hb'⟩
          case measure => simp [intOf]; omega
    · have hjl : Hid (j = l.length) := by unfold Hid; omega
      have hke : Hid ((withL W l k x).take j = withL W l k x) := List.take_of_length_le (by rw [hLn.out]; omega)
      go_wp2_with fail
      go_ret2
      exact ⟨_, rfl, by have := hO.out; rw [hke.out, hjl.out] at this; exact this, hB.out⟩

set_option maxHeartbeats 1000000 in
theorem refwithNo (W : Nat) (hW : 1 ≤ W) (hW8 : W ≤ 8) (ao : Option Addr) (n cap : Nat) (at_ x : Int) (w : World) (hat : -9223372036854775808 ≤ at_ ∧ at_ ≤ 9223372036854775807) (hl : n ≤ 140737488355328) (h : ¬ (0 ≤ at_ ∧ at_ + W ≤ (n : Int))) :
    Calls Try.prog 37 #[.int .i64 W, .slice ao n cap, .int .i64 at_, .int .u64 x] w fun e w' => e = .returned (.tuple #[.slice none 0 0, .int .i64 20]) ∧ w = w' := by
  have hw1 : IntKind.i64.wrap ((n : Int) - (W : Int)) = (n : Int) - (W : Int) := IntWalk.i64_in _ (by omega)
  by_cases h0 : at_ < 0
  · clear h
    go_enter Try.func37, Try.ntmps37
    go_wp2_with fail
    go_ret2
    exact ⟨rfl, rfl⟩
  · have h1 : (n : Int) - (W : Int) < at_ := by omega
    clear h
    go_enter Try.func37, Try.ntmps37
    go_wp2_with fail
    go_ret2
    exact ⟨rfl, rfl⟩
end Go.Proofs.Ytdhicfolchpmhaa
