/- Walks: hexadecimal digits, escapes, a rune's length, a rune appended: they answer. No condition. -/
import Derived.Test.YtecpkadjnecbiaaGreatDoorProg
import Derived.Test.YtecpkadjnecbiaaGreatDoorKit
import Derived.OwnWalk
import Derived.Laws.ResultCell
namespace Go.Proofs.YtecpkadjnecbiaaGreatDoor
open Go.RowKit
set_option linter.unusedVariables false
set_option linter.unusedSimpArgs false

theorem hex124 (c : Nat) (hc : c < 256) (w : World) : Calls Tryz.prog 124 #[.int .u8 c] w fun e w' => (∃ d : Int, e = .returned (.int .i32 d)) ∧ w' = w := by
  go_enter Tryz.func124, Tryz.ntmps124
  go_wp2_with fail
  all_goals
    go_ret
    exact ⟨⟨_, rfl⟩, rfl⟩
def Num (s : ByteArray) (n : Nat) (w : World) (e : Ending) (w' : World) : Prop := (∃ (x : Int) (b : Bool), e = .returned (.tuple #[.int .i32 x, .bool b]) ∧ (b = true → n ≤ s.size)) ∧ w' = w
set_option maxHeartbeats 1000000 in
theorem number122 (s : ByteArray) (n : Nat) (w : World) (hs : s.size ≤ 1048576) (hn : n ≤ 8) : Calls Tryz.prog 122 #[.string s, .int .i64 n] w (Num s n w) := by
  go_enter Tryz.func122, Tryz.ntmps122
  by_cases hl : s.size < n
  · go_wp2_with fail
    go_ret2
    exact ⟨⟨_, _, rfl, fun h => by cases h⟩, rfl⟩
  · go_wp2_with fail
    go_loopw [6, 14] (fun x i wr => ∃ (k : Nat) (y : Int), x = .int .i32 y ∧ k ≤ n ∧ i = .int .i64 k ∧ wr = w) (fun _ i _ => n - (intOf i).toNat)
    case atStart => exact ⟨0, 0, rfl, Nat.zero_le _, rfl, rfl⟩
    case round =>
      obtain ⟨k, y, rfl, hk, rfl, rfl⟩ := hrel
      by_cases hkn : k < n
      · have hcall := hex124 (s[k]'(by omega)).toNat (s[k]'(by omega)).toNat_lt wr
        go_wp2_with fail
        refine hcall.mono ?_
        rintro e w2 ⟨⟨d, rfl⟩, rfl⟩
        go_wp2_with fail
        · go_ret2
          exact ⟨⟨_, _, rfl, fun h => by cases h⟩, rfl⟩
        · go_roundw
          case rel => exact ⟨k + 1, _, rfl, by omega, by go_num, trivial⟩
          case measure => simp [intOf]; omega
      · obtain rfl : k = n := by omega
        go_wp2_with fail
        go_ret2
        exact ⟨⟨_, _, rfl, fun _ => by omega⟩, rfl⟩
theorem number122' (s : ByteArray) (x : Int) (w : World) (hs : s.size ≤ 1048576) (hx : 0 ≤ x ∧ x ≤ 8) : Calls Tryz.prog 122 #[.string s, .int .i64 x] w (Num s x.toNat w) := by
  obtain ⟨n, rfl⟩ : ∃ n : Nat, x = n := ⟨x.toNat, by omega⟩
  exact number122 s n w hs (by omega)
/-- a rune's length -/
def runeLen (r : Int) : Int := if r < 0 then -1 else if r ≤ 127 then 1 else if r ≤ 2047 then 2 else if 55296 ≤ r ∧ r ≤ 57343 then -1 else if r ≤ 65535 then 3 else if r ≤ 1114111 then 4 else -1
theorem runelen115 (r : Int) (w : World) : Calls Tryz.prog 115 #[.int .i32 r] w fun e w' => e = .returned (.int .i64 (runeLen r)) ∧ w' = w := by
  go_enter Tryz.func115, Tryz.ntmps115
  go_wp2_with fail
  all_goals
    go_ret
    exact ⟨ret_int (by unfold runeLen; repeat' split; all_goals omega), rfl⟩

def Esc (s : ByteArray) (w : World) (e : Ending) (w' : World) : Prop :=
  (∃ (c : Int) (b : Bool) (sz : Int) (ok : Bool), e = .returned (.tuple #[.agg #[.int .i32 c, .bool b, .int .i64 sz], .bool ok]) ∧ (ok = true → 2 ≤ sz ∧ sz ≤ s.size ∧ sz ≤ 6)) ∧ Below w.heap.size w w'
set_option maxRecDepth 100000 in
set_option maxHeartbeats 2000000 in
theorem escape114 (s : ByteArray) (w : World) (hs : s.size ≤ 1048576) : Calls Tryz.prog 114 #[.string s] w (Esc s w) := by
  have hB : ∀ o, Below w.heap.size w (w.alloc o) := fun o => (Below.refl _ _).alloc (Nat.le_refl _) o
  by_cases hl : s.size < 2
  · go_enter Tryz.func114, Tryz.ntmps114
    go_wp2_with fail
    refine ⟨rfl, ?_⟩
    simp [results, Tryz.results114, go_sem]
    exact ⟨⟨_, _, _, _, rfl, fun h => by cases h⟩, hB _⟩
  · go_enter Tryz.func114, Tryz.ntmps114
    go_wp2_with (go_at_call 122; refine (number122' _ _ _ (by simp; omega) (by omega)).mono ?_; rintro e w2 ⟨⟨x, b, rfl, hb⟩, rfl⟩)
    all_goals
      refine ⟨rfl, ?_⟩
      simp [results, Tryz.results114, go_sem]
      refine ⟨⟨_, _, _, _, rfl, fun hh => ?_⟩, hB _⟩
      first
        | omega
        | (simp at hh; done)
        | (have hbb := hb rfl
           simp at hbb
           omega)
        | (have hbb := hb (by assumption)
           simp at hbb
           omega)

end Go.Proofs.YtecpkadjnecbiaaGreatDoor
