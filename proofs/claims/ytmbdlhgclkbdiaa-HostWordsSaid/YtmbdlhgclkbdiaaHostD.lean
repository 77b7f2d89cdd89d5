/- Walks: the host's grants, by word. -/
import Derived.Test.YtmbdlhgclkbdiaaHostC
namespace Go.Proofs.Ytmbdlhgclkbdiaa
open Go.RowKit
set_option linter.unusedVariables false
set_option linter.unusedSimpArgs false

set_option maxHeartbeats 1000000 in
set_option maxRecDepth 10000 in
theorem grants14 (w : World) : Calls Try.prog 14 #[] w fun e w' => ∃ v, e = .returned v ∧ w'.ownsRow w.heap.size 58 2 v 24 (pairsM grF grG 0 24) ∧ Below w.heap.size w w' := by
  go_enter Try.func14, Try.ntmps14
  go_wp2_with fail
  refine (rows32 _).mono ?_
  rintro e w1 ⟨A, rfl, hA, hg⟩
  have hA' := hid hA
  have hB1 := hid (below_of_grown hg)
  clear hg hA
  go_wp2_with fail
  go_loopw [1, 5] (fun v i wr => ∃ (k : Nat) (v0 : Value), k ≤ 24 ∧ v0 = v ∧ i = .int .i64 k ∧ wr.ownsRow w.heap.size 58 2 v0 k (pairsM grF grG 0 k) ∧ Below w.heap.size w wr) (fun _ i _ => 24 - (intOf i).toNat)
  case atStart => exact ⟨0, _, by omega, rfl, rfl, World.ownsRow_nil _ _ 58 2, hB1.out⟩
  case round =>
    clear hB1
    obtain ⟨k, v, hk, rfl, rfl, ho, hb⟩ := hrel
    have hO := hid ho
    have hB := hid hb
    have hsz := hb.size
    clear ho hb
    by_cases hlt : k < 24
    · have hr := run_rows A hA'.out k hlt .i64 wr
      have hpx := hid (pairsM_succ grF grG 0 k)
      have hgF : grF 0 k = .int .u32 (16 + (k : Int)) := by simp [grF]
      have hgG : grG 0 k = .int .i64 (ar k) := rfl
      rw [hgF, hgG] at hpx
      generalize nm k = s at *
      generalize ar k = y at *
      clear hgF hgG
      have hw1 : IntKind.u32.wrap (k : Int) = k := by rw [IntKind.wrap_u32]; omega
      have hw2 : IntKind.u32.wrap (16 + (k : Int)) = 16 + k := by rw [IntKind.wrap_u32]; omega
      go_wp2_with (at_builtin; go_must (refine wpList_append_new rfl _ _ 29 rfl w.heap.size 58 58 (.agg #[.int .u32 0, .int .i64 0]) 2 16 1 Try.underlying29 (by kernel_rfl) rfl (by decide) _ k _ [.int .u32 (16 + (k : Int)), .int .i64 y] (0, 0) (hO.out.alloc _) rfl (by simp [Value.oneCell']) (by unfold maxLen; omega) (by omega) (by simp; omega) rfl (by rw [World.size_alloc]; rfl) ?_); intro v' w2 hown' hb' _)
      rw [← hpx.out] at hown'
      have hO2 := hid hown'
      have hB2 := hid ((hB.out.alloc hsz _).trans hb')
      clear hown' hb'
      go_roundw
      case rel => exact ⟨k + 1, _, by omega, rfl, by go_num, hO2.out, hB2.out⟩
      case measure => simp [intOf]; omega
    · obtain rfl : k = 24 := by omega
      go_wp2_with fail
      go_ret
      exact ⟨_, rfl, hO.out, hB.out⟩

/-- what is told of a word -/
def BW (s : ByteArray) (e : Ending) : Prop :=
  (∃ k : Nat, k < 24 ∧ (∀ j, j < k → ((nm j).toList == s.toList) = false) ∧ ((nm k).toList == s.toList) = true ∧ e = .returned (.tuple #[.int .u32 (16 + (k : Int)), .bool true])) ∨
  ((∀ j, j < 24 → ((nm j).toList == s.toList) = false) ∧ e = .returned (.tuple #[.int .u32 0, .bool false]))

set_option maxHeartbeats 1000000 in
set_option maxRecDepth 10000 in
theorem byword17 (s : ByteArray) (w : World) : Calls Try.prog 17 #[.string s] w fun e w' => BW s e ∧ w.grownBy w' none := by
  go_enter Try.func17, Try.ntmps17
  go_wp2_with fail
  go_loopw [4] (fun i wr => ∃ k : Nat, k ≤ 24 ∧ i = .int .u32 ((16 + k : Nat) : Int) ∧ Hid (∀ j, j < k → ((nm j).toList == s.toList) = false) ∧ w.grownBy wr none) (fun i _ => 40 - (intOf i).toNat)
  case atStart => exact ⟨0, by omega, rfl, fun j hj => by omega, grown_refl _ _⟩
  case round =>
    obtain ⟨k, hk, rfl, hno, hg0⟩ := hrel
    have hG := hid hg0
    clear hg0
    by_cases hlt : k < 24
    · have hle : (((16 + k : Nat) : Int) ≤ 39) = True := eq_true (by omega)
      have h21 := hid (fun w => word21 k hlt ((16 + k : Nat) : Int) (by omega) w)
      have hwr := hid (show IntKind.u32.wrap (((16 + k : Nat) : Int) + 1) = ((16 + (k + 1) : Nat) : Int) from by rw [IntKind.wrap_u32]; omega)
      obtain ⟨z, hz⟩ : ∃ z : Int, z = ((16 + k : Nat) : Int) := ⟨_, rfl⟩
      have hz' := hid hz
      rw [← hz] at hle h21 hwr ⊢
      clear hz
      have hzz : Hid (z = 16 + (k : Int)) := by have := hz'.out; unfold Hid; omega
      cases hc : ((nm k).toList == s.toList)
      · have hcc := hid hc
        go_wp2_with fail
        refine (h21.out _).mono ?_
        rintro e w1 ⟨rfl, hg⟩
        have hG1 := hid (grown_trans hG.out hg)
        clear hg
        go_wp2_with fail
        go_roundw
        case rel => exact ⟨k + 1, by omega, val_int hwr.out, fun j hj => by
          by_cases h : j < k
          · exact hno.out j h
          · obtain rfl : j = k := by omega
            exact hcc.out, hG1.out⟩
        case measure => have h1 := hz'.out; have h2 := hwr.out; simp [intOf]; omega
      · have hcc := hid hc
        go_wp2_with fail
        refine (h21.out _).mono ?_
        rintro e w1 ⟨rfl, hg⟩
        have hG1 := hid (grown_trans hG.out hg)
        clear hg
        go_wp2_with fail
        go_ret2
        exact ⟨.inl ⟨k, hlt, hno.out, hcc.out, by rw [hzz.out]; rfl⟩, hG1.out⟩
    · obtain rfl : k = 24 := by omega
      go_wp2_with fail
      go_ret2
      exact ⟨.inr ⟨hno.out, rfl⟩, hG.out⟩

set_option maxHeartbeats 1000000 in
set_option maxRecDepth 10000 in
theorem byword16 (s : ByteArray) (w : World) : Calls Try.prog 16 #[.string s] w fun e w' => BW s e ∧ w.grownBy w' none := by
  go_enter Try.func16, Try.ntmps16
  go_wp2_with fail
  refine (rows32 _).mono ?_
  rintro e w1 ⟨A, rfl, hA, hg⟩
  have hA' := hid hA
  have hG1 := hid hg
  clear hg hA
  go_wp2_with fail
  go_loopw [7] (fun i wr => ∃ k : Nat, k ≤ 24 ∧ i = .int .i64 k ∧ Hid (∀ j, j < k → ((nm j).toList == s.toList) = false) ∧ w.grownBy wr none) (fun i _ => 24 - (intOf i).toNat)
  case atStart => exact ⟨0, by omega, rfl, fun j hj => by omega, hG1.out⟩
  case round =>
    clear hG1
    obtain ⟨k, hk, rfl, hno, hg0⟩ := hrel
    have hG := hid hg0
    clear hg0
    by_cases hlt : k < 24
    · have hr := run_rows A hA'.out k hlt .i64 wr
      have hw1 : IntKind.u32.wrap (k : Int) = k := by rw [IntKind.wrap_u32]; omega
      have hw2 : IntKind.u32.wrap (16 + (k : Int)) = 16 + k := by rw [IntKind.wrap_u32]; omega
      cases hc : ((nm k).toList == s.toList)
      · have hcc := hid hc
        go_wp2_with fail
        go_roundw
        case rel => exact ⟨k + 1, by omega, by go_num, fun j hj => by
          by_cases h : j < k
          · exact hno.out j h
          · obtain rfl : j = k := by omega
            exact hcc.out, grown_trans hG.out (World.grownBy_alloc _ _ _)⟩
        case measure => simp [intOf]; omega
      · have hcc := hid hc
        go_wp2_with fail
        go_ret2
        exact ⟨.inl ⟨k, hlt, hno.out, hcc.out, rfl⟩, grown_trans hG.out (World.grownBy_alloc _ _ _)⟩
    · obtain rfl : k = 24 := by omega
      go_wp2_with fail
      go_ret2
      exact ⟨.inr ⟨hno.out, rfl⟩, hG.out⟩

theorem BW.same {s : ByteArray} {a b : Value} (h1 : BW s (.returned a)) (h2 : BW s (.returned b)) : a = b := by
  rcases h1 with ⟨k, hk, hn, he, h1⟩ | ⟨hn, h1⟩ <;> rcases h2 with ⟨m, hm, hn2, he2, h2⟩ | ⟨hn2, h2⟩
  · have : k = m := by
      rcases Nat.lt_trichotomy k m with h | h | h
      · rw [hn2 k h] at he; cases he
      · exact h
      · rw [hn m h] at he2; cases he2
    subst this
    simp only [Ending.returned.injEq] at h1 h2
    rw [h1, h2]
  · rw [hn2 k hk] at he; cases he
  · rw [hn m hm] at he2; cases he2
  · simp only [Ending.returned.injEq] at h1 h2
    rw [h1, h2]

set_option maxHeartbeats 1000000 in
theorem same19 (g1 g2 n c1 c2 : Nat) (f h : Nat → Int) (w : World) (hn : n ≤ 1000000)
    (h1 : ∀ i, i < n → w.cell? ⟨g1, i * 2, none⟩ = some (.int .u32 (f i)) ∧ w.cell? ⟨g1, i * 2 + 1, none⟩ = some (.int .i64 (h i)))
    (h2 : ∀ i, i < n → w.cell? ⟨g2, i * 2, none⟩ = some (.int .u32 (f i)) ∧ w.cell? ⟨g2, i * 2 + 1, none⟩ = some (.int .i64 (h i))) :
    Calls Try.prog 19 #[.slice (some ⟨g1, 0, none⟩) n c1, .slice (some ⟨g2, 0, none⟩) n c2] w fun e w' => e = .returned (.bool true) ∧ ∃ q, w' = w.drewN q := by
  have hc1 := hid h1
  have hc2 := hid h2
  clear h1 h2
  go_enter Try.func19, Try.ntmps19
  go_wp2_with fail
  go_loopw [5] (fun i wr => ∃ k q : Nat, k ≤ n ∧ i = .int .i64 k ∧ wr = w.drewN q) (fun i _ => n - (intOf i).toNat)
  case atStart => exact ⟨0, 0, Nat.zero_le _, rfl, rfl⟩
  case round =>
    obtain ⟨k, q, hk, rfl, hw⟩ := hrel
    have hW := hid hw
    by_cases hlt : k < n
    · have a1 : wr.cell? ⟨g1, k * 2, none⟩ = some (.int .u32 (f k)) := by rw [hw]; exact (hc1.out k hlt).1
      have a2 : wr.cell? ⟨g1, k * 2 + 1, none⟩ = some (.int .i64 (h k)) := by rw [hw]; exact (hc1.out k hlt).2
      have a3 : wr.cell? ⟨g2, k * 2, none⟩ = some (.int .u32 (f k)) := by rw [hw]; exact (hc2.out k hlt).1
      have a4 : wr.cell? ⟨g2, k * 2 + 1, none⟩ = some (.int .i64 (h k)) := by rw [hw]; exact (hc2.out k hlt).2
      generalize f k = x at *
      generalize h k = y at *
      clear hw
      go_wp2_with fail
      go_quiet ((fail))
      go_wp2_with fail
      go_roundw
      case rel => exact ⟨k + 1, q + nq, by omega, by go_num, by rw [hW.out]; simp⟩
      case measure => simp [intOf]; omega
    · subst hw
      go_wp2_with fail
      go_ret
      exact ⟨rfl, q, rfl⟩
end Go.Proofs.Ytmbdlhgclkbdiaa
