/- Walks: the reference's runeAt. No condition. -/
import Derived.Test.YtecpkadjnecbiaaGreatDoorProg
import Derived.Test.YtecpkadjnecbiaaGreatDoorRefB
namespace Go.Proofs.YtecpkadjnecbiaaGreatDoor
open Go.RowKit
set_option linter.unusedVariables false
set_option linter.unusedSimpArgs false

open Go.Shelf
attribute [local go_sem] Oper.semAt_some

theorem ext_cont {C : Nat → Prop} {j : Nat} (h : ∀ i, 1 ≤ i → i < j → C i) (hj : C j) : ∀ i, 1 ≤ i → i < j + 1 → C i := fun i h1 h2 => by
  rcases Nat.lt_or_ge i j with h3 | h3
  · exact h i h1 h3
  · have e : i = j := by omega
    rw [e]
    exact hj
set_option maxRecDepth 100000 in
set_option maxHeartbeats 8000000 in
theorem runeAt69 (s : ByteArray) (k : Nat) (w : World) (hs : s.size ≤ 1048576) (hk : k < s.size) : Calls Tryz.prog 69 #[.string s, .int .i64 k] w
    fun e w' => (∃ (r : Int) (n : Nat), e = .returned (.tuple #[.int .i32 r, .int .i64 n]) ∧ RuneAt s k r n) ∧ w' = w := by
  go_enter Tryz.func69, Tryz.ntmps69
  have hb0 : ((s[k]'hk).toNat : Int) = by' s k 0 := by_at s k 0 hk
  have hl0 := by_lt s k 0
  have hw0 : wrap32 ((s[k]'hk).toNat : Int) = ((s[k]'hk).toNat : Int) := by unfold wrap32; omega
  by_cases h128 : by' s k 0 < 128
  · have hlt : ((s[k]'hk).toNat : Int) < 128 := by omega
    go_wp2_with fail
    go_ret2
    exact ⟨⟨_, 1, rfl, runeAt_is hk (dec1 s k h128) (by intro e; injection e with e _; omega) rfl⟩, rfl⟩
  have hge : 128 ≤ ((s[k]'hk).toNat : Int) := by omega
  by_cases hX : by' s k 0 < 192 ∨ 248 ≤ by' s k 0
  · have hres : RuneAt s k 0 0 := runeAt_lost hk (decX s k (by omega) hX)
    rcases hX with hX | hX
    · have hx : ((s[k]'hk).toNat : Int) < 192 := by omega
      go_wp2_with fail
      go_ret2
      exact ⟨⟨0, 0, rfl, hres⟩, rfl⟩
    · have hx : 248 ≤ ((s[k]'hk).toNat : Int) := by omega
      go_wp2_with fail
      go_ret2
      exact ⟨⟨0, 0, rfl, hres⟩, rfl⟩
  by_cases h224 : by' s k 0 < 224
  · have x1 : 192 ≤ ((s[k]'hk).toNat : Int) := by omega
    have x2 : ((s[k]'hk).toNat : Int) < 224 := by omega
    have y1 : 192 ≤ by' s k 0 := by omega
    have y2 : by' s k 0 < 224 := by omega
    by_cases hfit : s.size < k + 2
    · have hres : RuneAt s k 0 0 := runeAt_lost hk (dec2X s k y1 y2 (.inl hfit))
      go_wp2_with fail
      go_ret2
      exact ⟨⟨0, 0, rfl, hres⟩, rfl⟩
    go_wp2_with fail
    go_loopw [8, 10] (fun x y wr => ∃ (j : Nat) (v : Int), x = .int .i32 v ∧ y = .int .i64 j ∧ 1 ≤ j ∧ j ≤ 2 ∧ v = val s k (by' s k 0 - 192) (j - 1) ∧ 0 ≤ v ∧ (j = 1 → v < 32) ∧ (j = 2 → v < 2048) ∧ (∀ i, 1 ≤ i → i < j → 128 ≤ by' s k i ∧ by' s k i ≤ 191) ∧ wr = w) (fun _ y _ => 2 - (intOf y).toNat)
    case atStart => exact ⟨1, _, rfl, rfl, by omega, by omega, rfl, by omega, by omega, by omega, fun i h1 h2 => by omega, rfl⟩
    case round =>
      obtain ⟨j, v, rfl, rfl, hj1, hj2, hv, hv0, z1, z2, hct, hw⟩ := hrel
      subst wr
      have hct' := hid hct
      have hv' := hid hv
      clear hct hv
      have hcase : j = 1 ∨ j = 2 := by omega
      rcases hcase with hc | hc
      · subst j
        have hvb : v < 32 := z1 rfl
        clear z1 z2
        have hkj : k + 1 < s.size := by omega
        have hbj := by_at s k 1 hkj
        have hlj := by_lt s k 1
        have hwj : wrap32 ((s[k + 1]'hkj).toNat : Int) = ((s[k + 1]'hkj).toNat : Int) := by unfold wrap32; omega
        by_cases hct2 : by' s k 1 < 128 ∨ 191 < by' s k 1
        · have hres : RuneAt s k 0 0 := runeAt_lost hk (dec2X s k y1 y2 (.inr (by omega)))
          rcases hct2 with hct2 | hct2
          · have hx : ((s[k + 1]'hkj).toNat : Int) < 128 := by omega
            go_wp2_with fail
            go_ret2
            exact ⟨⟨0, 0, rfl, hres⟩, rfl⟩
          · have hx : 191 < ((s[k + 1]'hkj).toNat : Int) := by omega
            go_wp2_with fail
            go_ret2
            exact ⟨⟨0, 0, rfl, hres⟩, rfl⟩
        · have hx1 : 128 ≤ ((s[k + 1]'hkj).toNat : Int) := by omega
          have hx2 : ((s[k + 1]'hkj).toNat : Int) ≤ 191 := by omega
          go_wp2_with fail
          go_roundw
          case rel => exact ⟨2, _, rfl, by go_num, by omega, by omega, by rw [hv'.out]; rfl, by omega, by omega, by omega, ext_cont hct'.out (by omega), trivial⟩
          case measure => simp [intOf]
      · subst j
        have hvb : v < 2048 := z2 rfl
        clear z1 z2
        have hY := dec2Y s k y1 y2 (by omega) (hct'.out 1 (by omega) (by omega))
        have hvv : val s k (by' s k 0 - 192) 1 = v := hv'.out.symm
        rw [hvv] at hY
        have hY1 := hid hY.1
        have hY2 := hid hY.2
        clear hY hvv
        go_wp2_with fail
        all_goals
          go_ret2
          first
            | exact ⟨⟨0, 0, rfl, runeAt_lost hk (hY1.out (by omega))⟩, rfl⟩
            | exact ⟨⟨v, 2, rfl, runeAt_is hk (hY2.out (by omega)) (by simp) (by omega)⟩, rfl⟩
  by_cases h240 : by' s k 0 < 240
  · have x1 : 224 ≤ ((s[k]'hk).toNat : Int) := by omega
    have x2 : ((s[k]'hk).toNat : Int) < 240 := by omega
    have y1 : 224 ≤ by' s k 0 := by omega
    have y2 : by' s k 0 < 240 := by omega
    by_cases hfit : s.size < k + 3
    · have hres : RuneAt s k 0 0 := runeAt_lost hk (dec3X s k y1 y2 (.inl hfit))
      go_wp2_with fail
      go_ret2
      exact ⟨⟨0, 0, rfl, hres⟩, rfl⟩
    go_wp2_with fail
    go_loopw [8, 10] (fun x y wr => ∃ (j : Nat) (v : Int), x = .int .i32 v ∧ y = .int .i64 j ∧ 1 ≤ j ∧ j ≤ 3 ∧ v = val s k (by' s k 0 - 224) (j - 1) ∧ 0 ≤ v ∧ (j = 1 → v < 16) ∧ (j = 2 → v < 1024) ∧ (j = 3 → v < 65536) ∧ (∀ i, 1 ≤ i → i < j → 128 ≤ by' s k i ∧ by' s k i ≤ 191) ∧ wr = w) (fun _ y _ => 3 - (intOf y).toNat)
    case atStart => exact ⟨1, _, rfl, rfl, by omega, by omega, rfl, by omega, by omega, by omega, by omega, fun i h1 h2 => by omega, rfl⟩
    case round =>
      obtain ⟨j, v, rfl, rfl, hj1, hj2, hv, hv0, z1, z2, z3, hct, hw⟩ := hrel
      subst wr
      have hct' := hid hct
      have hv' := hid hv
      clear hct hv
      have hcase : j = 1 ∨ j = 2 ∨ j = 3 := by omega
      rcases hcase with hc | hc | hc
      · subst j
        have hvb : v < 16 := z1 rfl
        clear z1 z2 z3
        have hkj : k + 1 < s.size := by omega
        have hbj := by_at s k 1 hkj
        have hlj := by_lt s k 1
        have hwj : wrap32 ((s[k + 1]'hkj).toNat : Int) = ((s[k + 1]'hkj).toNat : Int) := by unfold wrap32; omega
        by_cases hct2 : by' s k 1 < 128 ∨ 191 < by' s k 1
        · have hres : RuneAt s k 0 0 := runeAt_lost hk (dec3X s k y1 y2 (.inr (by omega)))
          rcases hct2 with hct2 | hct2
          · have hx : ((s[k + 1]'hkj).toNat : Int) < 128 := by omega
            go_wp2_with fail
            go_ret2
            exact ⟨⟨0, 0, rfl, hres⟩, rfl⟩
          · have hx : 191 < ((s[k + 1]'hkj).toNat : Int) := by omega
            go_wp2_with fail
            go_ret2
            exact ⟨⟨0, 0, rfl, hres⟩, rfl⟩
        · have hx1 : 128 ≤ ((s[k + 1]'hkj).toNat : Int) := by omega
          have hx2 : ((s[k + 1]'hkj).toNat : Int) ≤ 191 := by omega
          go_wp2_with fail
          go_roundw
          case rel => exact ⟨2, _, rfl, by go_num, by omega, by omega, by rw [hv'.out]; rfl, by omega, by omega, by omega, by omega, ext_cont hct'.out (by omega), trivial⟩
          case measure => simp [intOf]
      · subst j
        have hvb : v < 1024 := z2 rfl
        clear z1 z2 z3
        have hkj : k + 2 < s.size := by omega
        have hbj := by_at s k 2 hkj
        have hlj := by_lt s k 2
        have hwj : wrap32 ((s[k + 2]'hkj).toNat : Int) = ((s[k + 2]'hkj).toNat : Int) := by unfold wrap32; omega
        by_cases hct2 : by' s k 2 < 128 ∨ 191 < by' s k 2
        · have hres : RuneAt s k 0 0 := runeAt_lost hk (dec3X s k y1 y2 (.inr (by omega)))
          rcases hct2 with hct2 | hct2
          · have hx : ((s[k + 2]'hkj).toNat : Int) < 128 := by omega
            go_wp2_with fail
            go_ret2
            exact ⟨⟨0, 0, rfl, hres⟩, rfl⟩
          · have hx : 191 < ((s[k + 2]'hkj).toNat : Int) := by omega
            go_wp2_with fail
            go_ret2
            exact ⟨⟨0, 0, rfl, hres⟩, rfl⟩
        · have hx1 : 128 ≤ ((s[k + 2]'hkj).toNat : Int) := by omega
          have hx2 : ((s[k + 2]'hkj).toNat : Int) ≤ 191 := by omega
          go_wp2_with fail
          go_roundw
          case rel => exact ⟨3, _, rfl, by go_num, by omega, by omega, by rw [hv'.out]; rfl, by omega, by omega, by omega, by omega, ext_cont hct'.out (by omega), trivial⟩
          case measure => simp [intOf]
      · subst j
        have hvb : v < 65536 := z3 rfl
        clear z1 z2 z3
        have hY := dec3Y s k y1 y2 (by omega) (hct'.out 1 (by omega) (by omega)) (hct'.out 2 (by omega) (by omega))
        have hvv : val s k (by' s k 0 - 224) 2 = v := hv'.out.symm
        rw [hvv] at hY
        have hY1 := hid hY.1
        have hY2 := hid hY.2
        clear hY hvv
        go_wp2_with fail
        all_goals
          go_ret2
          first
            | exact ⟨⟨0, 0, rfl, runeAt_lost hk (hY1.out (by omega))⟩, rfl⟩
            | exact ⟨⟨v, 3, rfl, runeAt_is hk (hY2.out (by omega)) (by simp) (by omega)⟩, rfl⟩
  have x1 : 240 ≤ ((s[k]'hk).toNat : Int) := by omega
  have x2 : ((s[k]'hk).toNat : Int) < 248 := by omega
  have y1 : 240 ≤ by' s k 0 := by omega
  have y2 : by' s k 0 < 248 := by omega
  by_cases hfit : s.size < k + 4
  · have hres : RuneAt s k 0 0 := runeAt_lost hk (dec4X s k y1 y2 (.inl hfit))
    go_wp2_with fail
    go_ret2
    exact ⟨⟨0, 0, rfl, hres⟩, rfl⟩
  have qd : decide (((by' s k 0 : Nat) : Int) < 248) = true := by simp; omega
  go_wp2_with fail
  go_loopw [8, 10] (fun x y wr => ∃ (j : Nat) (v : Int), x = .int .i32 v ∧ y = .int .i64 j ∧ 1 ≤ j ∧ j ≤ 4 ∧ v = val s k (by' s k 0 - 240) (j - 1) ∧ 0 ≤ v ∧ (j = 1 → v < 8) ∧ (j = 2 → v < 512) ∧ (j = 3 → v < 32768) ∧ (j = 4 → v < 2097152) ∧ (∀ i, 1 ≤ i → i < j → 128 ≤ by' s k i ∧ by' s k i ≤ 191) ∧ wr = w) (fun _ y _ => 4 - (intOf y).toNat)
  case atStart => exact ⟨1, _, rfl, rfl, by omega, by omega, rfl, by omega, by omega, by omega, by omega, by omega, fun i h1 h2 => by omega, rfl⟩
  case round =>
    obtain ⟨j, v, rfl, rfl, hj1, hj2, hv, hv0, z1, z2, z3, z4, hct, hw⟩ := hrel
    subst wr
    have hct' := hid hct
    have hv' := hid hv
    clear hct hv
    have hcase : j = 1 ∨ j = 2 ∨ j = 3 ∨ j = 4 := by omega
    rcases hcase with hc | hc | hc | hc
    · subst j
      have hvb : v < 8 := z1 rfl
      clear z1 z2 z3 z4
      have hkj : k + 1 < s.size := by omega
      have hbj := by_at s k 1 hkj
      have hlj := by_lt s k 1
      have hwj : wrap32 ((s[k + 1]'hkj).toNat : Int) = ((s[k + 1]'hkj).toNat : Int) := by unfold wrap32; omega
      by_cases hct2 : by' s k 1 < 128 ∨ 191 < by' s k 1
      · have hres : RuneAt s k 0 0 := runeAt_lost hk (dec4X s k y1 y2 (.inr (by omega)))
        rcases hct2 with hct2 | hct2
        · have hx : ((s[k + 1]'hkj).toNat : Int) < 128 := by omega
          go_wp2_with fail
          go_ret2
          exact ⟨⟨0, 0, rfl, hres⟩, rfl⟩
        · have hx : 191 < ((s[k + 1]'hkj).toNat : Int) := by omega
          go_wp2_with fail
          go_ret2
          exact ⟨⟨0, 0, rfl, hres⟩, rfl⟩
      · have hx1 : 128 ≤ ((s[k + 1]'hkj).toNat : Int) := by omega
        have hx2 : ((s[k + 1]'hkj).toNat : Int) ≤ 191 := by omega
        go_wp2_with fail
        go_roundw
        case rel => exact ⟨2, _, rfl, by go_num, by omega, by omega, by rw [hv'.out]; rfl, by omega, by omega, by omega, by omega, by omega, ext_cont hct'.out (by omega), trivial⟩
        case measure => simp [intOf]
    · subst j
      have hvb : v < 512 := z2 rfl
      clear z1 z2 z3 z4
      have hkj : k + 2 < s.size := by omega
      have hbj := by_at s k 2 hkj
      have hlj := by_lt s k 2
      have hwj : wrap32 ((s[k + 2]'hkj).toNat : Int) = ((s[k + 2]'hkj).toNat : Int) := by unfold wrap32; omega
      by_cases hct2 : by' s k 2 < 128 ∨ 191 < by' s k 2
      · have hres : RuneAt s k 0 0 := runeAt_lost hk (dec4X s k y1 y2 (.inr (by omega)))
        rcases hct2 with hct2 | hct2
        · have hx : ((s[k + 2]'hkj).toNat : Int) < 128 := by omega
          go_wp2_with fail
          go_ret2
          exact ⟨⟨0, 0, rfl, hres⟩, rfl⟩
        · have hx : 191 < ((s[k + 2]'hkj).toNat : Int) := by omega
          go_wp2_with fail
          go_ret2
          exact ⟨⟨0, 0, rfl, hres⟩, rfl⟩
      · have hx1 : 128 ≤ ((s[k + 2]'hkj).toNat : Int) := by omega
        have hx2 : ((s[k + 2]'hkj).toNat : Int) ≤ 191 := by omega
        go_wp2_with fail
        go_roundw
        case rel => exact ⟨3, _, rfl, by go_num, by omega, by omega, by rw [hv'.out]; rfl, by omega, by omega, by omega, by omega, by omega, ext_cont hct'.out (by omega), trivial⟩
        case measure => simp [intOf]
    · subst j
      have hvb : v < 32768 := z3 rfl
      clear z1 z2 z3 z4
      have hkj : k + 3 < s.size := by omega
      have hbj := by_at s k 3 hkj
      have hlj := by_lt s k 3
      have hwj : wrap32 ((s[k + 3]'hkj).toNat : Int) = ((s[k + 3]'hkj).toNat : Int) := by unfold wrap32; omega
      by_cases hct2 : by' s k 3 < 128 ∨ 191 < by' s k 3
      · have hres : RuneAt s k 0 0 := runeAt_lost hk (dec4X s k y1 y2 (.inr (by omega)))
        rcases hct2 with hct2 | hct2
        · have hx : ((s[k + 3]'hkj).toNat : Int) < 128 := by omega
          go_wp2_with fail
          go_ret2
          exact ⟨⟨0, 0, rfl, hres⟩, rfl⟩
        · have hx : 191 < ((s[k + 3]'hkj).toNat : Int) := by omega
          go_wp2_with fail
          go_ret2
          exact ⟨⟨0, 0, rfl, hres⟩, rfl⟩
      · have hx1 : 128 ≤ ((s[k + 3]'hkj).toNat : Int) := by omega
        have hx2 : ((s[k + 3]'hkj).toNat : Int) ≤ 191 := by omega
        go_wp2_with fail
        go_roundw
        case rel => exact ⟨4, _, rfl, by go_num, by omega, by omega, by rw [hv'.out]; rfl, by omega, by omega, by omega, by omega, by omega, ext_cont hct'.out (by omega), trivial⟩
        case measure => simp [intOf]
    · subst j
      have hvb : v < 2097152 := z4 rfl
      clear z1 z2 z3 z4
      have hY := dec4Y s k y1 y2 (by omega) (hct'.out 1 (by omega) (by omega)) (hct'.out 2 (by omega) (by omega)) (hct'.out 3 (by omega) (by omega))
      have hvv : val s k (by' s k 0 - 240) 3 = v := hv'.out.symm
      rw [hvv] at hY
      have hY1 := hid hY.1
      have hY2 := hid hY.2
      clear hY hvv
      go_wp2_with fail
      all_goals
        go_ret2
        first
          | exact ⟨⟨0, 0, rfl, runeAt_lost hk (hY1.out (by omega))⟩, rfl⟩
          | exact ⟨⟨v, 4, rfl, runeAt_is hk (hY2.out (by omega)) (by simp) (by omega)⟩, rfl⟩

end Go.Proofs.YtecpkadjnecbiaaGreatDoor
