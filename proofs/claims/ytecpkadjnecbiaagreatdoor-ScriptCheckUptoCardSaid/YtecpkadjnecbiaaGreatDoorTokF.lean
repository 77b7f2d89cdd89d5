/- Walks: Rune, literal, figured: they answer, and where. No condition. -/
import Derived.Test.YtecpkadjnecbiaaGreatDoorProg
import Derived.Test.YtecpkadjnecbiaaGreatDoorTokE
namespace Go.Proofs.YtecpkadjnecbiaaGreatDoor
open Go.RowKit
set_option linter.unusedVariables false
set_option linter.unusedSimpArgs false

open Go.Shelf
attribute [local go_sem] Oper.semAt_some

set_option maxRecDepth 100000 in
set_option maxHeartbeats 4000000 in
theorem rune100 (s : ByteArray) (w : World) (hs : s.size ≤ 1048576) : Calls Tryz.prog 100 #[.string s] w (Lit w) := by
  go_enter Tryz.func100, Tryz.ntmps100
  by_cases h0 : s.size = 0
  · have : s = ByteArray.empty := by simpa using h0
    subst this
    go_wp2_with fail
    go_ret3
    exact ⟨⟨_, _, _, rfl⟩, Below.refl _ _⟩
  · cases hE : s.toList.isEmpty
    rotate_left
    · go_wp2_with fail
      go_ret3
      exact ⟨⟨_, _, _, rfl⟩, Below.refl _ _⟩
    have h9 : 0 < s.size := by omega
    by_cases h34 : (s[0]'h9).toNat = 39
    rotate_left
    · have hq : (((s[0]'h9).toNat : Int) != 39) = true := by simp; omega
      go_wp2_with fail
      go_ret3
      exact ⟨⟨_, _, _, rfl⟩, Below.refl _ _⟩
    have hq : (((s[0]'h9).toNat : Int) != 39) = false := by simp; omega
    by_cases h1 : s.size = 1
    · have hq1 : ((s.size : Int) == 1) = true := by simp; omega
      go_wp2_with fail
      go_ret3
      exact ⟨⟨_, _, _, rfl⟩, Below.refl _ _⟩
    have hq1 : ((s.size : Int) == 1) = false := by simp; omega
    have h2 : 1 < s.size := by omega
    by_cases h35 : (s[1]'h2).toNat = 39
    · have hq2 : (((s[1]'h2).toNat : Int) == 39) = true := by simp; omega
      go_wp2_with fail
      go_ret3
      exact ⟨⟨_, _, _, rfl⟩, Below.refl _ _⟩
    have hq2 : (((s[1]'h2).toNat : Int) == 39) = false := by simp; omega
    have hcall := hid (say108 s 1 w hs h2)
    go_wp2_with fail
    refine hcall.out.mono ?_
    rintro e w1 ⟨⟨c, b, sz, er, rfl, hsz⟩, hb1⟩
    have hB1 := hid (hb1.alloc (by have := hb1.size; omega) (.cells #[.int .i32 c, .bool b, .int .i64 sz] 135))
    clear hb1
    by_cases her : er = 0
    · subst her
      obtain ⟨sn, rfl⟩ : ∃ n : Nat, sz = n := ⟨sz.toNat, by have := hsz rfl; omega⟩
      have hZ : 1 ≤ sn ∧ sn ≤ 6 := by have := hsz rfl; omega
      clear hsz
      by_cases hge : s.size ≤ 1 + sn
      · go_wp2_with fail
        all_goals
          go_ret3
          exact ⟨⟨_, _, _, rfl⟩, hB1.out⟩
      · go_wp2_with fail
        all_goals
          go_ret3
          exact ⟨⟨_, _, _, rfl⟩, hB1.out⟩
    · go_wp2_with fail
      all_goals
        first
          | (go_ret3
             exact ⟨⟨_, _, _, rfl⟩, hB1.out⟩)
          | (exfalso; simp_all; done)

set_option maxRecDepth 100000 in
set_option maxHeartbeats 4000000 in
theorem literal80 (s : ByteArray) (p : Nat) (w : World) (hs : s.size ≤ 1048576) (hp : p < s.size) : Calls Tryz.prog 80 #[.string s, .int .i64 p] w
    fun e w' => (∃ k er : Int, e = .returned (.tuple #[.int .i64 k, .int .i64 er]) ∧ (er = 0 → ∃ n : Nat, k = n ∧ p < n ∧ n ≤ s.size)) ∧ Below w.heap.size w w' := by
  have hc98 := hid (quoted98 s p w hs hp)
  go_enter Tryz.func80, Tryz.ntmps80
  go_wp2_with fail
  refine hc98.out.mono ?_
  rintro e w1 ⟨⟨k, b, rfl, hb⟩, rfl⟩
  have hb' := hid hb
  clear hb
  cases b
  · go_wp2_with fail
    go_ret2
    exact ⟨⟨_, _, rfl, fun h => by simp at h⟩, Below.refl _ _⟩
  have hk := hb'.out rfl
  have hex : (s.extract p k).size ≤ 1048576 := by simp; omega
  have hc99 := hid (bytes99 (s.extract p k) w1 hex)
  have hc100 := hid (rune100 (s.extract p k) w1 hex)
  by_cases hq : (s[p]'hp).toNat = 34
  · have hq2 : (((s[p]'hp).toNat : Int) == 34) = true := by simp; omega
    go_wp2_with fail
    refine hc99.out.mono ?_
    rintro e w2 ⟨⟨v, p2, er, rfl⟩, hB⟩
    have hB' := hid hB
    clear hB
    by_cases her : er = 0
    · subst her
      go_wp2_with fail
      go_ret2
      exact ⟨⟨_, _, rfl, fun h => ⟨k, rfl, hk.1, hk.2⟩⟩, hB'.out⟩
    · go_wp2_with fail
      first
        | (go_ret2
           exact ⟨⟨_, _, rfl, fun h => absurd h her⟩, hB'.out⟩)
  · have hq2 : (((s[p]'hp).toNat : Int) == 34) = false := by simp; omega
    go_wp2_with fail
    refine hc100.out.mono ?_
    rintro e w2 ⟨⟨v, p2, er, rfl⟩, hB⟩
    have hB' := hid hB
    clear hB
    by_cases her : er = 0
    · subst her
      go_wp2_with fail
      go_ret2
      exact ⟨⟨_, _, rfl, fun h => ⟨k, rfl, hk.1, hk.2⟩⟩, hB'.out⟩
    · go_wp2_with fail
      first
        | (go_ret2
           exact ⟨⟨_, _, rfl, fun h => absurd h her⟩, hB'.out⟩)

end Go.Proofs.YtecpkadjnecbiaaGreatDoor
