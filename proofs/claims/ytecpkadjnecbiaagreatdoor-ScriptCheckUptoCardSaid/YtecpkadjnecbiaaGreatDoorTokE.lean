/- Walks: quoted, Bytes, Rune, literal: they answer, and where. No condition. -/
import Derived.Test.YtecpkadjnecbiaaGreatDoorProg
import Derived.Test.YtecpkadjnecbiaaGreatDoorTokD
namespace Go.Proofs.YtecpkadjnecbiaaGreatDoor
open Go.RowKit
set_option linter.unusedVariables false
set_option linter.unusedSimpArgs false

open Go.Shelf
attribute [local go_sem] Oper.semAt_some

set_option maxRecDepth 100000 in
set_option maxHeartbeats 2000000 in
theorem quoted98 (s : ByteArray) (p : Nat) (w : World) (hs : s.size ≤ 1048576) (hp : p < s.size) :
    Calls Tryz.prog 98 #[.string s, .int .i64 p] w fun e w' => (∃ (k : Nat) (b : Bool), e = .returned (.tuple #[.int .i64 k, .bool b]) ∧ (b = true → p < k ∧ k ≤ s.size)) ∧ w' = w := by
  go_enter Tryz.func98, Tryz.ntmps98
  go_wp2_with fail
  go_loopw [6] (fun x wr => ∃ k : Nat, x = .int .i64 k ∧ p < k ∧ k ≤ s.size + 1 ∧ wr = w) (fun x _ => s.size + 2 - (intOf x).toNat)
  case atStart => exact ⟨p + 1, by go_num, by omega, by omega, rfl⟩
  case round =>
    obtain ⟨k, rfl, hk, hk2, rfl⟩ := hrel
    by_cases hlt : k < s.size
    · go_wp2_with fail
      · go_ret2
        exact ⟨⟨k + 1, true, by go_num, fun _ => by omega⟩, rfl⟩
      · go_roundw
        case rel => exact ⟨k + 2, by go_num, by omega, by omega, trivial⟩
        case measure => simp [intOf]; omega
      · go_ret2
        exact ⟨⟨0, false, rfl, fun h => by cases h⟩, rfl⟩
      · go_roundw
        case rel => exact ⟨k + 1, by go_num, by omega, by omega, trivial⟩
        case measure => simp [intOf]; omega
    · go_wp2_with fail
      go_ret2
      exact ⟨⟨0, false, rfl, fun h => by cases h⟩, rfl⟩

def Lit (w : World) (e : Ending) (w' : World) : Prop := (∃ (v : Value) (p er : Int), e = .returned (.tuple #[v, .int .i64 p, .int .i64 er])) ∧ Below w.heap.size w w'
theorem Row5.nil (B : Nat) (w : World) : Row5 B 0 (.slice none 0 0) w := ⟨[], World.ownsRow_nil _ _ _ _⟩
theorem Row5.on {B m : Nat} {v : Value} {w w' : World} (h : Row5 B m v w) (hb : Below w.heap.size w w') : Row5 B m v w' := by
  obtain ⟨xs, ho⟩ := h
  refine ⟨xs, ho.kept (grown_of_below hb) ?_⟩
  cases h : v.ownBlock
  · exact .inl rfl
  · exact .inr (by simp)
set_option maxRecDepth 100000 in
set_option maxHeartbeats 4000000 in
theorem bytes99 (s : ByteArray) (w : World) (hs : s.size ≤ 1048576) : Calls Tryz.prog 99 #[.string s] w (Lit w) := by
  go_enter Tryz.func99, Tryz.ntmps99
  by_cases h0 : s.size = 0
  · have : s = ByteArray.empty := by simpa using h0
    subst this
    go_wp2_with fail
    go_ret3
    exact ⟨⟨_, _, _, rfl⟩, Below.refl _ _⟩
  · cases hE : s.toList.isEmpty
    rotate_left
    · go_wp2_with fail
      go_ret3
      exact ⟨⟨_, _, _, rfl⟩, Below.refl _ _⟩
    have h9 : 0 < s.size := by omega
    by_cases h34 : (s[0]'h9).toNat = 34
    rotate_left
    · have hq : (((s[0]'h9).toNat : Int) != 34) = true := by simp; omega
      go_wp2_with fail
      go_ret3
      exact ⟨⟨_, _, _, rfl⟩, Below.refl _ _⟩
    have hq : (((s[0]'h9).toNat : Int) != 34) = false := by simp; omega
    go_wp2_with fail
    go_loopw [5, 6] (fun x i wr => ∃ (k m : Nat), i = .int .i64 k ∧ 1 ≤ k ∧ k ≤ s.size + 6 ∧ m ≤ 4 * k ∧ Row5 w.heap.size m x wr ∧ Below w.heap.size w wr) (fun _ i _ => s.size + 6 - (intOf i).toNat)
    case atStart => exact ⟨1, 0, rfl, by omega, by omega, by omega, Row5.nil _ _, Below.refl _ _⟩
    case round =>
      obtain ⟨k, m, rfl, hk, hk2, hm, hrow, hb⟩ := hrel
      by_cases hlt : k < s.size
      · have hcall := hid (say108 s k wr hs hlt)
        have hR := hid hrow
        have hB := hid hb
        clear hrow hb
        go_wp2_with fail
        · go_ret3
          exact ⟨⟨_, _, _, rfl⟩, hB.out⟩
        · go_ret3
          exact ⟨⟨_, _, _, rfl⟩, hB.out⟩
        refine hcall.out.mono ?_
        rintro e w1 ⟨⟨c, b, sz, er, rfl, hsz⟩, hb1⟩
        have hB1 := hid ((hB.out.trans (hb1.mono hB.out.size)).alloc (by have := hB.out.size; have := hb1.size; omega) (.cells #[.int .i32 c, .bool b, .int .i64 sz] 135))
        have hR2 := hid (And.intro hb1.size (fun k hk => by obtain ⟨xs, ho⟩ := hR.out; exact ho.lt k hk : ∀ k, u5.ownBlock = some k → w.heap.size ≤ k ∧ k < wr.heap.size))
        have hR1 := hid ((hR.out.on hb1).on ((Below.refl _ _).alloc (Nat.le_refl _) (.cells #[.int .i32 c, .bool b, .int .i64 sz] 135)))
        clear hb1
        by_cases her : er = 0
        · subst her
          obtain ⟨sn, rfl⟩ : ∃ n : Nat, sz = n := ⟨sz.toNat, by have := hsz rfl; omega⟩
          have hZ : 1 ≤ sn ∧ sn ≤ 6 := by have := hsz rfl; omega
          clear hsz
          obtain ⟨xs, hO0⟩ := hR1.out
          have hO := hid hO0
          have hne : some w1.heap.size ≠ u5.ownBlock := fun e => by
            have := (hR2.out.2 _ e.symm).2
            have := hR2.out.1
            omega
          have hsz9 : w.heap.size ≤ (w1.alloc (.cells #[.int .i32 c, .bool b, .int .i64 sn] 135)).heap.size := hB1.out.size
          clear hO0
          have hcall2 := fun r => hid (append109 w.heap.size m _ r _ hR1.out (by omega) hsz9)
          cases b
          all_goals go_wp2_with (first
            | (go_loud (at_builtin; refine wpList_append_str rfl _ _ 112 rfl w.heap.size 5 5 (.int .u8 0) 1 1 1 Tryz.underlying112 (by kernel_rfl) rfl (by decide) _ m _ [_] (0, 0) hO.out rfl (by simp [Value.oneCell']) (by unfold maxLen; omega) (by omega) hsz9 rfl (by first | rfl | exact congrArg (fun n => Value.slice (some ⟨n, 0, none⟩) 1 1) (by simp) | (simp [go_sem]; done)) ?_; intro v' w' hA; have hA' := hid (app_of hA hO.out hsz9 (by omega)); have hX := (Bx.new w1 #[.int .i32 c, .bool true, .int .i64 sn] 135).on hA.grown hne; have p0 := hX.cell 0; have p1 := hX.cell 1; have p2 := hX.cell 2; have hlt9 := hX.lt; clear hX; clear hA))
            | (go_at_call 109; refine (hcall2 _).out.mono ?_; intro e2 w2 hA; have hA' := hid hA; clear hA; obtain ⟨v3, m3, rfl, _, _, _, hG⟩ := hA'.out; have hX := (Bx.new w1 #[.int .i32 c, .bool false, .int .i64 sn] 135).on hG hne; have p0 := hX.cell 0; have p1 := hX.cell 1; have p2 := hX.cell 2; have hlt9 := hX.lt; clear hX hG))
          all_goals
            obtain ⟨v2, m2, hv2, h2, h3, h4, h5⟩ := hA'.out
            cases hv2
            go_roundw
            case rel => exact ⟨k + sn, m2, by go_num, by omega, by omega, by omega, h2, hB1.out.trans h4⟩
            case measure => simp [intOf]; omega
        · go_wp2_with fail
          all_goals
            first
              | (go_ret3
                 exact ⟨⟨_, _, _, rfl⟩, hB1.out⟩)
              | (exfalso; simp_all; done)
      · go_wp2_with fail
        go_ret3
        exact ⟨⟨_, _, _, rfl⟩, hb⟩

end Go.Proofs.YtecpkadjnecbiaaGreatDoor
