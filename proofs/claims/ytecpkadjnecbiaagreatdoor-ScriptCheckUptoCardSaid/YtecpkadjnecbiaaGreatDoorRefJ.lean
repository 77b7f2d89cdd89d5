/- Walks: the reference's byte literals: they answer, and where. No condition. -/
import Derived.Test.YtecpkadjnecbiaaGreatDoorProg
import Derived.Test.YtecpkadjnecbiaaGreatDoorRefG
import Derived.Test.YtecpkadjnecbiaaGreatDoorTokL
namespace Go.Proofs.YtecpkadjnecbiaaGreatDoor
open Go.RowKit
set_option linter.unusedVariables false
set_option linter.unusedSimpArgs false

open Go.Shelf
attribute [local go_sem] Oper.semAt_some

set_option maxRecDepth 100000 in
set_option maxHeartbeats 8000000 in
theorem bytes86 (s : ByteArray) (w : World) (hs : s.size ≤ 1048576) : Calls Tryz.prog 86 #[.string s] w (Lit w) := by
  go_enter Tryz.func86, Tryz.ntmps86
  by_cases h0 : s.size = 0
  · have hq : ((s.size : Int) == 0) = true := by rw [h0]; rfl
    go_wp2_with fail
    go_ret3
    exact ⟨⟨_, _, _, rfl⟩, Below.refl _ _⟩
  have hq : ((s.size : Int) == 0) = false := beq_false_of_ne (by omega)
  have h9 : 0 < s.size := by omega
  by_cases h34 : (s[0]'h9).toNat = 34
  rotate_left
  · have hq2 : (((s[0]'h9).toNat : Int) != 34) = true := by simp; omega
    go_wp2_with fail
    go_ret3
    exact ⟨⟨_, _, _, rfl⟩, Below.refl _ _⟩
  have hq2 : (((s[0]'h9).toNat : Int) != 34) = false := by simp; omega
  go_wp2_with fail
  go_loopw [5, 6] (fun x i wr => ∃ (k m : Nat), i = .int .i64 k ∧ 1 ≤ k ∧ k ≤ s.size ∧ m ≤ 4 * k ∧ Row5 w.heap.size m x wr ∧ Below w.heap.size w wr) (fun _ i _ => s.size - (intOf i).toNat)
  case atStart => exact ⟨1, 0, rfl, by omega, by omega, by omega, Row5.nil _ _, Below.refl _ _⟩
  case round =>
    obtain ⟨k, m, rfl, hk, hk2, hm, hrow, hb⟩ := hrel
    have hR := hid hrow
    have hB := hid hb
    clear hrow hb
    by_cases hlt : k < s.size
    rotate_left
    · go_wp2_with fail
      go_ret3
      exact ⟨⟨_, _, _, rfl⟩, hB.out⟩
    have hcall := hid (thing102 s k 34 wr hs hlt)
    go_wp2_with fail
    refine hcall.out.mono ?_
    rintro e w1 ⟨⟨t, r, en, b, er, rfl, ht, hen⟩, hb1⟩
    have hR1 := hid (hR.out.on hb1)
    have hB1 := hid (hB.out.trans (hb1.mono hB.out.size))
    clear hb1 hcall
    by_cases her : er = 0
    rotate_left
    · have hq3 : (er != 0) = true := by simpa using her
      go_wp2_with fail
      go_ret3
      exact ⟨⟨_, _, _, rfl⟩, hB1.out⟩
    obtain ⟨n, rfl, hn1, hn2⟩ := hen her
    subst her
    clear hen
    cases b
    rotate_left
    · by_cases hn : n < s.size
      · go_wp2_with fail
        go_ret3
        exact ⟨⟨_, _, _, rfl⟩, hB1.out⟩
      · go_wp2_with fail
        go_ret3
        exact ⟨⟨_, _, _, rfl⟩, hB1.out⟩
    obtain ⟨wo, hwo⟩ : ∃ wo : World, wo = wr := ⟨_, rfl⟩
    go_wp2_with fail
    go_loopw [5, 12] (fun x i wr => ∃ (j m2 : Nat), i = .int .i64 j ∧ j ≤ t.size ∧ m2 = m + j ∧ Row5 w.heap.size m2 x wr ∧ Below w.heap.size w wr) (fun _ i _ => t.size - (intOf i).toNat)
    case atStart => exact ⟨0, m, rfl, Nat.zero_le _, rfl, hR1.out, hB1.out⟩
    case round =>
      obtain ⟨j, m2, rfl, hj, hm2, hrow3, hb3⟩ := hrel
      have hR3 := hid hrow3
      have hB3 := hid hb3
      clear hrow3 hb3
      by_cases hjt : j < t.size
      · obtain ⟨xs, hO0⟩ := hR3.out
        have hO := hid hO0
        have hsz9 : w.heap.size ≤ wr.heap.size := hB3.out.size
        clear hO0
        go_wp2_with (at_builtin; refine wpList_append_str rfl _ _ 112 rfl w.heap.size 5 5 (.int .u8 0) 1 1 1 Tryz.underlying112 (by kernel_rfl) rfl (by decide) _ m2 _ [_] (0, 0) hO.out rfl (by simp [Value.oneCell']) (by unfold maxLen; omega) (by omega) hsz9 rfl rfl ?_; intro v' w' hA; have hA' := hid (app_of hA hO.out hsz9 (by omega)); have hOw := hid hA.own; clear hA)
        obtain ⟨v2, m3, hv2, h2, h3, h4, h5⟩ := hA'.out
        go_roundw
        case rel => exact ⟨j + 1, m2 + 1, by go_num, by omega, by omega, ⟨_, hOw.out⟩, hB3.out.trans h4⟩
        case measure => simp [intOf]; omega
      · go_wp2_with fail
        go_roundw
        case rel => exact ⟨n, m2, by go_num, by omega, by omega, by omega, hR3.out, hB3.out⟩
        case measure => simp [intOf]; omega

end Go.Proofs.YtecpkadjnecbiaaGreatDoor

namespace Go.Proofs.YtecpkadjnecbiaaGreatDoor
open Go.RowKit
set_option linter.unusedVariables false
set_option linter.unusedSimpArgs false

open Go.Shelf
attribute [local go_sem] Oper.semAt_some

/-- where the blanks and comments end -/
def PassR (s : ByteArray) (p k : Nat) : Prop := p ≤ k ∧ k ≤ s.size ∧ (k = p ∨ ∀ h0 : 0 < s.size, p = 0 → (s[0]'h0).toNat = 9 ∨ (s[0]'h0).toNat = 13 ∨ (s[0]'h0).toNat = 32 ∨ (s[0]'h0).toNat = 35)
theorem PassR.step {s : ByteArray} {p k j : Nat} (h : PassR s p k) (hk : k < s.size) (hj : k < j) (hj2 : j ≤ s.size) (hb : (s[k]'hk).toNat = 9 ∨ (s[k]'hk).toNat = 13 ∨ (s[k]'hk).toNat = 32 ∨ (s[k]'hk).toNat = 35) : PassR s p j := by
  obtain ⟨h1, h2, h3⟩ := h
  refine ⟨by omega, hj2, .inr fun h0 hp => ?_⟩
  rcases h3 with rfl | h3
  · subst hp; exact hb
  · exact h3 h0 hp
set_option maxRecDepth 100000 in
set_option maxHeartbeats 2000000 in
theorem passed47 (s : ByteArray) (p : Nat) (w : World) (hs : s.size ≤ 1048576) (hp : p ≤ s.size) : Calls Tryz.prog 47 #[.string s, .int .i64 p] w
    fun e w' => (∃ k : Nat, e = .returned (.int .i64 k) ∧ PassR s p k) ∧ w' = w := by
  go_enter Tryz.func47, Tryz.ntmps47
  go_wp2_with fail
  go_loopw [1] (fun x wr => ∃ k : Nat, x = .int .i64 k ∧ PassR s p k ∧ wr = w) (fun x _ => s.size - (intOf x).toNat)
  case atStart => exact ⟨p, rfl, ⟨Nat.le_refl _, hp, .inl rfl⟩, rfl⟩
  case round =>
    obtain ⟨k, rfl, hP, hw⟩ := hrel
    subst wr
    have hk2 : k ≤ s.size := hP.2.1
    have hP' := hid hP
    clear hP
    by_cases hlt : k < s.size
    rotate_left
    · go_wp2_with fail
      go_ret
      exact ⟨⟨k, rfl, hP'.out⟩, rfl⟩
    by_cases hblank : (s[k]'hlt).toNat = 9 ∨ (s[k]'hlt).toNat = 13 ∨ (s[k]'hlt).toNat = 32
    · have hN := hid (hP'.out.step hlt (j := k + 1) (by omega) (by omega) (by omega))
      rcases hblank with h | h | h
      all_goals
        have hbv : ((s[k]'hlt).toNat : Int) = _ := congrArg (Nat.cast (R := Int)) h
        go_wp2_with fail
        go_roundw
        case rel => exact ⟨k + 1, by go_num, hN.out, trivial⟩
        case measure => simp [intOf]; omega
    have hq1 : (((s[k]'hlt).toNat : Int) == 9) = false := by simp; omega
    have hq2 : (((s[k]'hlt).toNat : Int) == 13) = false := by simp; omega
    have hq3 : (((s[k]'hlt).toNat : Int) == 32) = false := by simp; omega
    by_cases h35 : (s[k]'hlt).toNat = 35
    rotate_left
    · have hq4 : (((s[k]'hlt).toNat : Int) != 35) = true := by simp; omega
      go_wp2_with fail
      go_ret
      exact ⟨⟨k, rfl, hP'.out⟩, rfl⟩
    have hq4 : (((s[k]'hlt).toNat : Int) != 35) = false := by simp; omega
    go_wp2_with fail
    clear hq1 hq2 hq3 hq4
    go_loopw [1] (fun x wr => ∃ j : Nat, x = .int .i64 j ∧ k ≤ j ∧ j ≤ s.size ∧ (j = k → True) ∧ wr = w) (fun x _ => s.size - (intOf x).toNat)
    case atStart => exact ⟨k, rfl, Nat.le_refl _, hk2, fun _ => trivial, rfl⟩
    case round =>
      obtain ⟨j, rfl, hj1, hj2, -, hw⟩ := hrel
      subst wr
      by_cases hjl : j < s.size
      rotate_left
      · have hN := hid (hP'.out.step hlt (j := j) (by omega) (by omega) (by omega))
        go_wp2_with fail
        go_roundw
        case rel => exact ⟨j, rfl, hN.out, trivial⟩
        case measure => simp [intOf]; omega
      by_cases h10 : (s[j]'hjl).toNat = 10
      · have hjk : k < j := by
          rcases Nat.lt_or_ge k j with h | h
          · exact h
          · obtain rfl : j = k := by omega
            omega
        have hN := hid (hP'.out.step hlt (j := j) hjk (by omega) (by omega))
        have hq5 : (((s[j]'hjl).toNat : Int) != 10) = false := by simp; omega
        go_wp2_with fail
        go_roundw
        case rel => exact ⟨j, rfl, hN.out, trivial⟩
        case measure => simp [intOf]; omega
      · have hq5 : (((s[j]'hjl).toNat : Int) != 10) = true := by simp; omega
        go_wp2_with fail
        go_roundw
        case rel => exact ⟨j + 1, by go_num, by omega, by omega, fun _ => trivial, trivial⟩
        case measure => simp [intOf]; omega
theorem signsMay46 (w : World) : Calls Tryz.prog 46 #[.slice none 0 0] w fun e w' => e = .returned (.bool true) ∧ w' = w := by
  go_enter Tryz.func46, Tryz.ntmps46
  go_wp2_with fail
  go_loopw [3] (fun x wr => x = .int .i64 0 ∧ wr = w) (fun _ _ => 0)
  case atStart => exact ⟨rfl, rfl⟩
  case round =>
    obtain ⟨rfl, rfl⟩ := hrel
    go_wp2_with fail
    go_ret
    exact ⟨rfl, rfl⟩
theorem signAt68 (s : ByteArray) (p : Nat) (w : World) : Calls Tryz.prog 68 #[.string s, .int .i64 p, .slice none 0 0] w fun e w' => e = .returned (.string ⟨#[]⟩) ∧ w' = w := by
  go_enter Tryz.func68, Tryz.ntmps68
  go_wp2_with fail
  go_loopw [7, 8] (fun y x wr => y = .string ⟨#[]⟩ ∧ x = .int .i64 0 ∧ wr = w) (fun _ _ _ => 0)
  case atStart => exact ⟨rfl, rfl, rfl⟩
  case round =>
    obtain ⟨rfl, rfl, rfl⟩ := hrel
    go_wp2_with fail
    go_ret
    exact ⟨rfl, rfl⟩

end Go.Proofs.YtecpkadjnecbiaaGreatDoor

namespace Go.Proofs.YtecpkadjnecbiaaGreatDoor
open Go.RowKit
set_option linter.unusedVariables false
set_option linter.unusedSimpArgs false

open Go.Shelf
attribute [local go_sem] Oper.semAt_some

def LitT (s : ByteArray) (p : Nat) (kd at' : Int) (txt : ByteArray) (er : Int) : Prop := kd ≠ 1 ∧ (er = 0 → at' = p ∧ ∃ n : Nat, txt = s.extract p n ∧ p < n ∧ n ≤ s.size)
def LitTR (s : ByteArray) (p : Nat) (w : World) (e : Ending) (w' : World) : Prop :=
  (∃ (kd at' : Int) (txt : ByteArray) (en er : Int), e = .returned (.tuple #[.agg #[.int .u8 kd, .int .i64 at', .string txt], .int .i64 en, .int .i64 er]) ∧ LitT s p kd at' txt er) ∧ Below w.heap.size w w'
def Put3 (w w' : World) : Prop := Below w.heap.size w w'
theorem put3 {w w2 : World} (h : Below w.heap.size w w2) (a b c : Value) : Below w.heap.size w (((w2.setCell ⟨w.heap.size, 0, none⟩ a).setCell ⟨w.heap.size, 1, none⟩ b).setCell ⟨w.heap.size, 2, none⟩ c) :=
  ((h.setCell (by simp) _).setCell (by simp) _).setCell (by simp) _
set_option maxRecDepth 100000 in
set_option maxHeartbeats 2000000 in
theorem literal67 (s : ByteArray) (p : Nat) (w : World) (hs : s.size ≤ 1048576) (hp : p < s.size) : Calls Tryz.prog 67 #[.string s, .int .i64 p] w (LitTR s p w) := by
  have hX := hid (Bx.new w #[.int .u8 0, .int .i64 0, .string ⟨#[]⟩] 73)
  have hB0 := hid ((Below.refl w.heap.size w).alloc (Nat.le_refl _) (.cells #[.int .u8 0, .int .i64 0, .string ⟨#[]⟩] 73))
  have hcall := hid (litEnd85 s p ((s[p]'hp).toNat : Int) (w.alloc (.cells #[.int .u8 0, .int .i64 0, .string ⟨#[]⟩] 73)) hs hp)
  go_enter Tryz.func67, Tryz.ntmps67
  go_wp2_with fail
  refine hcall.out.mono ?_
  rintro e w2 ⟨⟨x, rfl, hx⟩, hw⟩
  subst w2
  have hx' := hid hx
  clear hx hcall
  by_cases hx0 : x < 0
  · go_wp2_with fail
    exact bodyPost_ret (v := .tuple #[.agg #[.int .u8 0, .int .i64 0, .string ⟨#[]⟩], .int .i64 p, .int .i64 11]) (by simp [results, Tryz.results67, go_sem]) rfl ⟨⟨_, _, _, _, _, rfl, by decide, fun h => absurd h (by decide)⟩, by first | exact hB0.out | exact put3 hB0.out _ _ _⟩
  obtain ⟨k, hxk, hk1, hk2⟩ := hx'.out (by omega)
  subst hxk
  clear hx' hx0
  by_cases h34 : (s[p]'hp).toNat = 34
  · have hq : (((s[p]'hp).toNat : Int) == 34) = true := by simp; omega
    have hc86 := hid (bytes86 (s.extract p k) (w.alloc (.cells #[.int .u8 0, .int .i64 0, .string ⟨#[]⟩] 73)) (by simp; omega))
    go_wp2_with fail
    refine hc86.out.mono ?_
    rintro e w2 ⟨⟨v, q, er, rfl⟩, hb⟩
    have hX2 := hX.out.on (grown_of_below hb) (by simp)
    have p0 := hX2.cell 0
    have p1 := hX2.cell 1
    have p2 := hX2.cell 2
    have pf := hX2.free
    have hB := hid (hB0.out.trans (hb.mono (by simp)))
    simp at p0 p1 p2
    clear hb hX2 hc86 hq
    go_wp2_with fail
    exact bodyPost_ret (v := .tuple #[.agg #[.int .u8 3, .int .i64 p, .string (s.extract p k)], _, .int .i64 er]) (by simp [results, Tryz.results67, go_sem, p0, p1, p2, pf]; rfl) rfl ⟨⟨_, _, _, _, _, rfl, by decide, fun _ => ⟨rfl, k, rfl, hk1, hk2⟩⟩, put3 hB.out _ _ _⟩
  · have hq : (((s[p]'hp).toNat : Int) == 34) = false := by simp; omega
    have hc87 := hid (rune87 (s.extract p k) (w.alloc (.cells #[.int .u8 0, .int .i64 0, .string ⟨#[]⟩] 73)) (by simp; omega))
    go_wp2_with fail
    refine hc87.out.mono ?_
    rintro e w2 ⟨⟨v, q, er, rfl⟩, hb⟩
    have hX2 := hX.out.on (grown_of_below hb) (by simp)
    have p0 := hX2.cell 0
    have p1 := hX2.cell 1
    have p2 := hX2.cell 2
    have pf := hX2.free
    have hB := hid (hB0.out.trans (hb.mono (by simp)))
    simp at p0 p1 p2
    clear hb hX2 hc87 hq
    go_wp2_with fail
    exact bodyPost_ret (v := .tuple #[.agg #[.int .u8 4, .int .i64 p, .string (s.extract p k)], _, .int .i64 er]) (by simp [results, Tryz.results67, go_sem, p0, p1, p2, pf]; rfl) rfl ⟨⟨_, _, _, _, _, rfl, by decide, fun _ => ⟨rfl, k, rfl, hk1, hk2⟩⟩, put3 hB.out _ _ _⟩

end Go.Proofs.YtecpkadjnecbiaaGreatDoor
