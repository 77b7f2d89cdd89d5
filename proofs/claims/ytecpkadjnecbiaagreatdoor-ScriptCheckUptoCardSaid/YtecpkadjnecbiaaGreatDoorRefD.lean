/- Walks: letters, digits, the end of a name, of the reference. No condition. -/
import Derived.Test.YtecpkadjnecbiaaGreatDoorProg
import Derived.Test.YtecpkadjnecbiaaGreatDoorRefC
import Derived.Test.YtecpkadjnecbiaaGreatDoorTokJ
import Derived.Test.YtecpkadjnecbiaaGreatDoorTokL
namespace Go.Proofs.YtecpkadjnecbiaaGreatDoor
open Go.RowKit
set_option linter.unusedVariables false
set_option linter.unusedSimpArgs false

open Go.Shelf
attribute [local go_sem] Oper.semAt_some

def plainB (b : Int) : Bool := decide (65 ≤ b ∧ b ≤ 90) || decide (97 ≤ b ∧ b ≤ 122)
theorem plainLetter84 (b : Int) (w : World) : Calls Tryz.prog 84 #[.int .u8 b] w fun e w' => e = .returned (.bool (plainB b)) ∧ w' = w := by
  go_enter Tryz.func84, Tryz.ntmps84
  go_wp2_with fail
  all_goals
    go_ret
    exact ⟨ret_bool (by unfold plainB; rw [Bool.eq_iff_iff]; simp; omega), rfl⟩
theorem digit64 (b : Int) (w : World) : Calls Tryz.prog 64 #[.int .u8 b] w fun e w' => e = .returned (.bool (digitB b)) ∧ w' = w := by
  go_enter Tryz.func64, Tryz.ntmps64
  go_wp2_with fail
  all_goals
    go_ret
    exact ⟨ret_bool (by unfold digitB; rw [Bool.eq_iff_iff]; simp; omega), rfl⟩
theorem cutsN_fuel (s : ByteArray) : ∀ n m i, s.size - i ≤ n → s.size - i ≤ m → cutsN s n i = cutsN s m i
  | 0, m, i, h, _ => by rw [cutsN_end s 0 i (by omega), cutsN_end s m i (by omega)]
  | n + 1, 0, i, _, h => by rw [cutsN_end s 0 i (by omega), cutsN_end s (n + 1) i (by omega)]
  | n + 1, m + 1, i, h1, h2 => by
    have hd := decode_wide s i
    simp only [cutsN]
    rw [cutsN_fuel s n m (i + (Utf8.decode s i).2) (by omega) (by omega)]
/-- where the first rune lies that is none of a name, from a place on -/
def stopFrom (s : ByteArray) (p : Nat) : Nat := match (cutsN s (s.size - p) p).find? (fun x => !nameB x.2) with
  | some x => x.1
  | none => s.size
theorem cutsN_cons (s : ByteArray) (p : Nat) (hp : p < s.size) : cutsN s (s.size - p) p = (p, codeAt s p) :: cutsN s (s.size - (p + (Utf8.decode s p).2)) (p + (Utf8.decode s p).2) := by
  have hd := decode_wide s p
  obtain ⟨m, hm⟩ : ∃ m, s.size - p = m + 1 := ⟨s.size - p - 1, by omega⟩
  rw [hm]
  simp only [cutsN]
  rw [if_pos hp, cutsN_fuel s m (s.size - (p + (Utf8.decode s p).2)) _ (by omega) (by omega)]
theorem stopFrom_end (s : ByteArray) : stopFrom s s.size = s.size := by
  unfold stopFrom
  rw [cutsN_end s _ _ (Nat.le_refl _)]
  rfl
theorem stopFrom_no (s : ByteArray) (p : Nat) (hp : p < s.size) (h : nameB (codeAt s p) = false) : stopFrom s p = p := by
  unfold stopFrom
  rw [cutsN_cons s p hp]
  simp [h]
theorem stopFrom_on (s : ByteArray) (p : Nat) (hp : p < s.size) (h : nameB (codeAt s p) = true) : stopFrom s p = stopFrom s (p + (Utf8.decode s p).2) := by
  unfold stopFrom
  rw [cutsN_cons s p hp]
  simp [h]
theorem stopFrom_le (s : ByteArray) (p : Nat) (hp : p ≤ s.size) : p ≤ stopFrom s p ∧ stopFrom s p ≤ s.size := by
  unfold stopFrom
  split
  · rename_i x hx
    have h2 := List.mem_of_find?_eq_some hx
    exact ⟨cutsN_ge s _ _ x h2, Nat.le_of_lt (cutsN_lt s _ _ x h2)⟩
  · exact ⟨hp, Nat.le_refl _⟩
theorem stopFrom_gt (s : ByteArray) (p : Nat) (hp : p < s.size) : p < stopFrom s p ↔ nameB (codeAt s p) = true := by
  constructor
  · intro h
    cases hn : nameB (codeAt s p)
    · rw [stopFrom_no s p hp hn] at h; omega
    · rfl
  · intro h
    rw [stopFrom_on s p hp h]
    have := decode_wide s p
    have := (stopFrom_le s _ (decode_fits s p hp)).1
    omega
theorem extract_all (s : ByteArray) : s.extract 0 s.size = s := by simp
theorem wordEnd_zero (s : ByteArray) : wordEnd s 0 = stopFrom s 0 := by
  unfold wordEnd
  rw [extract_all, Nat.zero_add]
  rfl
theorem codeFrom_zero (s : ByteArray) : codeFrom s 0 = codeAt s 0 := by unfold codeFrom; rw [extract_all]
theorem codeAt_is {s : ByteArray} {k n : Nat} {r : Int} (h : RuneAt s k r n) : (n = 0 ∧ codeAt s k < 0) ∨ (n = (Utf8.decode s k).2 ∧ codeAt s k = r ∧ 0 ≤ r) := by
  rcases h with ⟨h1, h2⟩ | ⟨h1, h2, h3⟩
  · refine .inl ⟨h2, ?_⟩
    unfold codeAt
    rw [if_pos h1]
    omega
  · refine .inr ⟨h3, ?_, by omega⟩
    unfold codeAt
    rw [h1]
    simp [h2]
/-- the test of a byte says what the test of the rune says, below 192 -/
theorem name_byte (s : ByteArray) (k : Nat) (hk : k < s.size) (h0 : 0 ≤ codeAt s k) (h : codeAt s k < 192) : nameB (codeAt s k) = (plainB ((s[k]'hk).toNat : Int) || digitB ((s[k]'hk).toNat : Int) || ((s[k]'hk).toNat : Int) == 95) := by
  have hb := by_at s k 0 hk
  have hl := by_lt s k 0
  have hb' : ((s[k]'hk).toNat : Int) = by' s k 0 := hb
  rw [hb']
  by_cases h1 : by' s k 0 < 128
  · have hd := dec1 s k h1
    have hl : lostAt s k = false := by
      cases hq : lostAt s k
      · rfl
      · have := (lost_iff s k hk).1 hq; rw [hd] at this; injection this; omega
    have : codeAt s k = by' s k 0 := by unfold codeAt; rw [hl, hd]; rfl
    rw [this]
    unfold nameB letterB plainB digitB
    rw [Bool.eq_iff_iff]
    simp
    omega
  · have hd : (by' s k 0 < 192 ∨ 248 ≤ by' s k 0) ∨ 192 ≤ by' s k 0 ∧ by' s k 0 < 248 := by omega
    have e1 : plainB (by' s k 0) = false := by unfold plainB; simp; omega
    have e2 : digitB (by' s k 0) = false := by unfold digitB; simp; omega
    have e3 : ((by' s k 0 : Int) == 95) = false := by simp; omega
    rw [e1, e2, e3]
    have h128 : 128 ≤ codeAt s k := by
      unfold codeAt at h0 ⊢
      split at h0
      · omega
      · rename_i hq
        rw [if_neg hq]
        have h0 := by_lt s k 0; have h2 := by_lt s k 1; have h3 := by_lt s k 2; have h4 := by_lt s k 3
        simp only [by', Nat.add_zero] at *
        unfold Utf8.decode
        simp only [Nat.add_zero]
        repeat' split
        all_goals simp_all [Utf8.runeError, Utf8.valid]
        all_goals omega
    unfold nameB letterB digitB
    rw [Bool.eq_iff_iff]
    simp
    omega
theorem mergeR {P : Program} {n : Nat} {ops} {b : Bool} {y : Code} {Q : Exit → Act → World → Prop} {a : Act} {w : World} (R : Act → World → Prop)
    (h1 : ∀ K : Act → World → Prop, (∀ a w, R a w → K a w) → (Code.region n ops b).wp P (Exit.then K Q) a w) (h2 : ∀ a w, R a w → y.wp P Q a w) : (Code.seq (Code.region n ops b) y).wp P Q a w :=
  wp_seq_k fun K hK => h1 K (fun a w h => hK a w (h2 a w h))
set_option maxRecDepth 100000 in
set_option maxHeartbeats 4000000 in
theorem nameEnd66 (s : ByteArray) (p : Nat) (w : World) (hs : s.size ≤ 1048576) (hp : p ≤ s.size) : Calls Tryz.prog 66 #[.string s, .int .i64 p] w fun e w' => e = .returned (.int .i64 (stopFrom s p : Nat)) ∧ w' = w := by
  go_enter Tryz.func66, Tryz.ntmps66
  go_wp2_with fail
  go_loopw [1] (fun x wr => ∃ k : Nat, x = .int .i64 k ∧ p ≤ k ∧ k ≤ s.size ∧ stopFrom s k = stopFrom s p ∧ wr = w) (fun x _ => s.size - (intOf x).toNat)
  case atStart => exact ⟨p, rfl, Nat.le_refl _, hp, rfl, rfl⟩
  case round =>
    obtain ⟨k, rfl, hk, hk2, hst, hw⟩ := hrel
    subst wr
    have hst' := hid hst
    clear hst
    by_cases hlt : k < s.size
    rotate_left
    · obtain rfl : k = s.size := by omega
      go_wp2_with fail
      go_ret
      exact ⟨ret_int (by rw [← hst'.out, stopFrom_end]), rfl⟩
    have hcall := runeAt69 s k w hs hlt
    have hc84 := plainLetter84 ((s[k]'hlt).toNat : Int) w
    have hc64 := digit64 ((s[k]'hlt).toNat : Int) w
    refine wp_seq_k fun K1 h1 => ?_
    have h1' := hid h1
    clear h1
    go_wp2_with fail
    refine h1'.out _ _ (wp_block ?_)
    clear h1' K1
    refine wp_seq_k fun K1 h1 => ?_
    have h1' := hid h1
    clear h1
    go_wp2_with fail
    refine hcall.mono ?_
    rintro e w2 ⟨⟨r, n, rfl, hr⟩, hw⟩
    subst w2
    go_wp2_with fail
    refine h1'.out _ _ ?_
    clear h1' K1
    have hfit := decode_fits s k hlt
    have hwid := decode_wide s k
    have hca : (Hid (n = 0) ∧ codeAt s k < 0) ∨ (Hid (n = (Utf8.decode s k).2) ∧ codeAt s k = r ∧ 0 ≤ r) := (codeAt_is hr).imp (fun h => ⟨hid h.1, h.2⟩) (fun h => ⟨hid h.1, h.2⟩)
    have hnb := name_byte s k hlt
    clear hcall hr
    refine wp_seq_k fun K2 hK2 => ?_
    apply mergeR (fun a' w' => w' = w ∧ ∃ (b42 : Bool) (x17 x18 x19 x20 x21 x22 x23 x24 x25 x26 x27 x28 x29 x30 x31 x32 x33 x34 x35 x36 x37 x38 x39 x40 x41 : Value), a' = ⟨#[_, _, _, _, _, _, _, _, _, _, _, _, _, _, _, _, _, x17, x18, x19, x20, x21, x22, x23, x24, x25, x26, x27, x28, x29, x30, x31, x32, x33, x34, x35, x36, x37, x38, x39, x40, x41, .bool b42, _, _, _, _, _], []⟩ ∧ b42 = !nameB (codeAt s k))
    case h1 =>
      intro K hK
      have hK' := hid hK
      clear hK
      have g84 := hc84
      have g64 := hc64
      rcases hca with ⟨hn, hneg⟩ | ⟨hn, hcr, hr0⟩
      · have hn0 : ((n : Int) == 0) = true := by have := hn.out; simp; omega
        have hno : nameB (codeAt s k) = false := by unfold nameB letterB digitB; simp; omega
        go_wp2_with fail
        exact hK'.out _ _ ⟨rfl, _, _, _, _, _, _, _, _, _, _, _, _, _, _, _, _, _, _, _, _, _, _, _, _, _, _, rfl, by rw [hno]; rfl⟩
      · have hn0 : ((n : Int) == 0) = false := by have := hn.out; simp; omega
        by_cases h192 : r < 192
        · have hq := hnb (by omega) (by omega)
          cases h84 : plainB ((s[k]'hlt).toNat : Int)
          · rw [h84] at g84 hq
            cases h64 : digitB ((s[k]'hlt).toNat : Int)
            · rw [h64] at g64 hq
              go_wp2_with (first | (go_at_call 84; refine g84.mono ?_; rintro e w' ⟨rfl, hw⟩; subst w') | (go_at_call 64; refine g64.mono ?_; rintro e w' ⟨rfl, hw⟩; subst w'))
              all_goals exact hK'.out _ _ ⟨rfl, _, _, _, _, _, _, _, _, _, _, _, _, _, _, _, _, _, _, _, _, _, _, _, _, _, _, rfl, by rw [hq]; simp [bne, hn0]; done⟩
            · rw [h64] at g64 hq
              go_wp2_with (first | (go_at_call 84; refine g84.mono ?_; rintro e w' ⟨rfl, hw⟩; subst w') | (go_at_call 64; refine g64.mono ?_; rintro e w' ⟨rfl, hw⟩; subst w'))
              exact hK'.out _ _ ⟨rfl, _, _, _, _, _, _, _, _, _, _, _, _, _, _, _, _, _, _, _, _, _, _, _, _, _, _, rfl, by rw [hq]; rfl⟩
          · rw [h84] at g84 hq
            go_wp2_with (first | (go_at_call 84; refine g84.mono ?_; rintro e w' ⟨rfl, hw⟩; subst w') | (go_at_call 64; refine g64.mono ?_; rintro e w' ⟨rfl, hw⟩; subst w'))
            exact hK'.out _ _ ⟨rfl, _, _, _, _, _, _, _, _, _, _, _, _, _, _, _, _, _, _, _, _, _, _, _, _, _, _, rfl, by rw [hq]; rfl⟩
        · have hq : nameB (codeAt s k) = true := by rw [hcr]; unfold nameB letterB; simp; omega
          go_wp2_with fail
          exact hK'.out _ _ ⟨rfl, _, _, _, _, _, _, _, _, _, _, _, _, _, _, _, _, _, _, _, _, _, _, _, _, _, _, rfl, by rw [hq]; rfl⟩
    case h2 =>
      intro a1 w1 hR
      dsimp only at hR
      obtain ⟨rfl, b42, x17, x18, x19, x20, x21, x22, x23, x24, x25, x26, x27, x28, x29, x30, x31, x32, x33, x34, x35, x36, x37, x38, x39, x40, x41, rfl, hb42⟩ := hR
      clear hc84 hc64 hnb
      cases hq : nameB (codeAt s k)
      · have hno := hid (stopFrom_no s k hlt hq)
        obtain rfl : b42 = true := by rw [hb42, hq]; rfl
        clear hb42 hca
        go_wp2_with fail
        go_ret
        exact ⟨ret_int (by rw [← hst'.out, hno.out]), rfl⟩
      · have hon := hid ((stopFrom_on s k hlt hq).symm.trans hst'.out)
        obtain rfl : b42 = false := by rw [hb42, hq]; rfl
        have hn : n = (Utf8.decode s k).2 := by
          rcases hca with ⟨_, hneg⟩ | ⟨hn, _, _⟩
          · unfold nameB letterB digitB at hq; simp at hq; omega
          · exact hn.out
        subst hn
        clear hb42 hca
        go_wp2_with fail
        go_roundw
        case rel => exact ⟨k + (Utf8.decode s k).2, by go_num, by omega, by omega, hon.out, trivial⟩
        case measure => simp [intOf]; omega

end Go.Proofs.YtecpkadjnecbiaaGreatDoor
