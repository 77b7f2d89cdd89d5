/- Walks: a text that the document's Word takes is short and plain. No condition. -/
import Derived.Test.YtmjholcpajfldaaGreatDoorHostMa
namespace Go.Proofs.YtmjholcpajfldaaGreatDoor
open Go.RowKit
set_option linter.unusedVariables false
set_option linter.unusedSimpArgs false

set_option maxRecDepth 100000

def hx (c : Int) : Int := if 48 ≤ c ∧ c ≤ 57 then c - 48 else if 97 ≤ c ∧ c ≤ 102 then c - 87 else if 65 ≤ c ∧ c ≤ 70 then c - 55 else -1
theorem hx_bd (c : Int) : -1 ≤ hx c ∧ hx c ≤ 15 := by unfold hx; split <;> (try split) <;> (try split) <;> omega
theorem hx_ok {c : Int} (h : 0 ≤ hx c) : 45 ≤ c ∧ c ≤ 120 := by
  unfold hx at h
  split at h
  · omega
  · split at h
    · omega
    · split at h <;> omega
theorem dig61 (c : Int) (w : World) (h : 0 ≤ c ∧ c ≤ 255) : Calls Tryz.prog 61 #[.int .u8 c] w fun e w' => e = .returned (.bool (decide (48 ≤ c ∧ c ≤ 57))) ∧ w = w' := by
  by_cases h1 : 48 ≤ c
  · by_cases h2 : c ≤ 57
    · have hd : Hid (decide (48 ≤ c ∧ c ≤ 57) = true) := hid (decide_eq_true ⟨h1, h2⟩)
      go_enter Tryz.func61, Tryz.ntmps61
      go_wp2_with fail
      go_ret
      rw [hd.out]
      simp
    · have hd : Hid (decide (48 ≤ c ∧ c ≤ 57) = false) := hid (decide_eq_false (fun q => h2 q.2))
      go_enter Tryz.func61, Tryz.ntmps61
      go_wp2_with fail
      go_ret
      simp
      omega
  · have hd : Hid (decide (48 ≤ c ∧ c ≤ 57) = false) := hid (decide_eq_false (fun q => h1 q.1))
    go_enter Tryz.func61, Tryz.ntmps61
    go_wp2_with fail
    go_ret
    simp
    omega
theorem hex25 (c : Int) (w : World) (h : 0 ≤ c ∧ c ≤ 255) : Calls Tryz.prog 25 #[.int .u8 c] w fun e w' => e = .returned (.int .i64 (hx c)) ∧ w = w' := by
  have hf := hid (dig61 c w h)
  by_cases h1 : 48 ≤ c ∧ c ≤ 57
  · have hd : Hid (decide (48 ≤ c ∧ c ≤ 57) = true) := hid (decide_eq_true h1)
    have hv : Hid (hx c = c - 48) := by unfold Hid hx; rw [if_pos h1]
    go_enter Tryz.func25, Tryz.ntmps25
    go_wp2_with (go_at_call 61; refine hf.out.mono ?_; rintro e w1 ⟨rfl, rfl⟩; rw [hd.out])
    go_ret
    rw [hv.out]
    exact ⟨by go_num, rfl⟩
  · have hd : Hid (decide (48 ≤ c ∧ c ≤ 57) = false) := hid (decide_eq_false h1)
    have h1' := hid h1
    clear h1
    by_cases h2 : 97 ≤ c
    · by_cases h3 : c ≤ 102
      · have hv : Hid (hx c = c - 87) := by unfold Hid hx; rw [if_neg h1'.out, if_pos ⟨h2, h3⟩]
        go_enter Tryz.func25, Tryz.ntmps25
        go_wp2_with (go_at_call 61; refine hf.out.mono ?_; rintro e w1 ⟨rfl, rfl⟩; rw [hd.out])
        go_ret
        rw [hv.out]
        exact ⟨by go_num, rfl⟩
      · have hv : Hid (hx c = -1) := by unfold Hid hx; rw [if_neg h1'.out, if_neg (by omega), if_neg (by omega)]
        have h4 : ¬ c ≤ 70 := by omega
        go_enter Tryz.func25, Tryz.ntmps25
        go_wp2_with (go_at_call 61; refine hf.out.mono ?_; rintro e w1 ⟨rfl, rfl⟩; rw [hd.out])
        all_goals (go_ret; rw [hv.out]; exact ⟨rfl, rfl⟩)
    · by_cases h3 : 65 ≤ c
      · by_cases h4 : c ≤ 70
        · have hv : Hid (hx c = c - 55) := by unfold Hid hx; rw [if_neg h1'.out, if_neg (by omega), if_pos ⟨h3, h4⟩]
          go_enter Tryz.func25, Tryz.ntmps25
          go_wp2_with (go_at_call 61; refine hf.out.mono ?_; rintro e w1 ⟨rfl, rfl⟩; rw [hd.out])
          go_ret
          rw [hv.out]
          exact ⟨by go_num, rfl⟩
        · have hv : Hid (hx c = -1) := by unfold Hid hx; rw [if_neg h1'.out, if_neg (by omega), if_neg (by omega)]
          go_enter Tryz.func25, Tryz.ntmps25
          go_wp2_with (go_at_call 61; refine hf.out.mono ?_; rintro e w1 ⟨rfl, rfl⟩; rw [hd.out])
          go_ret
          rw [hv.out]
          exact ⟨rfl, rfl⟩
      · have hv : Hid (hx c = -1) := by unfold Hid hx; rw [if_neg h1'.out, if_neg (by omega), if_neg (by omega)]
        go_enter Tryz.func25, Tryz.ntmps25
        go_wp2_with (go_at_call 61; refine hf.out.mono ?_; rintro e w1 ⟨rfl, rfl⟩; rw [hd.out])
        go_ret
        rw [hv.out]
        exact ⟨rfl, rfl⟩
/-- a plain text -/
def Pl (s : ByteArray) (a k : Nat) : Prop := ∀ i (h : i < s.size), a ≤ i → i < k → 45 ≤ s[i].toNat ∧ s[i].toNat ≤ 120
/-- what Word says of a text -/
def W12 (s : ByteArray) (e : Ending) : Prop := ∃ x p er, e = .returned (.tuple #[.int .u32 x, .int .i64 p, .int .i64 er]) ∧ (er = 0 → 1 ≤ s.size ∧ s.size ≤ 64 ∧ Pl s 0 s.size)
theorem w12_bad (s : ByteArray) (x p er : Int) (h : er ≠ 0) : W12 s (.returned (.tuple #[.int .u32 x, .int .i64 p, .int .i64 er])) := ⟨x, p, er, rfl, fun q => absurd q h⟩
theorem pl_snoc {s : ByteArray} {a k : Nat} (h : Pl s a k) (hk : k < s.size) (hc : 0 ≤ hx (s[k].toNat : Int)) : Pl s a (k + 1) := fun i hi h1 h2 => by
  rcases Nat.lt_or_eq_of_le (Nat.le_of_lt_succ h2) with h3 | h3
  · exact h i hi h1 h3
  · subst h3
    have := hx_ok hc
    omega

set_option maxHeartbeats 4000000 in
theorem word12A (s : ByteArray) (w : World) (hlen : s.size ≤ 64) (h0 : 0 < s.size) (hm : (s[0].toNat : Int) = 45) : Calls Tryz.prog 12 #[.string s] w fun e w' => W12 s e ∧ w = w' := by
  have hL := hid hlen
  have hl1 : ¬ (64 : Int) < (s.size : Int) := by omega
  have h0' : (0 : Int) < (s.size : Int) := by omega
  have hHd : Hid (Pl s 1 s.size → Pl s 0 s.size) := hid fun q i hi h1 h2 => by
    rcases Nat.eq_zero_or_pos i with h3 | h3
    · subst h3; omega
    · exact q i hi h3 h2
  clear hlen
  go_enter Tryz.func12, Tryz.ntmps12
  go_wp2_with fail
  clear hl1 h0' hm
  go_loopw [9, 10, 11] (fun z i d wr => ∃ (k : Nat) (n : Int), k ≤ s.size ∧ 1 ≤ k ∧ z = .int .u64 n ∧ i = .int .i64 k ∧ Hid (Pl s 1 k) ∧ w = wr) (fun _ i _ _ => s.size - (intOf i).toNat)
  case atStart => exact ⟨1, 0, by omega, by omega, rfl, rfl, hid (fun i _ h1 h2 => by omega), rfl⟩
  case round =>
    obtain ⟨k, n, hk, hak, rfl, rfl, hP, rfl⟩ := hrel
    by_cases hlt : k < s.size
    · have hx1 : (k : Int) < (s.size : Int) := by omega
      have hcb : (0 : Int) ≤ (s[k].toNat : Int) ∧ (s[k].toNat : Int) ≤ 255 := by have := s[k].toNat_lt; omega
      have hf := hid (hex25 (s[k].toNat : Int) w hcb)
      have hsn := hid (fun q => pl_snoc hP.out hlt q)
      have hbd := hx_bd (s[k].toNat : Int)
      have hk64 : k < 64 := by have := hL.out; omega
      clear hcb
      go_wp2_with fail
      refine hf.out.mono ?_
      rintro e w1 ⟨rfl, rfl⟩
      clear hf
      generalize hx (s[k].toNat : Int) = x at *
      by_cases h1 : x < 0
      · go_wp2_with fail
        go_ret3
        exact ⟨w12_bad _ _ _ _ (by decide), rfl⟩
      · have hw3 : IntKind.u64.wrap x = x := by rw [IntKind.wrap_u64]; omega
        have hsn2 := hid (hsn.out (by omega))
        clear hsn
        by_cases h2 : 10 ≤ x
        · go_wp2_with fail
          go_ret3
          exact ⟨w12_bad _ _ _ _ (by decide), rfl⟩
        · go_wp2_with fail
          all_goals first
            | (go_ret3; exact ⟨w12_bad _ _ _ _ (by decide), rfl⟩)
            | exact ⟨⟨k + 1, _, by omega, by omega, rfl, by go_num, hsn2, by first | rfl | trivial⟩, by simp only [intOf]; omega⟩
    · obtain rfl : k = s.size := by omega
      have hg := hid (hHd.out hP.out)
      clear hP hlt
      by_cases hka : s.size = 1
      · go_wp2_with fail
        go_ret3
        exact ⟨w12_bad _ _ _ _ (by decide), rfl⟩
      · go_wp2_with fail
        all_goals go_ret3
        all_goals exact ⟨⟨_, _, _, rfl, fun _ => ⟨by omega, hL.out, hg.out⟩⟩, rfl⟩
set_option maxHeartbeats 4000000 in
theorem word12B (s : ByteArray) (w : World) (hlen : s.size ≤ 64) (h0 : 0 < s.size) (h1 : 1 < s.size) (hz : (s[0].toNat : Int) = 48) (hx : (s[1].toNat : Int) = 120) : Calls Tryz.prog 12 #[.string s] w fun e w' => W12 s e ∧ w = w' := by
  have hL := hid hlen
  have hl1 : ¬ (64 : Int) < (s.size : Int) := by omega
  have h0' : (0 : Int) < (s.size : Int) := by omega
  have h1' : (1 : Int) < (s.size : Int) := by omega
  have hHd : Hid (Pl s 2 s.size → Pl s 0 s.size) := hid fun q i hi h1 h2 => by
    rcases Nat.lt_or_ge i 2 with h3 | h3
    · match i, h3 with
      | 0, _ => omega
      | 1, _ => omega
    · exact q i hi h3 h2
  clear hlen
  go_enter Tryz.func12, Tryz.ntmps12
  go_wp2_with fail
  clear hl1 h0' hz hx h1'
  go_loopw [9, 10, 11] (fun z i d wr => ∃ (k : Nat) (n : Int), k ≤ s.size ∧ 2 ≤ k ∧ z = .int .u64 n ∧ i = .int .i64 k ∧ Hid (Pl s 2 k) ∧ w = wr) (fun _ i _ _ => s.size - (intOf i).toNat)
  case atStart => exact ⟨2, 0, by omega, by omega, rfl, rfl, hid (fun i _ h1 h2 => by omega), rfl⟩
  case round =>
    obtain ⟨k, n, hk, hak, rfl, rfl, hP, rfl⟩ := hrel
    by_cases hlt : k < s.size
    · have hx1 : (k : Int) < (s.size : Int) := by omega
      have hcb : (0 : Int) ≤ (s[k].toNat : Int) ∧ (s[k].toNat : Int) ≤ 255 := by have := s[k].toNat_lt; omega
      have hf := hid (hex25 (s[k].toNat : Int) w hcb)
      have hsn := hid (fun q => pl_snoc hP.out hlt q)
      have hbd := hx_bd (s[k].toNat : Int)
      have hk64 : k < 64 := by have := hL.out; omega
      clear hcb
      go_wp2_with fail
      refine hf.out.mono ?_
      rintro e w1 ⟨rfl, rfl⟩
      clear hf
      generalize hx (s[k].toNat : Int) = x at *
      by_cases h1 : x < 0
      · go_wp2_with fail
        go_ret3
        exact ⟨w12_bad _ _ _ _ (by decide), rfl⟩
      · have hw3 : IntKind.u64.wrap x = x := by rw [IntKind.wrap_u64]; omega
        have hsn2 := hid (hsn.out (by omega))
        clear hsn
        by_cases h2 : 16 ≤ x
        · go_wp2_with fail
          go_ret3
          exact ⟨w12_bad _ _ _ _ (by decide), rfl⟩
        · go_wp2_with fail
          all_goals first
            | (go_ret3; exact ⟨w12_bad _ _ _ _ (by decide), rfl⟩)
            | exact ⟨⟨k + 1, _, by omega, by omega, rfl, by go_num, hsn2, by first | rfl | trivial⟩, by simp only [intOf]; omega⟩
    · obtain rfl : k = s.size := by omega
      have hg := hid (hHd.out hP.out)
      clear hP hlt
      by_cases hka : s.size = 2
      · go_wp2_with fail
        go_ret3
        exact ⟨w12_bad _ _ _ _ (by decide), rfl⟩
      · go_wp2_with fail
        all_goals go_ret3
        all_goals exact ⟨⟨_, _, _, rfl, fun _ => ⟨by omega, hL.out, hg.out⟩⟩, rfl⟩
set_option maxHeartbeats 4000000 in
theorem word12C (s : ByteArray) (w : World) (hlen : s.size ≤ 64) (h0 : 0 < s.size) (h1 : 1 < s.size) (hz : (s[0].toNat : Int) = 48) (hx : (s[1].toNat : Int) = 98) : Calls Tryz.prog 12 #[.string s] w fun e w' => W12 s e ∧ w = w' := by
  have hL := hid hlen
  have hl1 : ¬ (64 : Int) < (s.size : Int) := by omega
  have h0' : (0 : Int) < (s.size : Int) := by omega
  have h1' : (1 : Int) < (s.size : Int) := by omega
  have hHd : Hid (Pl s 2 s.size → Pl s 0 s.size) := hid fun q i hi h1 h2 => by
    rcases Nat.lt_or_ge i 2 with h3 | h3
    · match i, h3 with
      | 0, _ => omega
      | 1, _ => omega
    · exact q i hi h3 h2
  clear hlen
  go_enter Tryz.func12, Tryz.ntmps12
  go_wp2_with fail
  clear hl1 h0' hz hx h1'
  go_loopw [9, 10, 11] (fun z i d wr => ∃ (k : Nat) (n : Int), k ≤ s.size ∧ 2 ≤ k ∧ z = .int .u64 n ∧ i = .int .i64 k ∧ Hid (Pl s 2 k) ∧ w = wr) (fun _ i _ _ => s.size - (intOf i).toNat)
  case atStart => exact ⟨2, 0, by omega, by omega, rfl, rfl, hid (fun i _ h1 h2 => by omega), rfl⟩
  case round =>
    obtain ⟨k, n, hk, hak, rfl, rfl, hP, rfl⟩ := hrel
    by_cases hlt : k < s.size
    · have hx1 : (k : Int) < (s.size : Int) := by omega
      have hcb : (0 : Int) ≤ (s[k].toNat : Int) ∧ (s[k].toNat : Int) ≤ 255 := by have := s[k].toNat_lt; omega
      have hf := hid (hex25 (s[k].toNat : Int) w hcb)
      have hsn := hid (fun q => pl_snoc hP.out hlt q)
      have hbd := hx_bd (s[k].toNat : Int)
      have hk64 : k < 64 := by have := hL.out; omega
      clear hcb
      go_wp2_with fail
      refine hf.out.mono ?_
      rintro e w1 ⟨rfl, rfl⟩
      clear hf
      generalize hx (s[k].toNat : Int) = x at *
      by_cases h1 : x < 0
      · go_wp2_with fail
        go_ret3
        exact ⟨w12_bad _ _ _ _ (by decide), rfl⟩
      · have hw3 : IntKind.u64.wrap x = x := by rw [IntKind.wrap_u64]; omega
        have hsn2 := hid (hsn.out (by omega))
        clear hsn
        by_cases h2 : 2 ≤ x
        · go_wp2_with fail
          go_ret3
          exact ⟨w12_bad _ _ _ _ (by decide), rfl⟩
        · go_wp2_with fail
          all_goals first
            | (go_ret3; exact ⟨w12_bad _ _ _ _ (by decide), rfl⟩)
            | exact ⟨⟨k + 1, _, by omega, by omega, rfl, by go_num, hsn2, by first | rfl | trivial⟩, by simp only [intOf]; omega⟩
    · obtain rfl : k = s.size := by omega
      have hg := hid (hHd.out hP.out)
      clear hP hlt
      by_cases hka : s.size = 2
      · go_wp2_with fail
        go_ret3
        exact ⟨w12_bad _ _ _ _ (by decide), rfl⟩
      · go_wp2_with fail
        all_goals go_ret3
        all_goals exact ⟨⟨_, _, _, rfl, fun _ => ⟨by omega, hL.out, hg.out⟩⟩, rfl⟩
set_option maxHeartbeats 4000000 in
theorem word12D (s : ByteArray) (w : World) (hlen : s.size ≤ 64) (h0 : 0 < s.size) (h1 : 1 < s.size) (hz : (s[0].toNat : Int) = 48) (hx : ¬ (s[1].toNat : Int) = 120) (hb : ¬ (s[1].toNat : Int) = 98) : Calls Tryz.prog 12 #[.string s] w fun e w' => W12 s e ∧ w = w' := by
  have hL := hid hlen
  have hl1 : ¬ (64 : Int) < (s.size : Int) := by omega
  have h0' : (0 : Int) < (s.size : Int) := by omega
  have h1' : (1 : Int) < (s.size : Int) := by omega
  have hxb : ((s[1].toNat : Int) == 120) = false := by simp; omega
  have hbb : ((s[1].toNat : Int) == 98) = false := by simp; omega
  have hHd : Hid (Pl s 0 s.size → Pl s 0 s.size) := hid fun q => q
  clear hlen
  go_enter Tryz.func12, Tryz.ntmps12
  go_wp2_with fail
  clear hl1 h0' hz hx hb hxb hbb
  go_loopw [9, 10, 11] (fun z i d wr => ∃ (k : Nat) (n : Int), k ≤ s.size ∧ 0 ≤ k ∧ z = .int .u64 n ∧ i = .int .i64 k ∧ Hid (Pl s 0 k) ∧ w = wr) (fun _ i _ _ => s.size - (intOf i).toNat)
  case atStart => exact ⟨0, 0, by omega, by omega, rfl, rfl, hid (fun i _ h1 h2 => by omega), rfl⟩
  case round =>
    obtain ⟨k, n, hk, hak, rfl, rfl, hP, rfl⟩ := hrel
    by_cases hlt : k < s.size
    · have hx1 : (k : Int) < (s.size : Int) := by omega
      have hcb : (0 : Int) ≤ (s[k].toNat : Int) ∧ (s[k].toNat : Int) ≤ 255 := by have := s[k].toNat_lt; omega
      have hf := hid (hex25 (s[k].toNat : Int) w hcb)
      have hsn := hid (fun q => pl_snoc hP.out hlt q)
      have hbd := hx_bd (s[k].toNat : Int)
      have hk64 : k < 64 := by have := hL.out; omega
      clear hcb
      go_wp2_with fail
      refine hf.out.mono ?_
      rintro e w1 ⟨rfl, rfl⟩
      clear hf
      generalize hx (s[k].toNat : Int) = x at *
      by_cases h1 : x < 0
      · go_wp2_with fail
        go_ret3
        exact ⟨w12_bad _ _ _ _ (by decide), rfl⟩
      · have hw3 : IntKind.u64.wrap x = x := by rw [IntKind.wrap_u64]; omega
        have hsn2 := hid (hsn.out (by omega))
        clear hsn
        by_cases h2 : 10 ≤ x
        · go_wp2_with fail
          go_ret3
          exact ⟨w12_bad _ _ _ _ (by decide), rfl⟩
        · go_wp2_with fail
          all_goals first
            | (go_ret3; exact ⟨w12_bad _ _ _ _ (by decide), rfl⟩)
            | exact ⟨⟨k + 1, _, by omega, by omega, rfl, by go_num, hsn2, by first | rfl | trivial⟩, by simp only [intOf]; omega⟩
    · obtain rfl : k = s.size := by omega
      have hg := hid (hHd.out hP.out)
      clear hP hlt
      by_cases hka : s.size = 0
      · go_wp2_with fail
        go_ret3
        exact ⟨w12_bad _ _ _ _ (by decide), rfl⟩
      · go_wp2_with fail
        all_goals go_ret3
        all_goals exact ⟨⟨_, _, _, rfl, fun _ => ⟨by omega, hL.out, hg.out⟩⟩, rfl⟩
set_option maxHeartbeats 4000000 in
theorem word12E (s : ByteArray) (w : World) (hlen : s.size ≤ 64) (h0 : 0 < s.size) (h1 : 1 < s.size) (hm : ¬ (s[0].toNat : Int) = 45) (hz : ¬ (s[0].toNat : Int) = 48) : Calls Tryz.prog 12 #[.string s] w fun e w' => W12 s e ∧ w = w' := by
  have hL := hid hlen
  have hl1 : ¬ (64 : Int) < (s.size : Int) := by omega
  have h0' : (0 : Int) < (s.size : Int) := by omega
  have h1' : (1 : Int) < (s.size : Int) := by omega
  have hHd : Hid (Pl s 0 s.size → Pl s 0 s.size) := hid fun q => q
  clear hlen
  go_enter Tryz.func12, Tryz.ntmps12
  go_wp2_with fail
  clear hl1 h0' hz hm h1'
  go_loopw [9, 10, 11] (fun z i d wr => ∃ (k : Nat) (n : Int), k ≤ s.size ∧ 0 ≤ k ∧ z = .int .u64 n ∧ i = .int .i64 k ∧ Hid (Pl s 0 k) ∧ w = wr) (fun _ i _ _ => s.size - (intOf i).toNat)
  case atStart => exact ⟨0, 0, by omega, by omega, rfl, rfl, hid (fun i _ h1 h2 => by omega), rfl⟩
  case round =>
    obtain ⟨k, n, hk, hak, rfl, rfl, hP, rfl⟩ := hrel
    by_cases hlt : k < s.size
    · have hx1 : (k : Int) < (s.size : Int) := by omega
      have hcb : (0 : Int) ≤ (s[k].toNat : Int) ∧ (s[k].toNat : Int) ≤ 255 := by have := s[k].toNat_lt; omega
      have hf := hid (hex25 (s[k].toNat : Int) w hcb)
      have hsn := hid (fun q => pl_snoc hP.out hlt q)
      have hbd := hx_bd (s[k].toNat : Int)
      have hk64 : k < 64 := by have := hL.out; omega
      clear hcb
      go_wp2_with fail
      refine hf.out.mono ?_
      rintro e w1 ⟨rfl, rfl⟩
      clear hf
      generalize hx (s[k].toNat : Int) = x at *
      by_cases h1 : x < 0
      · go_wp2_with fail
        go_ret3
        exact ⟨w12_bad _ _ _ _ (by decide), rfl⟩
      · have hw3 : IntKind.u64.wrap x = x := by rw [IntKind.wrap_u64]; omega
        have hsn2 := hid (hsn.out (by omega))
        clear hsn
        by_cases h2 : 10 ≤ x
        · go_wp2_with fail
          go_ret3
          exact ⟨w12_bad _ _ _ _ (by decide), rfl⟩
        · go_wp2_with fail
          all_goals first
            | (go_ret3; exact ⟨w12_bad _ _ _ _ (by decide), rfl⟩)
            | exact ⟨⟨k + 1, _, by omega, by omega, rfl, by go_num, hsn2, by first | rfl | trivial⟩, by simp only [intOf]; omega⟩
    · obtain rfl : k = s.size := by omega
      have hg := hid (hHd.out hP.out)
      clear hP hlt
      by_cases hka : s.size = 0
      · go_wp2_with fail
        go_ret3
        exact ⟨w12_bad _ _ _ _ (by decide), rfl⟩
      · go_wp2_with fail
        all_goals go_ret3
        all_goals exact ⟨⟨_, _, _, rfl, fun _ => ⟨by omega, hL.out, hg.out⟩⟩, rfl⟩
set_option maxHeartbeats 4000000 in
theorem word12F (s : ByteArray) (w : World) (hlen : s.size ≤ 64) (h0 : 0 < s.size) (h1 : ¬ 1 < s.size) (hm : ¬ (s[0].toNat : Int) = 45) : Calls Tryz.prog 12 #[.string s] w fun e w' => W12 s e ∧ w = w' := by
  have hL := hid hlen
  have hl1 : ¬ (64 : Int) < (s.size : Int) := by omega
  have h0' : (0 : Int) < (s.size : Int) := by omega
  have h1' : ¬ (1 : Int) < (s.size : Int) := by omega
  have hHd : Hid (Pl s 0 s.size → Pl s 0 s.size) := hid fun q => q
  clear hlen
  go_enter Tryz.func12, Tryz.ntmps12
  go_wp2_with fail
  clear hl1 h0' hm h1'
  go_loopw [9, 10, 11] (fun z i d wr => ∃ (k : Nat) (n : Int), k ≤ s.size ∧ 0 ≤ k ∧ z = .int .u64 n ∧ i = .int .i64 k ∧ Hid (Pl s 0 k) ∧ w = wr) (fun _ i _ _ => s.size - (intOf i).toNat)
  case atStart => exact ⟨0, 0, by omega, by omega, rfl, rfl, hid (fun i _ h1 h2 => by omega), rfl⟩
  case round =>
    obtain ⟨k, n, hk, hak, rfl, rfl, hP, rfl⟩ := hrel
    by_cases hlt : k < s.size
    · have hx1 : (k : Int) < (s.size : Int) := by omega
      have hcb : (0 : Int) ≤ (s[k].toNat : Int) ∧ (s[k].toNat : Int) ≤ 255 := by have := s[k].toNat_lt; omega
      have hf := hid (hex25 (s[k].toNat : Int) w hcb)
      have hsn := hid (fun q => pl_snoc hP.out hlt q)
      have hbd := hx_bd (s[k].toNat : Int)
      have hk64 : k < 64 := by have := hL.out; omega
      clear hcb
      go_wp2_with fail
      refine hf.out.mono ?_
      rintro e w1 ⟨rfl, rfl⟩
      clear hf
      generalize hx (s[k].toNat : Int) = x at *
      by_cases h1 : x < 0
      · go_wp2_with fail
        go_ret3
        exact ⟨w12_bad _ _ _ _ (by decide), rfl⟩
      · have hw3 : IntKind.u64.wrap x = x := by rw [IntKind.wrap_u64]; omega
        have hsn2 := hid (hsn.out (by omega))
        clear hsn
        by_cases h2 : 10 ≤ x
        · go_wp2_with fail
          go_ret3
          exact ⟨w12_bad _ _ _ _ (by decide), rfl⟩
        · go_wp2_with fail
          all_goals first
            | (go_ret3; exact ⟨w12_bad _ _ _ _ (by decide), rfl⟩)
            | exact ⟨⟨k + 1, _, by omega, by omega, rfl, by go_num, hsn2, by first | rfl | trivial⟩, by simp only [intOf]; omega⟩
    · obtain rfl : k = s.size := by omega
      have hg := hid (hHd.out hP.out)
      clear hP hlt
      by_cases hka : s.size = 0
      · go_wp2_with fail
        go_ret3
        exact ⟨w12_bad _ _ _ _ (by decide), rfl⟩
      · go_wp2_with fail
        all_goals go_ret3
        all_goals exact ⟨⟨_, _, _, rfl, fun _ => ⟨by omega, hL.out, hg.out⟩⟩, rfl⟩
set_option maxHeartbeats 4000000 in
theorem word12G (s : ByteArray) (w : World) (hlen : s.size ≤ 64) (h0 : ¬ 0 < s.size) : Calls Tryz.prog 12 #[.string s] w fun e w' => W12 s e ∧ w = w' := by
  have hL := hid hlen
  have hl1 : ¬ (64 : Int) < (s.size : Int) := by omega
  have h0' : ¬ (0 : Int) < (s.size : Int) := by omega
  have h1' : ¬ (1 : Int) < (s.size : Int) := by omega
  have hHd : Hid (Pl s 0 s.size → Pl s 0 s.size) := hid fun q => q
  clear hlen
  go_enter Tryz.func12, Tryz.ntmps12
  go_wp2_with fail
  clear hl1 h0' h1'
  go_loopw [9, 10, 11] (fun z i d wr => ∃ (k : Nat) (n : Int), k ≤ s.size ∧ 0 ≤ k ∧ z = .int .u64 n ∧ i = .int .i64 k ∧ Hid (Pl s 0 k) ∧ w = wr) (fun _ i _ _ => s.size - (intOf i).toNat)
  case atStart => exact ⟨0, 0, by omega, by omega, rfl, rfl, hid (fun i _ h1 h2 => by omega), rfl⟩
  case round =>
    obtain ⟨k, n, hk, hak, rfl, rfl, hP, rfl⟩ := hrel
    by_cases hlt : k < s.size
    · have hx1 : (k : Int) < (s.size : Int) := by omega
      have hcb : (0 : Int) ≤ (s[k].toNat : Int) ∧ (s[k].toNat : Int) ≤ 255 := by have := s[k].toNat_lt; omega
      have hf := hid (hex25 (s[k].toNat : Int) w hcb)
      have hsn := hid (fun q => pl_snoc hP.out hlt q)
      have hbd := hx_bd (s[k].toNat : Int)
      have hk64 : k < 64 := by have := hL.out; omega
      clear hcb
      go_wp2_with fail
      refine hf.out.mono ?_
      rintro e w1 ⟨rfl, rfl⟩
      clear hf
      generalize hx (s[k].toNat : Int) = x at *
      by_cases h1 : x < 0
      · go_wp2_with fail
        go_ret3
        exact ⟨w12_bad _ _ _ _ (by decide), rfl⟩
      · have hw3 : IntKind.u64.wrap x = x := by rw [IntKind.wrap_u64]; omega
        have hsn2 := hid (hsn.out (by omega))
        clear hsn
        by_cases h2 : 10 ≤ x
        · go_wp2_with fail
          go_ret3
          exact ⟨w12_bad _ _ _ _ (by decide), rfl⟩
        · go_wp2_with fail
          all_goals first
            | (go_ret3; exact ⟨w12_bad _ _ _ _ (by decide), rfl⟩)
            | exact ⟨⟨k + 1, _, by omega, by omega, rfl, by go_num, hsn2, by first | rfl | trivial⟩, by simp only [intOf]; omega⟩
    · obtain rfl : k = s.size := by omega
      have hg := hid (hHd.out hP.out)
      clear hP hlt
      by_cases hka : s.size = 0
      · go_wp2_with fail
        go_ret3
        exact ⟨w12_bad _ _ _ _ (by decide), rfl⟩
      · go_wp2_with fail
        all_goals go_ret3
        all_goals exact ⟨⟨_, _, _, rfl, fun _ => ⟨by omega, hL.out, hg.out⟩⟩, rfl⟩
theorem word12 (s : ByteArray) (w : World) : Calls Tryz.prog 12 #[.string s] w fun e w' => W12 s e ∧ w = w' := by
  by_cases hlen : s.size ≤ 64
  · by_cases h0 : 0 < s.size
    · by_cases hm : (s[0].toNat : Int) = 45
      · exact word12A s w hlen h0 hm
      · by_cases h1 : 1 < s.size
        · by_cases hz : (s[0].toNat : Int) = 48
          · by_cases hx : (s[1].toNat : Int) = 120
            · exact word12B s w hlen h0 h1 hz hx
            · by_cases hb : (s[1].toNat : Int) = 98
              · exact word12C s w hlen h0 h1 hz hb
              · exact word12D s w hlen h0 h1 hz hx hb
          · exact word12E s w hlen h0 h1 hm hz
        · exact word12F s w hlen h0 h1 hm
    · exact word12G s w hlen h0
  · have hl1 : (64 : Int) < (s.size : Int) := by omega
    go_enter Tryz.func12, Tryz.ntmps12
    go_wp2_with fail
    go_ret3
    exact ⟨w12_bad _ _ _ _ (by decide), rfl⟩

end Go.Proofs.YtmjholcpajfldaaGreatDoor
