/- Walks: FigureWord: the document's Word. -/
import Derived.Test.YtmbdlhgclkbdiaaWordC
namespace Go.Proofs.Ytmbdlhgclkbdiaa
open Go.RowKit
set_option linter.unusedVariables false
set_option linter.unusedSimpArgs false

theorem dg_iff (c base : Int) (h : hx c < base) (h0 : 0 ≤ hx c) : dg c base = hx c := by unfold dg; rw [if_neg (by omega)]
theorem dg_no (c base : Int) (h : hx c < 0 ∨ base ≤ hx c) : dg c base = base := by unfold dg; rw [if_pos h]
theorem hx_bd (c : Int) : -1 ≤ hx c ∧ hx c ≤ 15 := by unfold hx; split <;> (try split) <;> (try split) <;> omega

set_option maxHeartbeats 2000000 in
theorem ref29M (s : ByteArray) (w : World) (hle : s.size ≤ 64) (hV : Hid (wordV s = finV true (digs 10 2147483648 s 1))) (h0 : 0 < s.size) (hb : (s[0].toNat : Int) = 45) :
    Calls Try.prog 29 #[.string s] w fun e w' => e = .returned (.tuple #[.int .u32 (wordV s).1, .int .i64 (wordV s).2.1, .int .i64 (wordV s).2.2]) ∧ w = w' := by
  have he : ((s[0].toNat : Int) == 45) = true := by rw [beq_iff_eq]; exact hb
  clear hb
  go_enter Try.func29, Try.ntmps29
  go_wp2_with fail
  go_loopw [9, 10] (fun v i wr => ∃ (k : Nat) (n : Int), k ≤ s.size ∧ 1 ≤ k ∧ v = .int .u64 n ∧ i = .int .i64 k ∧ 0 ≤ n ∧ n ≤ 2147483648 ∧ scanA 10 2147483648 s 1 0 = scanA 10 2147483648 s k n ∧ w = wr) (fun _ i _ => s.size - (intOf i).toNat)
  case atStart => exact ⟨1, 0, by omega, by omega, rfl, rfl, by omega, by omega, rfl, rfl⟩
  case round =>
    obtain ⟨k, n, hk, hak, rfl, rfl, hn0, hn1, hr, rfl⟩ := hrel
    have hr' := hid hr
    clear hr
    by_cases hlt : k < s.size
    · first
      | omega
      | have hx1 : (k : Int) < (s.size : Int) := by omega
        have hstep := hid (scan_step 10 2147483648 s k n hlt)
        have hby := hid (byt_eq s k hlt)
        have hbb := byt_bd s k
        have hpp := prod_bd n 10 2147483648 hn0 hn1 (by omega) (by omega) (by omega)
        have hxx := hx_bd (byt s k)
        have hD : Hid (digs 10 2147483648 s 1 = scanA 10 2147483648 s k n) := by unfold Hid digs; rw [if_neg (by omega)]; exact hr'.out
        have hdn := hid (dg_no (byt s k) 10)
        have hdi := hid (dg_iff (byt s k) 10)
        go_wp2_with fail
        rw [hby.out]
        clear hby
        generalize byt s k = c at *
        refine (hex53 c w hbb.1 hbb.2).mono ?_
        rintro e w1 ⟨rfl, rfl⟩
        generalize hx c = x at *
        generalize dg c 10 = d at *
        have hw1 : IntKind.u64.wrap (n * 10) = n * 10 := by rw [IntKind.wrap_u64]; omega
        by_cases h1 : x < 0
        · have hs1 : Hid (wordV s = (0, (k : Int), 40)) := by
            unfold Hid; rw [hV.out, hD.out, hstep.out, if_pos (hdn.out (.inl h1))]; exact fin_no (by decide)
          clear hpp
          go_wp2_with fail
          go_ret3
          exact ⟨trip3 hs1.out, rfl⟩
        · have hw3 : IntKind.u64.wrap x = x := by rw [IntKind.wrap_u64]; omega
          have hx0 : 0 ≤ x := by omega
          by_cases h2 : 10 ≤ x
          · have hs1 : Hid (wordV s = (0, (k : Int), 40)) := by
              unfold Hid; rw [hV.out, hD.out, hstep.out, if_pos (hdn.out (.inr h2))]; exact fin_no (by decide)
            clear hpp
            go_wp2_with fail
            go_ret3
            exact ⟨trip3 hs1.out, rfl⟩
          · obtain rfl : d = x := hdi.out (by omega) hx0
            have hw2 : IntKind.u64.wrap (n * 10 + d) = n * 10 + d := by rw [IntKind.wrap_u64]; omega
            by_cases h3 : 2147483648 < n * 10 + d
            · have hs1 : Hid (wordV s = (0, (k : Int), 41)) := by
                unfold Hid; rw [hV.out, hD.out, hstep.out, if_neg (by omega), if_pos h3]; exact fin_no (by decide)
              clear hpp
              go_wp2_with fail
              go_ret3
              exact ⟨trip3 hs1.out, rfl⟩
            · have hs1 : Hid (scanA 10 2147483648 s 1 0 = scanA 10 2147483648 s (k + 1) (n * 10 + d)) := by
                unfold Hid; rw [hr'.out, hstep.out, if_neg (by omega), if_neg h3]
              have h4 : n * 10 + d ≤ 2147483648 := by omega
              have h5 : 0 ≤ n * 10 + d := by omega
              clear hpp
              go_wp2_with fail
              go_roundw
              case rel => exact ⟨k + 1, n * 10 + d, by omega, by omega, rfl, by go_num, h5, h4, hs1.out, trivial⟩
              case measure => simp [intOf]; omega
    · obtain ⟨z, hz0⟩ : ∃ z, z = s.size := ⟨_, rfl⟩
      have hkz : k = z := by omega
      subst hkz
      by_cases h6 : k = 1
      · first
        | omega
        | have hs1 : Hid (wordV s = (0, 1, 40)) := by
            unfold Hid; rw [hV.out]; unfold digs; rw [if_pos (by omega)]; exact fin_no (by decide)
          have h7 : ((k : Int) == 1) = true := by rw [beq_iff_eq]; omega
          go_wp2_with fail
          go_ret3
          exact ⟨trip3 hs1.out, rfl⟩
      · first
        | omega
        | have hs1 : Hid (wordV s = ((4294967296 - n) % 4294967296, 0, 0)) := by
            unfold Hid; rw [hV.out]; unfold digs; rw [if_neg (by omega), hr'.out, scan_end _ _ _ _ _ hlt, fin_ok]; simp
          have h7 : ((k : Int) == 1) = false := by rw [beq_eq_false_iff_ne]; omega
          have hw4 : IntKind.u64.wrap (4294967296 - n) = 4294967296 - n := by rw [IntKind.wrap_u64]; omega
          have hw5 : IntKind.u32.wrap (4294967296 - n) = (4294967296 - n) % 4294967296 := by rw [IntKind.wrap_u32]
          go_wp2_with fail
          go_ret3
          exact ⟨trip3 (hs1.out.trans (by first | rfl | (congr 1; omega))), rfl⟩

set_option maxHeartbeats 2000000 in
theorem ref29X (s : ByteArray) (w : World) (hle : s.size ≤ 64) (hV : Hid (wordV s = finV false (digs 16 4294967295 s 2))) (h0 : 1 < s.size) (hb : (s[0].toNat : Int) = 48) (hc : (s[1].toNat : Int) = 120) :
    Calls Try.prog 29 #[.string s] w fun e w' => e = .returned (.tuple #[.int .u32 (wordV s).1, .int .i64 (wordV s).2.1, .int .i64 (wordV s).2.2]) ∧ w = w' := by
  have hz : 0 < s.size := by omega
  have he : ((s[0].toNat : Int) == 45) = false := by rw [beq_eq_false_iff_ne]; omega
  have hf : ((s[0].toNat : Int) == 48) = true := by rw [beq_iff_eq]; exact hb
  have hc1 : ((s[1].toNat : Int) == 120) = true := by rw [beq_iff_eq]; exact hc
  have hd1 : ((s[1].toNat : Int) == 98) = false := by rw [beq_eq_false_iff_ne]; omega
  clear hb hc
  go_enter Try.func29, Try.ntmps29
  go_wp2_with fail
  go_loopw [9, 10] (fun v i wr => ∃ (k : Nat) (n : Int), k ≤ s.size ∧ 2 ≤ k ∧ v = .int .u64 n ∧ i = .int .i64 k ∧ 0 ≤ n ∧ n ≤ 4294967295 ∧ scanA 16 4294967295 s 2 0 = scanA 16 4294967295 s k n ∧ w = wr) (fun _ i _ => s.size - (intOf i).toNat)
  case atStart => exact ⟨2, 0, by omega, by omega, rfl, rfl, by omega, by omega, rfl, rfl⟩
  case round =>
    obtain ⟨k, n, hk, hak, rfl, rfl, hn0, hn1, hr, rfl⟩ := hrel
    have hr' := hid hr
    clear hr
    by_cases hlt : k < s.size
    · first
      | omega
      | have hx1 : (k : Int) < (s.size : Int) := by omega
        have hstep := hid (scan_step 16 4294967295 s k n hlt)
        have hby := hid (byt_eq s k hlt)
        have hbb := byt_bd s k
        have hpp := prod_bd n 16 4294967295 hn0 hn1 (by omega) (by omega) (by omega)
        have hxx := hx_bd (byt s k)
        have hD : Hid (digs 16 4294967295 s 2 = scanA 16 4294967295 s k n) := by unfold Hid digs; rw [if_neg (by omega)]; exact hr'.out
        have hdn := hid (dg_no (byt s k) 16)
        have hdi := hid (dg_iff (byt s k) 16)
        go_wp2_with fail
        rw [hby.out]
        clear hby
        generalize byt s k = c at *
        refine (hex53 c w hbb.1 hbb.2).mono ?_
        rintro e w1 ⟨rfl, rfl⟩
        generalize hx c = x at *
        generalize dg c 16 = d at *
        have hw1 : IntKind.u64.wrap (n * 16) = n * 16 := by rw [IntKind.wrap_u64]; omega
        by_cases h1 : x < 0
        · have hs1 : Hid (wordV s = (0, (k : Int), 40)) := by
            unfold Hid; rw [hV.out, hD.out, hstep.out, if_pos (hdn.out (.inl h1))]; exact fin_no (by decide)
          clear hpp
          go_wp2_with fail
          go_ret3
          exact ⟨trip3 hs1.out, rfl⟩
        · have hw3 : IntKind.u64.wrap x = x := by rw [IntKind.wrap_u64]; omega
          have hx0 : 0 ≤ x := by omega
          by_cases h2 : 16 ≤ x
          · have hs1 : Hid (wordV s = (0, (k : Int), 40)) := by
              unfold Hid; rw [hV.out, hD.out, hstep.out, if_pos (hdn.out (.inr h2))]; exact fin_no (by decide)
            clear hpp
            go_wp2_with fail
            go_ret3
            exact ⟨trip3 hs1.out, rfl⟩
          · obtain rfl : d = x := hdi.out (by omega) hx0
            have hw2 : IntKind.u64.wrap (n * 16 + d) = n * 16 + d := by rw [IntKind.wrap_u64]; omega
            by_cases h3 : 4294967295 < n * 16 + d
            · have hs1 : Hid (wordV s = (0, (k : Int), 41)) := by
                unfold Hid; rw [hV.out, hD.out, hstep.out, if_neg (by omega), if_pos h3]; exact fin_no (by decide)
              clear hpp
              go_wp2_with fail
              go_ret3
              exact ⟨trip3 hs1.out, rfl⟩
            · have hs1 : Hid (scanA 16 4294967295 s 2 0 = scanA 16 4294967295 s (k + 1) (n * 16 + d)) := by
                unfold Hid; rw [hr'.out, hstep.out, if_neg (by omega), if_neg h3]
              have h4 : n * 16 + d ≤ 4294967295 := by omega
              have h5 : 0 ≤ n * 16 + d := by omega
              clear hpp
              go_wp2_with fail
              go_roundw
              case rel => exact ⟨k + 1, n * 16 + d, by omega, by omega, rfl, by go_num, h5, h4, hs1.out, trivial⟩
              case measure => simp [intOf]; omega
    · obtain ⟨z, hz0⟩ : ∃ z, z = s.size := ⟨_, rfl⟩
      have hkz : k = z := by omega
      subst hkz
      by_cases h6 : k = 2
      · first
        | omega
        | have hs1 : Hid (wordV s = (0, 2, 40)) := by
            unfold Hid; rw [hV.out]; unfold digs; rw [if_pos (by omega)]; exact fin_no (by decide)
          have h7 : ((k : Int) == 2) = true := by rw [beq_iff_eq]; omega
          go_wp2_with fail
          go_ret3
          exact ⟨trip3 hs1.out, rfl⟩
      · first
        | omega
        | have hs1 : Hid (wordV s = (n, 0, 0)) := by
            unfold Hid; rw [hV.out]; unfold digs; rw [if_neg (by omega), hr'.out, scan_end _ _ _ _ _ hlt, fin_ok]; simp
          have h7 : ((k : Int) == 2) = false := by rw [beq_eq_false_iff_ne]; omega
          have hw5 : IntKind.u32.wrap n = n := by rw [IntKind.wrap_u32]; omega
          go_wp2_with fail
          go_ret3
          exact ⟨trip3 (hs1.out.trans (by first | rfl | (congr 1; omega))), rfl⟩

set_option maxHeartbeats 2000000 in
theorem ref29B (s : ByteArray) (w : World) (hle : s.size ≤ 64) (hV : Hid (wordV s = finV false (digs 2 4294967295 s 2))) (h0 : 1 < s.size) (hb : (s[0].toNat : Int) = 48) (hc : (s[1].toNat : Int) = 98) :
    Calls Try.prog 29 #[.string s] w fun e w' => e = .returned (.tuple #[.int .u32 (wordV s).1, .int .i64 (wordV s).2.1, .int .i64 (wordV s).2.2]) ∧ w = w' := by
  have hz : 0 < s.size := by omega
  have he : ((s[0].toNat : Int) == 45) = false := by rw [beq_eq_false_iff_ne]; omega
  have hf : ((s[0].toNat : Int) == 48) = true := by rw [beq_iff_eq]; exact hb
  have hc1 : ((s[1].toNat : Int) == 120) = false := by rw [beq_eq_false_iff_ne]; omega
  have hd1 : ((s[1].toNat : Int) == 98) = true := by rw [beq_iff_eq]; exact hc
  clear hb hc
  go_enter Try.func29, Try.ntmps29
  go_wp2_with fail
  go_loopw [9, 10] (fun v i wr => ∃ (k : Nat) (n : Int), k ≤ s.size ∧ 2 ≤ k ∧ v = .int .u64 n ∧ i = .int .i64 k ∧ 0 ≤ n ∧ n ≤ 4294967295 ∧ scanA 2 4294967295 s 2 0 = scanA 2 4294967295 s k n ∧ w = wr) (fun _ i _ => s.size - (intOf i).toNat)
  case atStart => exact ⟨2, 0, by omega, by omega, rfl, rfl, by omega, by omega, rfl, rfl⟩
  case round =>
    obtain ⟨k, n, hk, hak, rfl, rfl, hn0, hn1, hr, rfl⟩ := hrel
    have hr' := hid hr
    clear hr
    by_cases hlt : k < s.size
    · first
      | omega
      | have hx1 : (k : Int) < (s.size : Int) := by omega
        have hstep := hid (scan_step 2 4294967295 s k n hlt)
        have hby := hid (byt_eq s k hlt)
        have hbb := byt_bd s k
        have hpp := prod_bd n 2 4294967295 hn0 hn1 (by omega) (by omega) (by omega)
        have hxx := hx_bd (byt s k)
        have hD : Hid (digs 2 4294967295 s 2 = scanA 2 4294967295 s k n) := by unfold Hid digs; rw [if_neg (by omega)]; exact hr'.out
        have hdn := hid (dg_no (byt s k) 2)
        have hdi := hid (dg_iff (byt s k) 2)
        go_wp2_with fail
        rw [hby.out]
        clear hby
        generalize byt s k = c at *
        refine (hex53 c w hbb.1 hbb.2).mono ?_
        rintro e w1 ⟨rfl, rfl⟩
        generalize hx c = x at *
        generalize dg c 2 = d at *
        have hw1 : IntKind.u64.wrap (n * 2) = n * 2 := by rw [IntKind.wrap_u64]; omega
        by_cases h1 : x < 0
        · have hs1 : Hid (wordV s = (0, (k : Int), 40)) := by
            unfold Hid; rw [hV.out, hD.out, hstep.out, if_pos (hdn.out (.inl h1))]; exact fin_no (by decide)
          clear hpp
          go_wp2_with fail
          go_ret3
          exact ⟨trip3 hs1.out, rfl⟩
        · have hw3 : IntKind.u64.wrap x = x := by rw [IntKind.wrap_u64]; omega
          have hx0 : 0 ≤ x := by omega
          by_cases h2 : 2 ≤ x
          · have hs1 : Hid (wordV s = (0, (k : Int), 40)) := by
              unfold Hid; rw [hV.out, hD.out, hstep.out, if_pos (hdn.out (.inr h2))]; exact fin_no (by decide)
            clear hpp
            go_wp2_with fail
            go_ret3
            exact ⟨trip3 hs1.out, rfl⟩
          · obtain rfl : d = x := hdi.out (by omega) hx0
            have hw2 : IntKind.u64.wrap (n * 2 + d) = n * 2 + d := by rw [IntKind.wrap_u64]; omega
            by_cases h3 : 4294967295 < n * 2 + d
            · have hs1 : Hid (wordV s = (0, (k : Int), 41)) := by
                unfold Hid; rw [hV.out, hD.out, hstep.out, if_neg (by omega), if_pos h3]; exact fin_no (by decide)
              clear hpp
              go_wp2_with fail
              go_ret3
              exact ⟨trip3 hs1.out, rfl⟩
            · have hs1 : Hid (scanA 2 4294967295 s 2 0 = scanA 2 4294967295 s (k + 1) (n * 2 + d)) := by
                unfold Hid; rw [hr'.out, hstep.out, if_neg (by omega), if_neg h3]
              have h4 : n * 2 + d ≤ 4294967295 := by omega
              have h5 : 0 ≤ n * 2 + d := by omega
              clear hpp
              go_wp2_with fail
              go_roundw
              case rel => exact ⟨k + 1, n * 2 + d, by omega, by omega, rfl, by go_num, h5, h4, hs1.out, trivial⟩
              case measure => simp [intOf]; omega
    · obtain ⟨z, hz0⟩ : ∃ z, z = s.size := ⟨_, rfl⟩
      have hkz : k = z := by omega
      subst hkz
      by_cases h6 : k = 2
      · first
        | omega
        | have hs1 : Hid (wordV s = (0, 2, 40)) := by
            unfold Hid; rw [hV.out]; unfold digs; rw [if_pos (by omega)]; exact fin_no (by decide)
          have h7 : ((k : Int) == 2) = true := by rw [beq_iff_eq]; omega
          go_wp2_with fail
          go_ret3
          exact ⟨trip3 hs1.out, rfl⟩
      · first
        | omega
        | have hs1 : Hid (wordV s = (n, 0, 0)) := by
            unfold Hid; rw [hV.out]; unfold digs; rw [if_neg (by omega), hr'.out, scan_end _ _ _ _ _ hlt, fin_ok]; simp
          have h7 : ((k : Int) == 2) = false := by rw [beq_eq_false_iff_ne]; omega
          have hw5 : IntKind.u32.wrap n = n := by rw [IntKind.wrap_u32]; omega
          go_wp2_with fail
          go_ret3
          exact ⟨trip3 (hs1.out.trans (by first | rfl | (congr 1; omega))), rfl⟩

set_option maxHeartbeats 2000000 in
theorem ref29N1 (s : ByteArray) (w : World) (hle : s.size ≤ 64) (hV : Hid (wordV s = finV false (digs 10 4294967295 s 0))) (h0 : s.size = 0) :
    Calls Try.prog 29 #[.string s] w fun e w' => e = .returned (.tuple #[.int .u32 (wordV s).1, .int .i64 (wordV s).2.1, .int .i64 (wordV s).2.2]) ∧ w = w' := by
  go_enter Try.func29, Try.ntmps29
  go_wp2_with fail
  go_loopw [9, 10] (fun v i wr => ∃ (k : Nat) (n : Int), k ≤ s.size ∧ 0 ≤ k ∧ v = .int .u64 n ∧ i = .int .i64 k ∧ 0 ≤ n ∧ n ≤ 4294967295 ∧ scanA 10 4294967295 s 0 0 = scanA 10 4294967295 s k n ∧ w = wr) (fun _ i _ => s.size - (intOf i).toNat)
  case atStart => exact ⟨0, 0, by omega, by omega, rfl, rfl, by omega, by omega, rfl, rfl⟩
  case round =>
    obtain ⟨k, n, hk, hak, rfl, rfl, hn0, hn1, hr, rfl⟩ := hrel
    have hr' := hid hr
    clear hr
    by_cases hlt : k < s.size
    · first
      | omega
      | have hx1 : (k : Int) < (s.size : Int) := by omega
        have hstep := hid (scan_step 10 4294967295 s k n hlt)
        have hby := hid (byt_eq s k hlt)
        have hbb := byt_bd s k
        have hpp := prod_bd n 10 4294967295 hn0 hn1 (by omega) (by omega) (by omega)
        have hxx := hx_bd (byt s k)
        have hD : Hid (digs 10 4294967295 s 0 = scanA 10 4294967295 s k n) := by unfold Hid digs; rw [if_neg (by omega)]; exact hr'.out
        have hdn := hid (dg_no (byt s k) 10)
        have hdi := hid (dg_iff (byt s k) 10)
        go_wp2_with fail
        rw [hby.out]
        clear hby
        generalize byt s k = c at *
        refine (hex53 c w hbb.1 hbb.2).mono ?_
        rintro e w1 ⟨rfl, rfl⟩
        generalize hx c = x at *
        generalize dg c 10 = d at *
        have hw1 : IntKind.u64.wrap (n * 10) = n * 10 := by rw [IntKind.wrap_u64]; omega
        by_cases h1 : x < 0
        · have hs1 : Hid (wordV s = (0, (k : Int), 40)) := by
            unfold Hid; rw [hV.out, hD.out, hstep.out, if_pos (hdn.out (.inl h1))]; exact fin_no (by decide)
          clear hpp
          go_wp2_with fail
          go_ret3
          exact ⟨trip3 hs1.out, rfl⟩
        · have hw3 : IntKind.u64.wrap x = x := by rw [IntKind.wrap_u64]; omega
          have hx0 : 0 ≤ x := by omega
          by_cases h2 : 10 ≤ x
          · have hs1 : Hid (wordV s = (0, (k : Int), 40)) := by
              unfold Hid; rw [hV.out, hD.out, hstep.out, if_pos (hdn.out (.inr h2))]; exact fin_no (by decide)
            clear hpp
            go_wp2_with fail
            go_ret3
            exact ⟨trip3 hs1.out, rfl⟩
          · obtain rfl : d = x := hdi.out (by omega) hx0
            have hw2 : IntKind.u64.wrap (n * 10 + d) = n * 10 + d := by rw [IntKind.wrap_u64]; omega
            by_cases h3 : 4294967295 < n * 10 + d
            · have hs1 : Hid (wordV s = (0, (k : Int), 41)) := by
                unfold Hid; rw [hV.out, hD.out, hstep.out, if_neg (by omega), if_pos h3]; exact fin_no (by decide)
              clear hpp
              go_wp2_with fail
              go_ret3
              exact ⟨trip3 hs1.out, rfl⟩
            · have hs1 : Hid (scanA 10 4294967295 s 0 0 = scanA 10 4294967295 s (k + 1) (n * 10 + d)) := by
                unfold Hid; rw [hr'.out, hstep.out, if_neg (by omega), if_neg h3]
              have h4 : n * 10 + d ≤ 4294967295 := by omega
              have h5 : 0 ≤ n * 10 + d := by omega
              clear hpp
              go_wp2_with fail
              go_roundw
              case rel => exact ⟨k + 1, n * 10 + d, by omega, by omega, rfl, by go_num, h5, h4, hs1.out, trivial⟩
              case measure => simp [intOf]; omega
    · obtain ⟨z, hz0⟩ : ∃ z, z = s.size := ⟨_, rfl⟩
      have hkz : k = z := by omega
      subst hkz
      by_cases h6 : k = 0
      · first
        | omega
        | have hs1 : Hid (wordV s = (0, 0, 40)) := by
            unfold Hid; rw [hV.out]; unfold digs; rw [if_pos (by omega)]; exact fin_no (by decide)
          have h7 : ((k : Int) == 0) = true := by rw [beq_iff_eq]; omega
          go_wp2_with fail
          go_ret3
          exact ⟨trip3 hs1.out, rfl⟩
      · first
        | omega
        | have hs1 : Hid (wordV s = (n, 0, 0)) := by
            unfold Hid; rw [hV.out]; unfold digs; rw [if_neg (by omega), hr'.out, scan_end _ _ _ _ _ hlt, fin_ok]; simp
          have h7 : ((k : Int) == 0) = false := by rw [beq_eq_false_iff_ne]; omega
          have hw5 : IntKind.u32.wrap n = n := by rw [IntKind.wrap_u32]; omega
          go_wp2_with fail
          go_ret3
          exact ⟨trip3 (hs1.out.trans (by first | rfl | (congr 1; omega))), rfl⟩

set_option maxHeartbeats 2000000 in
theorem ref29N2 (s : ByteArray) (w : World) (hle : s.size ≤ 64) (hV : Hid (wordV s = finV false (digs 10 4294967295 s 0))) (h0 : 0 < s.size) (h1 : ¬ 1 < s.size) (hb : (s[0].toNat : Int) ≠ 45) :
    Calls Try.prog 29 #[.string s] w fun e w' => e = .returned (.tuple #[.int .u32 (wordV s).1, .int .i64 (wordV s).2.1, .int .i64 (wordV s).2.2]) ∧ w = w' := by
  have he : ((s[0].toNat : Int) == 45) = false := by rw [beq_eq_false_iff_ne]; omega
  clear hb
  go_enter Try.func29, Try.ntmps29
  go_wp2_with fail
  go_loopw [9, 10] (fun v i wr => ∃ (k : Nat) (n : Int), k ≤ s.size ∧ 0 ≤ k ∧ v = .int .u64 n ∧ i = .int .i64 k ∧ 0 ≤ n ∧ n ≤ 4294967295 ∧ scanA 10 4294967295 s 0 0 = scanA 10 4294967295 s k n ∧ w = wr) (fun _ i _ => s.size - (intOf i).toNat)
  case atStart => exact ⟨0, 0, by omega, by omega, rfl, rfl, by omega, by omega, rfl, rfl⟩
  case round =>
    obtain ⟨k, n, hk, hak, rfl, rfl, hn0, hn1, hr, rfl⟩ := hrel
    have hr' := hid hr
    clear hr
    by_cases hlt : k < s.size
    · first
      | omega
      | have hx1 : (k : Int) < (s.size : Int) := by omega
        have hstep := hid (scan_step 10 4294967295 s k n hlt)
        have hby := hid (byt_eq s k hlt)
        have hbb := byt_bd s k
        have hpp := prod_bd n 10 4294967295 hn0 hn1 (by omega) (by omega) (by omega)
        have hxx := hx_bd (byt s k)
        have hD : Hid (digs 10 4294967295 s 0 = scanA 10 4294967295 s k n) := by unfold Hid digs; rw [if_neg (by omega)]; exact hr'.out
        have hdn := hid (dg_no (byt s k) 10)
        have hdi := hid (dg_iff (byt s k) 10)
        go_wp2_with fail
        rw [hby.out]
        clear hby
        generalize byt s k = c at *
        refine (hex53 c w hbb.1 hbb.2).mono ?_
        rintro e w1 ⟨rfl, rfl⟩
        generalize hx c = x at *
        generalize dg c 10 = d at *
        have hw1 : IntKind.u64.wrap (n * 10) = n * 10 := by rw [IntKind.wrap_u64]; omega
        by_cases h1 : x < 0
        · have hs1 : Hid (wordV s = (0, (k : Int), 40)) := by
            unfold Hid; rw [hV.out, hD.out, hstep.out, if_pos (hdn.out (.inl h1))]; exact fin_no (by decide)
          clear hpp
          go_wp2_with fail
          go_ret3
          exact ⟨trip3 hs1.out, rfl⟩
        · have hw3 : IntKind.u64.wrap x = x := by rw [IntKind.wrap_u64]; omega
          have hx0 : 0 ≤ x := by omega
          by_cases h2 : 10 ≤ x
          · have hs1 : Hid (wordV s = (0, (k : Int), 40)) := by
              unfold Hid; rw [hV.out, hD.out, hstep.out, if_pos (hdn.out (.inr h2))]; exact fin_no (by decide)
            clear hpp
            go_wp2_with fail
            go_ret3
            exact ⟨trip3 hs1.out, rfl⟩
          · obtain rfl : d = x := hdi.out (by omega) hx0
            have hw2 : IntKind.u64.wrap (n * 10 + d) = n * 10 + d := by rw [IntKind.wrap_u64]; omega
            by_cases h3 : 4294967295 < n * 10 + d
            · have hs1 : Hid (wordV s = (0, (k : Int), 41)) := by
                unfold Hid; rw [hV.out, hD.out, hstep.out, if_neg (by omega), if_pos h3]; exact fin_no (by decide)
              clear hpp
              go_wp2_with fail
              go_ret3
              exact ⟨trip3 hs1.out, rfl⟩
            · have hs1 : Hid (scanA 10 4294967295 s 0 0 = scanA 10 4294967295 s (k + 1) (n * 10 + d)) := by
                unfold Hid; rw [hr'.out, hstep.out, if_neg (by omega), if_neg h3]
              have h4 : n * 10 + d ≤ 4294967295 := by omega
              have h5 : 0 ≤ n * 10 + d := by omega
              clear hpp
              go_wp2_with fail
              go_roundw
              case rel => exact ⟨k + 1, n * 10 + d, by omega, by omega, rfl, by go_num, h5, h4, hs1.out, trivial⟩
              case measure => simp [intOf]; omega
    · obtain ⟨z, hz0⟩ : ∃ z, z = s.size := ⟨_, rfl⟩
      have hkz : k = z := by omega
      subst hkz
      by_cases h6 : k = 0
      · first
        | omega
        | have hs1 : Hid (wordV s = (0, 0, 40)) := by
            unfold Hid; rw [hV.out]; unfold digs; rw [if_pos (by omega)]; exact fin_no (by decide)
          have h7 : ((k : Int) == 0) = true := by rw [beq_iff_eq]; omega
          go_wp2_with fail
          go_ret3
          exact ⟨trip3 hs1.out, rfl⟩
      · first
        | omega
        | have hs1 : Hid (wordV s = (n, 0, 0)) := by
            unfold Hid; rw [hV.out]; unfold digs; rw [if_neg (by omega), hr'.out, scan_end _ _ _ _ _ hlt, fin_ok]; simp
          have h7 : ((k : Int) == 0) = false := by rw [beq_eq_false_iff_ne]; omega
          have hw5 : IntKind.u32.wrap n = n := by rw [IntKind.wrap_u32]; omega
          go_wp2_with fail
          go_ret3
          exact ⟨trip3 (hs1.out.trans (by first | rfl | (congr 1; omega))), rfl⟩

set_option maxHeartbeats 2000000 in
theorem ref29N3 (s : ByteArray) (w : World) (hle : s.size ≤ 64) (hV : Hid (wordV s = finV false (digs 10 4294967295 s 0))) (h0 : 1 < s.size) (hb : (s[0].toNat : Int) = 48) (hc : (s[1].toNat : Int) ≠ 120) (hd : (s[1].toNat : Int) ≠ 98) :
    Calls Try.prog 29 #[.string s] w fun e w' => e = .returned (.tuple #[.int .u32 (wordV s).1, .int .i64 (wordV s).2.1, .int .i64 (wordV s).2.2]) ∧ w = w' := by
  have hz : 0 < s.size := by omega
  have he : ((s[0].toNat : Int) == 45) = false := by rw [beq_eq_false_iff_ne]; omega
  have hf : ((s[0].toNat : Int) == 48) = true := by rw [beq_iff_eq]; exact hb
  have hc1 : ((s[1].toNat : Int) == 120) = false := by rw [beq_eq_false_iff_ne]; exact hc
  have hd1 : ((s[1].toNat : Int) == 98) = false := by rw [beq_eq_false_iff_ne]; exact hd
  clear hb hc hd
  go_enter Try.func29, Try.ntmps29
  go_wp2_with fail
  go_loopw [9, 10] (fun v i wr => ∃ (k : Nat) (n : Int), k ≤ s.size ∧ 0 ≤ k ∧ v = .int .u64 n ∧ i = .int .i64 k ∧ 0 ≤ n ∧ n ≤ 4294967295 ∧ scanA 10 4294967295 s 0 0 = scanA 10 4294967295 s k n ∧ w = wr) (fun _ i _ => s.size - (intOf i).toNat)
  case atStart => exact ⟨0, 0, by omega, by omega, rfl, rfl, by omega, by omega, rfl, rfl⟩
  case round =>
    obtain ⟨k, n, hk, hak, rfl, rfl, hn0, hn1, hr, rfl⟩ := hrel
    have hr' := hid hr
    clear hr
    by_cases hlt : k < s.size
    · first
      | omega
      | have hx1 : (k : Int) < (s.size : Int) := by omega
        have hstep := hid (scan_step 10 4294967295 s k n hlt)
        have hby := hid (byt_eq s k hlt)
        have hbb := byt_bd s k
        have hpp := prod_bd n 10 4294967295 hn0 hn1 (by omega) (by omega) (by omega)
        have hxx := hx_bd (byt s k)
        have hD : Hid (digs 10 4294967295 s 0 = scanA 10 4294967295 s k n) := by unfold Hid digs; rw [if_neg (by omega)]; exact hr'.out
        have hdn := hid (dg_no (byt s k) 10)
        have hdi := hid (dg_iff (byt s k) 10)
        go_wp2_with fail
        rw [hby.out]
        clear hby
        generalize byt s k = c at *
        refine (hex53 c w hbb.1 hbb.2).mono ?_
        rintro e w1 ⟨rfl, rfl⟩
        generalize hx c = x at *
        generalize dg c 10 = d at *
        have hw1 : IntKind.u64.wrap (n * 10) = n * 10 := by rw [IntKind.wrap_u64]; omega
        by_cases h1 : x < 0
        · have hs1 : Hid (wordV s = (0, (k : Int), 40)) := by
            unfold Hid; rw [hV.out, hD.out, hstep.out, if_pos (hdn.out (.inl h1))]; exact fin_no (by decide)
          clear hpp
          go_wp2_with fail
          go_ret3
          exact ⟨trip3 hs1.out, rfl⟩
        · have hw3 : IntKind.u64.wrap x = x := by rw [IntKind.wrap_u64]; omega
          have hx0 : 0 ≤ x := by omega
          by_cases h2 : 10 ≤ x
          · have hs1 : Hid (wordV s = (0, (k : Int), 40)) := by
              unfold Hid; rw [hV.out, hD.out, hstep.out, if_pos (hdn.out (.inr h2))]; exact fin_no (by decide)
            clear hpp
            go_wp2_with fail
            go_ret3
            exact ⟨trip3 hs1.out, rfl⟩
          · obtain rfl : d = x := hdi.out (by omega) hx0
            have hw2 : IntKind.u64.wrap (n * 10 + d) = n * 10 + d := by rw [IntKind.wrap_u64]; omega
            by_cases h3 : 4294967295 < n * 10 + d
            · have hs1 : Hid (wordV s = (0, (k : Int), 41)) := by
                unfold Hid; rw [hV.out, hD.out, hstep.out, if_neg (by omega), if_pos h3]; exact fin_no (by decide)
              clear hpp
              go_wp2_with fail
              go_ret3
              exact ⟨trip3 hs1.out, rfl⟩
            · have hs1 : Hid (scanA 10 4294967295 s 0 0 = scanA 10 4294967295 s (k + 1) (n * 10 + d)) := by
                unfold Hid; rw [hr'.out, hstep.out, if_neg (by omega), if_neg h3]
              have h4 : n * 10 + d ≤ 4294967295 := by omega
              have h5 : 0 ≤ n * 10 + d := by omega
              clear hpp
              go_wp2_with fail
              go_roundw
              case rel => exact ⟨k + 1, n * 10 + d, by omega, by omega, rfl, by go_num, h5, h4, hs1.out, trivial⟩
              case measure => simp [intOf]; omega
    · obtain ⟨z, hz0⟩ : ∃ z, z = s.size := ⟨_, rfl⟩
      have hkz : k = z := by omega
      subst hkz
      by_cases h6 : k = 0
      · first
        | omega
        | have hs1 : Hid (wordV s = (0, 0, 40)) := by
            unfold Hid; rw [hV.out]; unfold digs; rw [if_pos (by omega)]; exact fin_no (by decide)
          have h7 : ((k : Int) == 0) = true := by rw [beq_iff_eq]; omega
          go_wp2_with fail
          go_ret3
          exact ⟨trip3 hs1.out, rfl⟩
      · first
        | omega
        | have hs1 : Hid (wordV s = (n, 0, 0)) := by
            unfold Hid; rw [hV.out]; unfold digs; rw [if_neg (by omega), hr'.out, scan_end _ _ _ _ _ hlt, fin_ok]; simp
          have h7 : ((k : Int) == 0) = false := by rw [beq_eq_false_iff_ne]; omega
          have hw5 : IntKind.u32.wrap n = n := by rw [IntKind.wrap_u32]; omega
          go_wp2_with fail
          go_ret3
          exact ⟨trip3 (hs1.out.trans (by first | rfl | (congr 1; omega))), rfl⟩

set_option maxHeartbeats 2000000 in
theorem ref29N4 (s : ByteArray) (w : World) (hle : s.size ≤ 64) (hV : Hid (wordV s = finV false (digs 10 4294967295 s 0))) (h0 : 1 < s.size) (hb : (s[0].toNat : Int) ≠ 45) (hc : (s[0].toNat : Int) ≠ 48) :
    Calls Try.prog 29 #[.string s] w fun e w' => e = .returned (.tuple #[.int .u32 (wordV s).1, .int .i64 (wordV s).2.1, .int .i64 (wordV s).2.2]) ∧ w = w' := by
  have hz : 0 < s.size := by omega
  have he : ((s[0].toNat : Int) == 45) = false := by rw [beq_eq_false_iff_ne]; exact hb
  have hf : ((s[0].toNat : Int) == 48) = false := by rw [beq_eq_false_iff_ne]; exact hc
  clear hb hc
  go_enter Try.func29, Try.ntmps29
  go_wp2_with fail
  go_loopw [9, 10] (fun v i wr => ∃ (k : Nat) (n : Int), k ≤ s.size ∧ 0 ≤ k ∧ v = .int .u64 n ∧ i = .int .i64 k ∧ 0 ≤ n ∧ n ≤ 4294967295 ∧ scanA 10 4294967295 s 0 0 = scanA 10 4294967295 s k n ∧ w = wr) (fun _ i _ => s.size - (intOf i).toNat)
  case atStart => exact ⟨0, 0, by omega, by omega, rfl, rfl, by omega, by omega, rfl, rfl⟩
  case round =>
    obtain ⟨k, n, hk, hak, rfl, rfl, hn0, hn1, hr, rfl⟩ := hrel
    have hr' := hid hr
    clear hr
    by_cases hlt : k < s.size
    · first
      | omega
      | have hx1 : (k : Int) < (s.size : Int) := by omega
        have hstep := hid (scan_step 10 4294967295 s k n hlt)
        have hby := hid (byt_eq s k hlt)
        have hbb := byt_bd s k
        have hpp := prod_bd n 10 4294967295 hn0 hn1 (by omega) (by omega) (by omega)
        have hxx := hx_bd (byt s k)
        have hD : Hid (digs 10 4294967295 s 0 = scanA 10 4294967295 s k n) := by unfold Hid digs; rw [if_neg (by omega)]; exact hr'.out
        have hdn := hid (dg_no (byt s k) 10)
        have hdi := hid (dg_iff (byt s k) 10)
        go_wp2_with fail
        rw [hby.out]
        clear hby
        generalize byt s k = c at *
        refine (hex53 c w hbb.1 hbb.2).mono ?_
        rintro e w1 ⟨rfl, rfl⟩
        generalize hx c = x at *
        generalize dg c 10 = d at *
        have hw1 : IntKind.u64.wrap (n * 10) = n * 10 := by rw [IntKind.wrap_u64]; omega
        by_cases h1 : x < 0
        · have hs1 : Hid (wordV s = (0, (k : Int), 40)) := by
            unfold Hid; rw [hV.out, hD.out, hstep.out, if_pos (hdn.out (.inl h1))]; exact fin_no (by decide)
          clear hpp
          go_wp2_with fail
          go_ret3
          exact ⟨trip3 hs1.out, rfl⟩
        · have hw3 : IntKind.u64.wrap x = x := by rw [IntKind.wrap_u64]; omega
          have hx0 : 0 ≤ x := by omega
          by_cases h2 : 10 ≤ x
          · have hs1 : Hid (wordV s = (0, (k : Int), 40)) := by
              unfold Hid; rw [hV.out, hD.out, hstep.out, if_pos (hdn.out (.inr h2))]; exact fin_no (by decide)
            clear hpp
            go_wp2_with fail
            go_ret3
            exact ⟨trip3 hs1.out, rfl⟩
          · obtain rfl : d = x := hdi.out (by omega) hx0
            have hw2 : IntKind.u64.wrap (n * 10 + d) = n * 10 + d := by rw [IntKind.wrap_u64]; omega
            by_cases h3 : 4294967295 < n * 10 + d
            · have hs1 : Hid (wordV s = (0, (k : Int), 41)) := by
                unfold Hid; rw [hV.out, hD.out, hstep.out, if_neg (by omega), if_pos h3]; exact fin_no (by decide)
              clear hpp
              go_wp2_with fail
              go_ret3
              exact ⟨trip3 hs1.out, rfl⟩
            · have hs1 : Hid (scanA 10 4294967295 s 0 0 = scanA 10 4294967295 s (k + 1) (n * 10 + d)) := by
                unfold Hid; rw [hr'.out, hstep.out, if_neg (by omega), if_neg h3]
              have h4 : n * 10 + d ≤ 4294967295 := by omega
              have h5 : 0 ≤ n * 10 + d := by omega
              clear hpp
              go_wp2_with fail
              go_roundw
              case rel => exact ⟨k + 1, n * 10 + d, by omega, by omega, rfl, by go_num, h5, h4, hs1.out, trivial⟩
              case measure => simp [intOf]; omega
    · obtain ⟨z, hz0⟩ : ∃ z, z = s.size := ⟨_, rfl⟩
      have hkz : k = z := by omega
      subst hkz
      by_cases h6 : k = 0
      · first
        | omega
        | have hs1 : Hid (wordV s = (0, 0, 40)) := by
            unfold Hid; rw [hV.out]; unfold digs; rw [if_pos (by omega)]; exact fin_no (by decide)
          have h7 : ((k : Int) == 0) = true := by rw [beq_iff_eq]; omega
          go_wp2_with fail
          go_ret3
          exact ⟨trip3 hs1.out, rfl⟩
      · first
        | omega
        | have hs1 : Hid (wordV s = (n, 0, 0)) := by
            unfold Hid; rw [hV.out]; unfold digs; rw [if_neg (by omega), hr'.out, scan_end _ _ _ _ _ hlt, fin_ok]; simp
          have h7 : ((k : Int) == 0) = false := by rw [beq_eq_false_iff_ne]; omega
          have hw5 : IntKind.u32.wrap n = n := by rw [IntKind.wrap_u32]; omega
          go_wp2_with fail
          go_ret3
          exact ⟨trip3 (hs1.out.trans (by first | rfl | (congr 1; omega))), rfl⟩

theorem ref29 (s : ByteArray) (w : World) (hs : s.size ≤ 9223372036854775807) :
    Calls Try.prog 29 #[.string s] w fun e w' => e = .returned (.tuple #[.int .u32 (wordV s).1, .int .i64 (wordV s).2.1, .int .i64 (wordV s).2.2]) ∧ w = w' := by
  by_cases h : 64 < s.size
  · have hr : Hid (wordV s = (0, 64, 42)) := by unfold Hid wordV; rw [if_pos h]
    go_enter Try.func29, Try.ntmps29
    go_wp2_with fail
    go_ret3
    exact ⟨trip3 hr.out, rfl⟩
  · have hle : s.size ≤ 64 := by omega
    have y0 : ∀ h : 0 < s.size, byt s 0 = (s[0].toNat : Int) := fun h => (byt_eq s 0 h).symm
    have y1 : ∀ h : 1 < s.size, byt s 1 = (s[1].toNat : Int) := fun h => (byt_eq s 1 h).symm
    by_cases h0 : 0 < s.size
    · have e0 := y0 h0
      by_cases hm : (s[0].toNat : Int) = 45
      · refine ref29M s w hle ?_ h0 hm
        unfold Hid wordV
        rw [if_neg h, if_pos (show isM s by unfold isM; omega)]
      · have nM : ¬ isM s := by unfold isM; omega
        by_cases h1 : 1 < s.size
        · have e1 := y1 h1
          by_cases h48 : (s[0].toNat : Int) = 48
          · by_cases hx : (s[1].toNat : Int) = 120
            · refine ref29X s w hle ?_ h1 h48 hx
              unfold Hid wordV
              rw [if_neg h, if_neg nM, if_pos (show isX s by unfold isX; omega)]
            · have nX : ¬ isX s := by unfold isX; omega
              by_cases hb : (s[1].toNat : Int) = 98
              · refine ref29B s w hle ?_ h1 h48 hb
                unfold Hid wordV
                rw [if_neg h, if_neg nM, if_neg nX, if_pos (show isB s by unfold isB; omega)]
              · refine ref29N3 s w hle ?_ h1 h48 hx hb
                unfold Hid wordV
                rw [if_neg h, if_neg nM, if_neg nX, if_neg (show ¬ isB s by unfold isB; omega)]
          · refine ref29N4 s w hle ?_ h1 hm h48
            unfold Hid wordV
            rw [if_neg h, if_neg nM, if_neg (show ¬ isX s by unfold isX; omega), if_neg (show ¬ isB s by unfold isB; omega)]
        · refine ref29N2 s w hle ?_ h0 h1 hm
          unfold Hid wordV
          rw [if_neg h, if_neg nM, if_neg (show ¬ isX s by unfold isX; omega), if_neg (show ¬ isB s by unfold isB; omega)]
    · refine ref29N1 s w hle ?_ (by omega)
      unfold Hid wordV
      rw [if_neg h, if_neg (show ¬ isM s by unfold isM; omega), if_neg (show ¬ isX s by unfold isX; omega), if_neg (show ¬ isB s by unfold isB; omega)]
end Go.Proofs.Ytmbdlhgclkbdiaa
