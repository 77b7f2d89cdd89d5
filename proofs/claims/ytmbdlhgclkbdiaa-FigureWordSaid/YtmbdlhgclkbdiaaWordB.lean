/- Walks: FigureWord: digits. -/
import Derived.Test.YtmbdlhgclkbdiaaWordA
import Derived.OwnWalk
namespace Go.Proofs.Ytmbdlhgclkbdiaa
open Go.RowKit
set_option linter.unusedVariables false
set_option linter.unusedSimpArgs false

def byt (s : ByteArray) (k : Nat) : Int := if h : k < s.size then (s[k].toNat : Int) else 0
theorem byt_eq (s : ByteArray) (k : Nat) (h : k < s.size) : (s[k].toNat : Int) = byt s k := by unfold byt; rw [dif_pos h]
theorem byt_bd (s : ByteArray) (k : Nat) : 0 ≤ byt s k ∧ byt s k ≤ 255 := by
  unfold byt; split
  · rename_i h; have := (s[k]).toNat_lt; omega
  · omega
theorem dg_bd (c base : Int) (h : 0 ≤ base) : 0 ≤ dg c base ∧ dg c base ≤ base := by unfold dg; split <;> omega

def scan (base lim : Int) (s : ByteArray) : Nat → Nat → Int → Int × Int × Int
  | 0, _, n => (n, 0, 0)
  | f + 1, k, n => if dg (byt s k) base = base then (0, k, 40) else if lim < n * base + dg (byt s k) base then (0, k, 41) else scan base lim s f (k + 1) (n * base + dg (byt s k) base)
def scanA (base lim : Int) (s : ByteArray) (k : Nat) (n : Int) : Int × Int × Int := scan base lim s (s.size - k) k n
theorem scan_step (base lim : Int) (s : ByteArray) (k : Nat) (n : Int) (h : k < s.size) : scanA base lim s k n = if dg (byt s k) base = base then (0, (k : Int), 40) else if lim < n * base + dg (byt s k) base then (0, (k : Int), 41) else scanA base lim s (k + 1) (n * base + dg (byt s k) base) := by
  unfold scanA
  rw [show s.size - k = (s.size - (k + 1)) + 1 by omega]
  rfl
theorem scan_end (base lim : Int) (s : ByteArray) (k : Nat) (n : Int) (h : ¬ k < s.size) : scanA base lim s k n = (n, 0, 0) := by
  unfold scanA
  rw [show s.size - k = 0 by omega]
  rfl
def digs (base lim : Int) (s : ByteArray) (k : Nat) : Int × Int × Int := if k = s.size then (0, (k : Int), 40) else scanA base lim s k 0
theorem prod_bd (n base lim : Int) (h0 : 0 ≤ n) (h1 : n ≤ lim) (hl : lim ≤ 4294967295) (b0 : 0 ≤ base) (b1 : base ≤ 16) : 0 ≤ n * base ∧ n * base ≤ 68719476720 := by
  refine ⟨Int.mul_nonneg h0 b0, ?_⟩
  have : n * base ≤ 4294967295 * 16 := Int.mul_le_mul (by omega) b1 b0 (by omega)
  omega
theorem trip {x y z : Int} {r : Int × Int × Int} (h : r = (x, y, z)) : Ending.returned (.tuple #[.int .u64 x, .int .i64 y, .int .i64 z]) = .returned (.tuple #[.int .u64 r.1, .int .i64 r.2.1, .int .i64 r.2.2]) := by rw [h]

set_option maxHeartbeats 1000000 in
theorem digits52 (s : ByteArray) (a : Nat) (base lim : Int) (w : World) (hs : s.size ≤ 64) (ha : a ≤ s.size) (hb0 : 0 ≤ base) (hb1 : base ≤ 16) (hl : 0 ≤ lim) (hl2 : lim ≤ 4294967295) :
    Calls Try.prog 52 #[.string s, .int .i64 a, .int .u64 base, .int .u64 lim] w fun e w' => e = .returned (.tuple #[.int .u64 (digs base lim s a).1, .int .i64 (digs base lim s a).2.1, .int .i64 (digs base lim s a).2.2]) ∧ w = w' := by
  by_cases h : a = s.size
  · have hr : Hid (digs base lim s a = (0, (a : Int), 40)) := by unfold Hid digs; rw [if_pos h]
    have hq : ((a : Int) == (s.size : Int)) = true := by rw [beq_iff_eq]; omega
    clear h
    go_enter Try.func52, Try.ntmps52
    go_wp2_with fail
    go_ret3
    exact ⟨trip hr.out, rfl⟩
  · have hr : Hid (digs base lim s a = scanA base lim s a 0) := by unfold Hid digs; rw [if_neg h]
    have hq : ((a : Int) == (s.size : Int)) = false := by rw [beq_eq_false_iff_ne]; omega
    clear h
    go_enter Try.func52, Try.ntmps52
    go_wp2_with fail
    go_loopw [1, 11] (fun i v wr => ∃ (k : Nat) (n : Int), k ≤ s.size ∧ i = .int .i64 k ∧ v = .int .u64 n ∧ 0 ≤ n ∧ n ≤ lim ∧ digs base lim s a = scanA base lim s k n ∧ w = wr) (fun i _ _ => s.size - (intOf i).toNat)
    case atStart => exact ⟨a, 0, ha, rfl, rfl, by omega, hl, hr.out, rfl⟩
    case round =>
      clear hr
      obtain ⟨k, n, hk, rfl, rfl, hn0, hn1, hr, rfl⟩ := hrel
      have hr' := hid hr
      clear hr
      by_cases hlt : k < s.size
      · have hx1 : (k : Int) < (s.size : Int) := by omega
        have hstep := hid (scan_step base lim s k n hlt)
        have hby := hid (byt_eq s k hlt)
        have hbb := byt_bd s k
        have hdd := dg_bd (byt s k) base hb0
        have hpp := prod_bd n base lim hn0 hn1 hl2 hb0 hb1
        go_wp2_with fail
        rw [hby.out]
        clear hby
        generalize byt s k = c at *
        refine (digit63 c base w hbb.1 hbb.2 hb0 hb1).mono ?_
        rintro e w1 ⟨rfl, rfl⟩
        generalize dg c base = d at *
        have hw1 : IntKind.u64.wrap (n * base) = n * base := by rw [IntKind.wrap_u64]; omega
        have hw2 : IntKind.u64.wrap (n * base + d) = n * base + d := by rw [IntKind.wrap_u64]; omega
        have hpp' := hid hpp
        by_cases h1 : d = base
        · have hs1 : Hid (digs base lim s a = (0, (k : Int), 40)) := by unfold Hid; rw [hr'.out, hstep.out, if_pos h1]
          have he : (d == base) = true := by rw [beq_iff_eq]; exact h1
          clear h1 hpp
          go_wp2_with fail
          go_ret3
          exact ⟨trip hs1.out, rfl⟩
        · have he : (d == base) = false := by rw [beq_eq_false_iff_ne]; exact h1
          by_cases h2 : lim < n * base + d
          · have hs1 : Hid (digs base lim s a = (0, (k : Int), 41)) := by unfold Hid; rw [hr'.out, hstep.out, if_neg h1, if_pos h2]
            clear h1 hpp
            go_wp2_with fail
            go_ret3
            exact ⟨trip hs1.out, rfl⟩
          · have hs1 : Hid (digs base lim s a = scanA base lim s (k + 1) (n * base + d)) := by unfold Hid; rw [hr'.out, hstep.out, if_neg h1, if_neg h2]
            clear h1 hpp
            have h3 : n * base + d ≤ lim := by omega
            have h4 := hid hdd
            clear hdd
            go_wp2_with fail
            go_roundw
            case rel => exact ⟨k + 1, n * base + d, by omega, by go_num, rfl, by have := hpp'.out; have := h4.out; omega, h3, hs1.out, trivial⟩
            case measure => simp [intOf]; omega
      · have hs1 : Hid (digs base lim s a = (n, 0, 0)) := by unfold Hid; rw [hr'.out, scan_end _ _ _ _ _ hlt]
        go_wp2_with fail
        go_ret3
        exact ⟨trip hs1.out, rfl⟩
end Go.Proofs.Ytmbdlhgclkbdiaa
