/- Walks: figure.Word of the program. -/
import Derived.OwnWalk
import Derived.Test.YtmbdlhgclkbdiaaDoorKit
import Derived.Test.YtmbdlhgclkbdiaaDoorProg
namespace Go.Proofs.YtmbdlhgclkbdiaaDoor
open Go.RowKit
set_option linter.unusedVariables false
set_option linter.unusedSimpArgs false

def pre (s p : ByteArray) : Bool := decide (p.size ≤ s.size) && ((s.extract 0 p.size).toList == p.toList)

set_option maxHeartbeats 1000000 in
theorem prefix24 (s p : ByteArray) (w : World) (hs : s.size ≤ 140737488355328) (hp : p.size ≤ 2) : Calls Tryd.prog 24 #[.string s, .string p] w fun e w' => e = .returned (.bool (pre s p)) ∧ w = w' := by
  by_cases h : p.size ≤ s.size
  · have hr : Hid (((s.extract 0 p.size).toList == p.toList) = pre s p) := by unfold Hid pre; simp [h]
    go_enter Tryd.func24, Tryd.ntmps24
    go_wp2_with fail
    rw [hr.out]
    go_ret
    exact ⟨rfl, rfl⟩
  · have hr : Hid (false = pre s p) := by unfold Hid pre; simp [h]
    go_enter Tryd.func24, Tryd.ntmps24
    go_wp2_with fail
    rw [hr.out]
    go_ret
    exact ⟨rfl, rfl⟩
theorem prefix15 (s p : ByteArray) (w : World) (hs : s.size ≤ 140737488355328) (hp : p.size ≤ 2) : Calls Tryd.prog 15 #[.string s, .string p] w fun e w' => e = .returned (.bool (pre s p)) ∧ w = w' := by
  go_enter Tryd.func15, Tryd.ntmps15
  go_wp2_with fail
  refine (prefix24 s p w hs hp).mono ?_
  rintro e w1 ⟨rfl, rfl⟩
  go_wp2_with fail
  go_ret
  exact ⟨rfl, rfl⟩

def hx (c : Int) : Int := if 48 ≤ c ∧ c ≤ 57 then c - 48 else if 97 ≤ c ∧ c ≤ 102 then c - 87 else if 65 ≤ c ∧ c ≤ 70 then c - 55 else -1

def dg (c base : Int) : Int := if hx c < 0 ∨ base ≤ hx c then base else hx c

set_option maxHeartbeats 1000000 in
theorem digit25 (c base : Int) (w : World) (h0 : 0 ≤ c) (h1 : c ≤ 255) (h2 : 0 ≤ base) (h3 : base ≤ 16) : Calls Tryd.prog 25 #[.int .u8 c, .int .u64 base] w fun e w' => e = .returned (.int .u64 (dg c base)) ∧ w = w' := by
  by_cases a : 48 ≤ c ∧ c ≤ 57
  · have hr : hx c = c - 48 := by unfold hx; rw [if_pos a]
    obtain ⟨a1, a2⟩ := a
    go_enter Tryd.func25, Tryd.ntmps25
    go_wp2_with fail
    all_goals
      go_ret
      exact ⟨ret_int (by unfold dg; rw [hr]; split <;> omega), rfl⟩
  · by_cases b : 97 ≤ c ∧ c ≤ 102
    · have hr : hx c = c - 87 := by unfold hx; rw [if_neg a, if_pos b]
      obtain ⟨b1, b2⟩ := b
      clear a
      have hw : IntKind.u64.wrap (c - 97 + 10) = c - 87 := by rw [IntKind.wrap_u64]; omega
      have nb : 57 < c := by omega
      go_enter Tryd.func25, Tryd.ntmps25
      go_wp2_with fail
      all_goals
        go_ret
        exact ⟨ret_int (by unfold dg; rw [hr]; split <;> omega), rfl⟩
    · by_cases d : 65 ≤ c ∧ c ≤ 70
      · have hr : hx c = c - 55 := by unfold hx; rw [if_neg a, if_neg b, if_pos d]
        obtain ⟨b1, b2⟩ := d
        have nb : c < 97 := by omega
        have nc : 57 < c := by omega
        clear a b
        have hw : IntKind.u64.wrap (c - 65 + 10) = c - 55 := by rw [IntKind.wrap_u64]; omega
        go_enter Tryd.func25, Tryd.ntmps25
        go_wp2_with fail
        all_goals
          go_ret
          exact ⟨ret_int (by unfold dg; rw [hr]; split <;> omega), rfl⟩
      · have hr : hx c = -1 := by unfold hx; rw [if_neg a, if_neg b, if_neg d]
        have b' := hid b
        have d' := hid d
        have a' := hid a
        clear a b d
        have cases : (c < 48) ∨ (57 < c ∧ c < 65) ∨ (70 < c ∧ c < 97) ∨ (102 < c) := by have := b'.out; have := d'.out; have := a'.out; omega
        go_enter Tryd.func25, Tryd.ntmps25
        rcases cases with q | ⟨q1, q2⟩ | ⟨q1, q2⟩ | q
        all_goals
          go_wp2_with fail
          go_ret
          exact ⟨ret_int (by unfold dg; rw [hr]; simp), rfl⟩

def byt (s : ByteArray) (k : Nat) : Int := if h : k < s.size then (s[k].toNat : Int) else 0
theorem byt_eq (s : ByteArray) (k : Nat) (h : k < s.size) : (s[k].toNat : Int) = byt s k := by unfold byt; rw [dif_pos h]
theorem byt_bd (s : ByteArray) (k : Nat) : 0 ≤ byt s k ∧ byt s k ≤ 255 := by
  unfold byt; split
  · rename_i h; have := (s[k]).toNat_lt; omega
  · omega
theorem dg_bd (c base : Int) (h : 0 ≤ base) : 0 ≤ dg c base ∧ dg c base ≤ base := by unfold dg; split <;> omega

def scan (base lim : Int) (s : ByteArray) : Nat → Nat → Int → Int × Int × Int
  | 0, _, n => (n, 0, 0)
  | f + 1, k, n => if dg (byt s k) base = base then (0, k, 40) else if lim < n * base + dg (byt s k) base then (0, k, 41) else scan base lim s f (k + 1) (n * base + dg (byt s k) base)
def scanA (base lim : Int) (s : ByteArray) (k : Nat) (n : Int) : Int × Int × Int := scan base lim s (s.size - k) k n
theorem scan_step (base lim : Int) (s : ByteArray) (k : Nat) (n : Int) (h : k < s.size) : scanA base lim s k n = if dg (byt s k) base = base then (0, (k : Int), 40) else if lim < n * base + dg (byt s k) base then (0, (k : Int), 41) else scanA base lim s (k + 1) (n * base + dg (byt s k) base) := by
  unfold scanA
  rw [show s.size - k = (s.size - (k + 1)) + 1 by omega]
  rfl
theorem scan_end (base lim : Int) (s : ByteArray) (k : Nat) (n : Int) (h : ¬ k < s.size) : scanA base lim s k n = (n, 0, 0) := by
  unfold scanA
  rw [show s.size - k = 0 by omega]
  rfl
def digs (base lim : Int) (s : ByteArray) (k : Nat) : Int × Int × Int := if k = s.size then (0, (k : Int), 40) else scanA base lim s k 0
theorem prod_bd (n base lim : Int) (h0 : 0 ≤ n) (h1 : n ≤ lim) (hl : lim ≤ 4294967295) (b0 : 0 ≤ base) (b1 : base ≤ 16) : 0 ≤ n * base ∧ n * base ≤ 68719476720 := by
  refine ⟨Int.mul_nonneg h0 b0, ?_⟩
  have : n * base ≤ 4294967295 * 16 := Int.mul_le_mul (by omega) b1 b0 (by omega)
  omega
theorem trip {x y z : Int} {r : Int × Int × Int} (h : r = (x, y, z)) : Ending.returned (.tuple #[.int .u64 x, .int .i64 y, .int .i64 z]) = .returned (.tuple #[.int .u64 r.1, .int .i64 r.2.1, .int .i64 r.2.2]) := by rw [h]

set_option maxHeartbeats 1000000 in
theorem digits16 (s : ByteArray) (a : Nat) (base lim : Int) (w : World) (hs : s.size ≤ 64) (ha : a ≤ s.size) (hb0 : 0 ≤ base) (hb1 : base ≤ 16) (hl : 0 ≤ lim) (hl2 : lim ≤ 4294967295) :
    Calls Tryd.prog 16 #[.string s, .int .i64 a, .int .u64 base, .int .u64 lim] w fun e w' => e = .returned (.tuple #[.int .u64 (digs base lim s a).1, .int .i64 (digs base lim s a).2.1, .int .i64 (digs base lim s a).2.2]) ∧ w = w' := by
  by_cases h : a = s.size
  · have hr : Hid (digs base lim s a = (0, (a : Int), 40)) := by unfold Hid digs; rw [if_pos h]
    have hq : ((a : Int) == (s.size : Int)) = true := by rw [beq_iff_eq]; omega
    clear h
    go_enter Tryd.func16, Tryd.ntmps16
    go_wp2_with fail
    go_ret3
    exact ⟨trip hr.out, rfl⟩
  · have hr : Hid (digs base lim s a = scanA base lim s a 0) := by unfold Hid digs; rw [if_neg h]
    have hq : ((a : Int) == (s.size : Int)) = false := by rw [beq_eq_false_iff_ne]; omega
    clear h
    go_enter Tryd.func16, Tryd.ntmps16
    go_wp2_with fail
    go_loopw [1, 11] (fun i v wr => ∃ (k : Nat) (n : Int), k ≤ s.size ∧ i = .int .i64 k ∧ v = .int .u64 n ∧ 0 ≤ n ∧ n ≤ lim ∧ digs base lim s a = scanA base lim s k n ∧ w = wr) (fun i _ _ => s.size - (intOf i).toNat)
    case atStart => exact ⟨a, 0, ha, rfl, rfl, by omega, hl, hr.out, rfl⟩
    case round =>
      clear hr
      obtain ⟨k, n, hk, rfl, rfl, hn0, hn1, hr, rfl⟩ := hrel
      have hr' := hid hr
      clear hr
      by_cases hlt : k < s.size
      · have hx1 : (k : Int) < (s.size : Int) := by omega
        have hstep := hid (scan_step base lim s k n hlt)
        have hby := hid (byt_eq s k hlt)
        have hbb := byt_bd s k
        have hdd := dg_bd (byt s k) base hb0
        have hpp := prod_bd n base lim hn0 hn1 hl2 hb0 hb1
        go_wp2_with fail
        rw [hby.out]
        clear hby
        generalize byt s k = c at *
        refine (digit25 c base w hbb.1 hbb.2 hb0 hb1).mono ?_
        rintro e w1 ⟨rfl, rfl⟩
        generalize dg c base = d at *
        have hw1 : IntKind.u64.wrap (n * base) = n * base := by rw [IntKind.wrap_u64]; omega
        have hw2 : IntKind.u64.wrap (n * base + d) = n * base + d := by rw [IntKind.wrap_u64]; omega
        have hpp' := hid hpp
        by_cases h1 : d = base
        · have hs1 : Hid (digs base lim s a = (0, (k : Int), 40)) := by unfold Hid; rw [hr'.out, hstep.out, if_pos h1]
          have he : (d == base) = true := by rw [beq_iff_eq]; exact h1
          clear h1 hpp
          go_wp2_with fail
          go_ret3
          exact ⟨trip hs1.out, rfl⟩
        · have he : (d == base) = false := by rw [beq_eq_false_iff_ne]; exact h1
          by_cases h2 : lim < n * base + d
          · have hs1 : Hid (digs base lim s a = (0, (k : Int), 41)) := by unfold Hid; rw [hr'.out, hstep.out, if_neg h1, if_pos h2]
            clear h1 hpp
            go_wp2_with fail
            go_ret3
            exact ⟨trip hs1.out, rfl⟩
          · have hs1 : Hid (digs base lim s a = scanA base lim s (k + 1) (n * base + d)) := by unfold Hid; rw [hr'.out, hstep.out, if_neg h1, if_neg h2]
            clear h1 hpp
            have h3 : n * base + d ≤ lim := by omega
            have h4 := hid hdd
            clear hdd
            go_wp2_with fail
            go_roundw
            case rel => exact ⟨k + 1, n * base + d, by omega, by go_num, rfl, by have := hpp'.out; have := h4.out; omega, h3, hs1.out, trivial⟩
            case measure => simp [intOf]; omega
      · have hs1 : Hid (digs base lim s a = (n, 0, 0)) := by unfold Hid; rw [hr'.out, scan_end _ _ _ _ _ hlt]
        go_wp2_with fail
        go_ret3
        exact ⟨trip hs1.out, rfl⟩

theorem byt_mk (l : List UInt8) (k : Nat) : byt ⟨⟨l⟩⟩ k = ((l[k]?.map fun b => (b.toNat : Int)).getD 0) := by
  unfold byt
  have hs : (⟨⟨l⟩⟩ : ByteArray).size = l.length := rfl
  by_cases h : k < l.length
  · rw [dif_pos (by rw [hs]; exact h), List.getElem?_eq_getElem h]
    rfl
  · rw [dif_neg (by rw [hs]; exact h), List.getElem?_eq_none (by omega)]
    rfl
theorem u8_iff (a b : UInt8) : (a == b) = decide ((a.toNat : Int) = (b.toNat : Int)) := by
  by_cases h : a = b
  · subst h; simp
  · rw [beq_eq_false_iff_ne.2 h]
    symm
    rw [decide_eq_false_iff_not]
    intro e
    exact h (UInt8.toNat_inj.1 (by omega))
theorem extract_mk (l : List UInt8) (n : Nat) : ((⟨⟨l⟩⟩ : ByteArray).extract 0 n).toList = l.take n := by
  rw [ByteArray.toList_eq, ByteArray.data_extract]
  simp
theorem pre1 (s : ByteArray) (x : UInt8) : pre s ⟨#[x]⟩ = decide (byt s 0 = x.toNat ∧ 0 < s.size) := by
  obtain ⟨⟨l⟩⟩ := s
  have hs : (⟨⟨l⟩⟩ : ByteArray).size = l.length := rfl
  have hp : (⟨#[x]⟩ : ByteArray).size = 1 := rfl
  unfold pre
  rw [hp, extract_mk, byt_mk, hs, ByteArray.toList_eq]
  match l with
  | [] => simp
  | a :: t => simp [u8_iff]
theorem pre2 (s : ByteArray) (x y : UInt8) : pre s ⟨#[x, y]⟩ = decide ((byt s 0 = x.toNat ∧ byt s 1 = y.toNat) ∧ 1 < s.size) := by
  obtain ⟨⟨l⟩⟩ := s
  have hs : (⟨⟨l⟩⟩ : ByteArray).size = l.length := rfl
  have hp : (⟨#[x, y]⟩ : ByteArray).size = 2 := rfl
  unfold pre
  rw [hp, extract_mk, byt_mk, byt_mk, hs, ByteArray.toList_eq]
  match l with
  | [] => simp
  | [a] => simp
  | a :: b :: t => simp [u8_iff]
theorem scan_bd (base lim : Int) (s : ByteArray) (hl : 0 ≤ lim) (hb : 0 ≤ base) : ∀ (f k : Nat) (n : Int), 0 ≤ n → n ≤ lim → 0 ≤ (scan base lim s f k n).1 ∧ (scan base lim s f k n).1 ≤ lim
  | 0, _, n, h0, h1 => ⟨h0, h1⟩
  | f + 1, k, n, h0, h1 => by
    unfold scan
    have hd := dg_bd (byt s k) base hb
    have hp : 0 ≤ n * base := Int.mul_nonneg h0 hb
    split
    · exact ⟨by simp, hl⟩
    · split
      · exact ⟨by simp, hl⟩
      · exact scan_bd base lim s hl hb f (k + 1) _ (by omega) (by omega)
theorem digs_bd (base lim : Int) (s : ByteArray) (k : Nat) (hl : 0 ≤ lim) (hb : 0 ≤ base) : 0 ≤ (digs base lim s k).1 ∧ (digs base lim s k).1 ≤ lim := by
  unfold digs
  split
  · exact ⟨by simp, hl⟩
  · exact scan_bd base lim s hl hb _ _ _ (by omega) hl

def isM (s : ByteArray) : Prop := byt s 0 = 45 ∧ 0 < s.size
def isX (s : ByteArray) : Prop := (byt s 0 = 48 ∧ byt s 1 = 120) ∧ 1 < s.size
def isB (s : ByteArray) : Prop := (byt s 0 = 48 ∧ byt s 1 = 98) ∧ 1 < s.size
instance (s : ByteArray) : Decidable (isM s) := by unfold isM; infer_instance
instance (s : ByteArray) : Decidable (isX s) := by unfold isX; infer_instance
instance (s : ByteArray) : Decidable (isB s) := by unfold isB; infer_instance
theorem preM (s : ByteArray) : pre s ⟨#[45]⟩ = decide (isM s) := by rw [pre1, decide_eq_decide]; exact Iff.rfl
theorem preX (s : ByteArray) : pre s ⟨#[48, 120]⟩ = decide (isX s) := by rw [pre2, decide_eq_decide]; exact Iff.rfl
theorem preB (s : ByteArray) : pre s ⟨#[48, 98]⟩ = decide (isB s) := by rw [pre2, decide_eq_decide]; exact Iff.rfl

def finV (neg : Bool) (r : Int × Int × Int) : Int × Int × Int :=
  if r.2.2 = 0 then (if neg = true then (4294967296 - r.1) % 4294967296 else r.1, 0, 0) else (0, r.2.1, r.2.2)
/-- what a text's word is: number, place, errno -/
def wordV (s : ByteArray) : Int × Int × Int :=
  if 64 < s.size then (0, 64, 42)
  else if isM s then finV true (digs 10 2147483648 s 1)
  else if isX s then finV false (digs 16 4294967295 s 2)
  else if isB s then finV false (digs 2 4294967295 s 2)
  else finV false (digs 10 4294967295 s 0)
theorem fin_ok {neg : Bool} {v p : Int} : finV neg (v, p, 0) = (if neg = true then (4294967296 - v) % 4294967296 else v, 0, 0) := by unfold finV; simp
theorem fin_no {neg : Bool} {v p q : Int} (h : q ≠ 0) : finV neg (v, p, q) = (0, p, q) := by unfold finV; simp [h]

theorem trip3 {x y z : Int} {r : Int × Int × Int} (h : r = (x, y, z)) : Ending.returned (.tuple #[.int .u32 x, .int .i64 y, .int .i64 z]) = .returned (.tuple #[.int .u32 r.1, .int .i64 r.2.1, .int .i64 r.2.2]) := by rw [h]


set_option maxHeartbeats 1000000 in
theorem word9M (s : ByteArray) (w : World) (hle : s.size ≤ 64) (hM : isM s) :
    Calls Tryd.prog 9 #[.string s] w fun e w' => e = .returned (.tuple #[.int .u32 (wordV s).1, .int .i64 (wordV s).2.1, .int .i64 (wordV s).2.2]) ∧ w = w' := by
  have hn : ¬ 64 < s.size := by omega
  have hV : Hid (wordV s = finV true (digs 10 2147483648 s 1)) := by
    unfold Hid wordV
    rw [if_neg hn, if_pos hM]
  have hX : ¬ isX s := by unfold isX; unfold isM at hM; omega
  have hB : ¬ isB s := by unfold isB; unfold isM at hM; omega
  have pX := hid ((preX s).trans (decide_eq_false hX))
  have pB := hid ((preB s).trans (decide_eq_false hB))
  have pM := hid ((preM s).trans (decide_eq_true hM))
  have hat : 1 ≤ s.size := (by unfold isM at hM; omega)
  have hbd := digs_bd 10 2147483648 s 1 (by decide) (by decide)
  have hdig := hid (digits16 s 1 10 2147483648 w hle hat (by decide) (by decide) (by decide) (by decide))
  clear hM hX hB
  go_enter Tryd.func9, Tryd.ntmps9
  go_wp2_with fail
  refine (prefix15 s ⟨#[48, 120]⟩ w (by omega) (by decide)).mono ?_
  rintro e w1 ⟨rfl, rfl⟩
  rw [pX.out]
  go_wp2_with fail
  refine (prefix15 s ⟨#[48, 98]⟩ w (by omega) (by decide)).mono ?_
  rintro e w1 ⟨rfl, rfl⟩
  rw [pB.out]
  go_wp2_with fail
  refine (prefix15 s ⟨#[45]⟩ w (by omega) (by decide)).mono ?_
  rintro e w1 ⟨rfl, rfl⟩
  rw [pM.out]
  go_wp2_with fail
  refine hdig.out.mono ?_
  rintro e w1 ⟨rfl, rfl⟩
  clear hdig
  generalize digs 10 2147483648 s 1 = r at *
  obtain ⟨v, p, q⟩ := r
  simp only [] at hbd ⊢
  by_cases hq : q = 0
  · subst hq
    have hV2 := hid (hV.out.trans fin_ok)
    have hw0 : IntKind.u64.wrap (-v) = (18446744073709551616 - v) % 18446744073709551616 := by rw [IntKind.wrap_u64]; omega
    have hw1 : IntKind.u32.wrap ((18446744073709551616 - v) % 18446744073709551616) = (4294967296 - v) % 4294967296 := by rw [IntKind.wrap_u32]; omega
    go_wp2_with fail
    go_ret3
    exact ⟨trip3 (hV2.out.trans (by simp)), rfl⟩
  · have hV2 := hid (hV.out.trans (fin_no hq))
    have hq1 : (q == 0) = false := by rw [beq_eq_false_iff_ne]; exact hq
    have hq2 : (q != 0) = true := by rw [bne_iff_ne]; exact hq
    have hw0 : IntKind.u64.wrap (-v) = (18446744073709551616 - v) % 18446744073709551616 := by rw [IntKind.wrap_u64]; omega
    clear hq
    go_wp2_with fail
    go_ret3
    exact ⟨trip3 hV2.out, rfl⟩

set_option maxHeartbeats 1000000 in
theorem word9X (s : ByteArray) (w : World) (hle : s.size ≤ 64) (hM : ¬ isM s) (hX : isX s) :
    Calls Tryd.prog 9 #[.string s] w fun e w' => e = .returned (.tuple #[.int .u32 (wordV s).1, .int .i64 (wordV s).2.1, .int .i64 (wordV s).2.2]) ∧ w = w' := by
  have hn : ¬ 64 < s.size := by omega
  have hV : Hid (wordV s = finV false (digs 16 4294967295 s 2)) := by
    unfold Hid wordV
    rw [if_neg hn, if_neg hM, if_pos hX]
  have hB : ¬ isB s := by unfold isB; unfold isX at hX; omega
  have pX := hid ((preX s).trans (decide_eq_true hX))
  have hat : 2 ≤ s.size := (by unfold isX at hX; omega)
  have hbd := digs_bd 16 4294967295 s 2 (by decide) (by decide)
  have hdig := hid (digits16 s 2 16 4294967295 w hle hat (by decide) (by decide) (by decide) (by decide))
  clear hM hX hB
  go_enter Tryd.func9, Tryd.ntmps9
  go_wp2_with fail
  refine (prefix15 s ⟨#[48, 120]⟩ w (by omega) (by decide)).mono ?_
  rintro e w1 ⟨rfl, rfl⟩
  rw [pX.out]
  go_wp2_with fail
  refine hdig.out.mono ?_
  rintro e w1 ⟨rfl, rfl⟩
  clear hdig
  generalize digs 16 4294967295 s 2 = r at *
  obtain ⟨v, p, q⟩ := r
  simp only [] at hbd ⊢
  by_cases hq : q = 0
  · subst hq
    have hV2 := hid (hV.out.trans fin_ok)
    go_wp2_with fail
    go_ret3
    exact ⟨trip3 (hV2.out.trans (by simp)), rfl⟩
  · have hV2 := hid (hV.out.trans (fin_no hq))
    have hq1 : (q == 0) = false := by rw [beq_eq_false_iff_ne]; exact hq
    have hq2 : (q != 0) = true := by rw [bne_iff_ne]; exact hq
    clear hq
    go_wp2_with fail
    go_ret3
    exact ⟨trip3 hV2.out, rfl⟩

set_option maxHeartbeats 1000000 in
theorem word9B (s : ByteArray) (w : World) (hle : s.size ≤ 64) (hM : ¬ isM s) (hX : ¬ isX s) (hB : isB s) :
    Calls Tryd.prog 9 #[.string s] w fun e w' => e = .returned (.tuple #[.int .u32 (wordV s).1, .int .i64 (wordV s).2.1, .int .i64 (wordV s).2.2]) ∧ w = w' := by
  have hn : ¬ 64 < s.size := by omega
  have hV : Hid (wordV s = finV false (digs 2 4294967295 s 2)) := by
    unfold Hid wordV
    rw [if_neg hn, if_neg hM, if_neg hX, if_pos hB]
  have pX := hid ((preX s).trans (decide_eq_false hX))
  have pB := hid ((preB s).trans (decide_eq_true hB))
  have hat : 2 ≤ s.size := (by unfold isB at hB; omega)
  have hbd := digs_bd 2 4294967295 s 2 (by decide) (by decide)
  have hdig := hid (digits16 s 2 2 4294967295 w hle hat (by decide) (by decide) (by decide) (by decide))
  clear hM hX hB
  go_enter Tryd.func9, Tryd.ntmps9
  go_wp2_with fail
  refine (prefix15 s ⟨#[48, 120]⟩ w (by omega) (by decide)).mono ?_
  rintro e w1 ⟨rfl, rfl⟩
  rw [pX.out]
  go_wp2_with fail
  refine (prefix15 s ⟨#[48, 98]⟩ w (by omega) (by decide)).mono ?_
  rintro e w1 ⟨rfl, rfl⟩
  rw [pB.out]
  go_wp2_with fail
  refine hdig.out.mono ?_
  rintro e w1 ⟨rfl, rfl⟩
  clear hdig
  generalize digs 2 4294967295 s 2 = r at *
  obtain ⟨v, p, q⟩ := r
  simp only [] at hbd ⊢
  by_cases hq : q = 0
  · subst hq
    have hV2 := hid (hV.out.trans fin_ok)
    go_wp2_with fail
    go_ret3
    exact ⟨trip3 (hV2.out.trans (by simp)), rfl⟩
  · have hV2 := hid (hV.out.trans (fin_no hq))
    have hq1 : (q == 0) = false := by rw [beq_eq_false_iff_ne]; exact hq
    have hq2 : (q != 0) = true := by rw [bne_iff_ne]; exact hq
    clear hq
    go_wp2_with fail
    go_ret3
    exact ⟨trip3 hV2.out, rfl⟩

set_option maxHeartbeats 1000000 in
theorem word9N (s : ByteArray) (w : World) (hle : s.size ≤ 64) (hM : ¬ isM s) (hX : ¬ isX s) (hB : ¬ isB s) :
    Calls Tryd.prog 9 #[.string s] w fun e w' => e = .returned (.tuple #[.int .u32 (wordV s).1, .int .i64 (wordV s).2.1, .int .i64 (wordV s).2.2]) ∧ w = w' := by
  have hn : ¬ 64 < s.size := by omega
  have hV : Hid (wordV s = finV false (digs 10 4294967295 s 0)) := by
    unfold Hid wordV
    rw [if_neg hn, if_neg hM, if_neg hX, if_neg hB]
  have pX := hid ((preX s).trans (decide_eq_false hX))
  have pB := hid ((preB s).trans (decide_eq_false hB))
  have pM := hid ((preM s).trans (decide_eq_false hM))
  have hat : 0 ≤ s.size := (by omega)
  have hbd := digs_bd 10 4294967295 s 0 (by decide) (by decide)
  have hdig := hid (digits16 s 0 10 4294967295 w hle hat (by decide) (by decide) (by decide) (by decide))
  clear hM hX hB
  go_enter Tryd.func9, Tryd.ntmps9
  go_wp2_with fail
  refine (prefix15 s ⟨#[48, 120]⟩ w (by omega) (by decide)).mono ?_
  rintro e w1 ⟨rfl, rfl⟩
  rw [pX.out]
  go_wp2_with fail
  refine (prefix15 s ⟨#[48, 98]⟩ w (by omega) (by decide)).mono ?_
  rintro e w1 ⟨rfl, rfl⟩
  rw [pB.out]
  go_wp2_with fail
  refine (prefix15 s ⟨#[45]⟩ w (by omega) (by decide)).mono ?_
  rintro e w1 ⟨rfl, rfl⟩
  rw [pM.out]
  go_wp2_with fail
  refine hdig.out.mono ?_
  rintro e w1 ⟨rfl, rfl⟩
  clear hdig
  generalize digs 10 4294967295 s 0 = r at *
  obtain ⟨v, p, q⟩ := r
  simp only [] at hbd ⊢
  by_cases hq : q = 0
  · subst hq
    have hV2 := hid (hV.out.trans fin_ok)
    go_wp2_with fail
    go_ret3
    exact ⟨trip3 (hV2.out.trans (by simp)), rfl⟩
  · have hV2 := hid (hV.out.trans (fin_no hq))
    have hq1 : (q == 0) = false := by rw [beq_eq_false_iff_ne]; exact hq
    have hq2 : (q != 0) = true := by rw [bne_iff_ne]; exact hq
    clear hq
    go_wp2_with fail
    go_ret3
    exact ⟨trip3 hV2.out, rfl⟩

theorem word9 (s : ByteArray) (w : World) (hs : s.size ≤ 9223372036854775807) :
    Calls Tryd.prog 9 #[.string s] w fun e w' => e = .returned (.tuple #[.int .u32 (wordV s).1, .int .i64 (wordV s).2.1, .int .i64 (wordV s).2.2]) ∧ w = w' := by
  by_cases h : 64 < s.size
  · have hr : Hid (wordV s = (0, 64, 42)) := by unfold Hid wordV; rw [if_pos h]
    go_enter Tryd.func9, Tryd.ntmps9
    go_wp2_with fail
    go_ret3
    exact ⟨trip3 hr.out, rfl⟩
  · by_cases hM : isM s
    · exact word9M s w (by omega) hM
    · by_cases hX : isX s
      · exact word9X s w (by omega) hM hX
      · by_cases hB : isB s
        · exact word9B s w (by omega) hM hX hB
        · exact word9N s w (by omega) hM hX hB
end Go.Proofs.YtmbdlhgclkbdiaaDoor
