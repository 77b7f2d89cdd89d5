/- Walks: the sums, Pick, Join, the marks, lists that are lent and kept. Each: every input that its premises let in. -/
import Derived.Test.YtdhicfolchpmhaaProg
import Derived.Test.YtdhicfolchpmhaaKit
import Derived.Test.YtdhicfolchpmhaaPure
namespace Go.Proofs.Ytdhicfolchpmhaa
open Go.RowKit
set_option linter.unusedVariables false
set_option linter.unusedSimpArgs false

theorem Try.info5 : (Try.prog.info? 5).map (fun i => (i.zero, i.size, i.bytes)) = some (some (.int .u8 0), 1, 1) := by kernel_rfl

set_option maxHeartbeats 400000 in
theorem sum_any (ao : Option Addr) (n cap : Nat) (l : List Int) (w : World) (hn : n = l.length) (hl : l.length ≤ 140737488355328) (hi : Ints .u8 w ao l) :
    Calls Try.prog 14 #[.slice ao n cap] w fun e w' => e = .returned (.int .u32 (sumVal l)) ∧ w = w' := by
  subst hn
  obtain ⟨b, off, hao, hc⟩ := hi.at
  have hwf := hid hi.wf
  clear hi
  rcases hao with hn | rfl
  all_goals
    go_enter Try.func14, Try.ntmps14
    go_wp2
    go_loop [3, 4, 9] (fun lo hi i => ∃ k : Nat, k ≤ l.length ∧ i = .int .i64 k ∧ lo = .int .u32 (sumOf (l.take k)).1 ∧ hi = .int .u32 (sumOf (l.take k)).2) (fun _ _ i => l.length - (intOf i).toNat)
    case atStart => exact ⟨0, Nat.zero_le _, rfl, rfl, rfl⟩
    case round =>
      obtain ⟨k, hk, rfl, rfl, rfl⟩ := hrel
      have hd := sumOf_bd (l.take k)
      by_cases hlt : k < l.length
      · first
        | omega
        | have H : Hid (sumOf (l.take (k + 1)) = sumStep (sumOf (l.take k)) (l.getD k 0)) := by rw [take_snoc l k 0 hlt, sumOf_snoc]; rfl
          have hx := wf_u8.1 (hwf.out _ (getD_mem l k 0 hlt))
          have hcell := hc.out k hlt
          generalize l.getD k 0 = x at *
          generalize sumOf (l.take k) = s at *
          go_wp2
          go_round
          case rel => exact ⟨k + 1, by omega, by go_num, by rw [H.out]; simp only [sumStep], by rw [H.out]; simp only [sumStep]⟩
          case measure => simp [intOf]; omega
      · have hle : Hid (l.take k = l) := List.take_of_length_le (by omega)
        rw [hle.out] at hd ⊢
        have hV : Hid (sumVal l = (sumOf l).2 * 65536 + (sumOf l).1) := rfl
        generalize sumOf l = s at *
        go_wp2
        go_ret
        refine ⟨?_, rfl⟩
        rw [hV.out]
        exact ret_int (by omega)

set_option maxHeartbeats 400000 in
theorem refsum_any (ao : Option Addr) (n cap : Nat) (l : List Int) (w : World) (hn : n = l.length) (hl : l.length ≤ 140737488355328) (hi : Ints .u8 w ao l) :
    Calls Try.prog 19 #[.slice ao n cap] w fun e w' => e = .returned (.int .u32 (sumVal l)) ∧ w = w' := by
  subst hn
  obtain ⟨b, off, hao, hc⟩ := hi.at
  have hwf := hid hi.wf
  clear hi
  rcases hao with hn | rfl
  all_goals
    go_enter Try.func19, Try.ntmps19
    go_wp2
    go_loop [3, 4, 5] (fun lo hi i => ∃ k : Nat, k ≤ l.length ∧ i = .int .i64 k ∧ lo = .int .u32 (sumOf (l.take k)).1 ∧ hi = .int .u32 (sumOf (l.take k)).2) (fun _ _ i => l.length - (intOf i).toNat)
    case atStart => exact ⟨0, Nat.zero_le _, rfl, rfl, rfl⟩
    case round =>
      obtain ⟨k, hk, rfl, rfl, rfl⟩ := hrel
      have hd := sumOf_bd (l.take k)
      by_cases hlt : k < l.length
      · first
        | omega
        | have H : Hid (sumOf (l.take (k + 1)) = sumStep (sumOf (l.take k)) (l.getD k 0)) := by rw [take_snoc l k 0 hlt, sumOf_snoc]; rfl
          have hx := wf_u8.1 (hwf.out _ (getD_mem l k 0 hlt))
          have hcell := hc.out k hlt
          generalize l.getD k 0 = x at *
          generalize sumOf (l.take k) = s at *
          go_wp2
          go_round
          case rel => exact ⟨k + 1, by omega, by go_num, by rw [H.out]; simp only [sumStep], by rw [H.out]; simp only [sumStep]⟩
          case measure => simp [intOf]; omega
      · have hle : Hid (l.take k = l) := List.take_of_length_le (by omega)
        rw [hle.out] at hd ⊢
        have hV : Hid (sumVal l = (sumOf l).2 * 65536 + (sumOf l).1) := rfl
        generalize sumOf l = s at *
        go_wp2
        go_ret
        refine ⟨?_, rfl⟩
        rw [hV.out]
        exact ret_int (by omega)

/-- Pick, where there is something to pick. -/
theorem pick_any (x n : Int) (w : World) (hx : -9223372036854775808 ≤ x ∧ x ≤ 9223372036854775807) (hn : 1 ≤ n ∧ n ≤ 9223372036854775807) :
    Calls Try.prog 15 #[.int .i64 x, .int .i64 n] w fun e w' => (∃ k : Nat, (k : Int) < n ∧ e = .returned (.int .i64 k)) ∧ w = w' := by
  have hb1 : -n < x.tmod n ∧ x.tmod n < n := ⟨by have := Int.lt_tmod_of_pos x (show 0 < n by omega); omega, Int.tmod_lt_of_pos x (by omega)⟩
  by_cases h0 : x.tmod n < 0
  · obtain ⟨k, hk⟩ := Int.eq_ofNat_of_zero_le (show 0 ≤ x.tmod n + n by omega)
    have hK := hid hk
    clear hk
    go_enter Try.func15, Try.ntmps15
    go_wp2
    go_ret
    exact ⟨⟨k, by rw [← hK.out]; omega, ret_int hK.out⟩, rfl⟩
  · obtain ⟨k, hk⟩ := Int.eq_ofNat_of_zero_le (show 0 ≤ x.tmod n by omega)
    have hK := hid hk
    clear hk
    go_enter Try.func15, Try.ntmps15
    go_wp2
    go_ret
    exact ⟨⟨k, by rw [← hK.out]; omega, ret_int hK.out⟩, rfl⟩

theorem prod_bd (x y : Int) (hx : 0 ≤ x ∧ x ≤ 65520) (hy : 0 ≤ y ∧ y ≤ 65520) : 0 ≤ x * y ∧ x * y ≤ 4292870400 := by
  refine ⟨Int.mul_nonneg hx.1 hy.1, ?_⟩
  have h1 : x * y ≤ 65520 * y := Int.mul_le_mul_of_nonneg_right hx.2 hy.1
  omega

set_option maxHeartbeats 400000 in
theorem join_any (a b n : Int) (w : World) (ha : 0 ≤ a ∧ a ≤ 4294967295) (hb : 0 ≤ b ∧ b ≤ 4294967295) (hn : -9223372036854775808 ≤ n ∧ n ≤ 9223372036854775807) :
    Calls Try.prog 16 #[.int .u32 a, .int .u32 b, .int .i64 n] w fun e w' => e = .returned (.int .u32 (joinVal a b n)) ∧ w = w' := by
  have hP := prod_bd (n % 65521) ((a % 65536 + 65521 - 1) % 65521) (by omega) (by omega)
  by_cases h0 : n < 0
  · have hJ : Hid (joinVal a b n = (a / 65536 + b / 65536) % 65521 * 65536 + (a % 65536 + 65521 - 1 + b % 65536) % 65521) := by
      unfold Hid joinVal; simp only [h0, if_true]; omega
    go_enter Try.func16, Try.ntmps16
    go_wp2
    go_ret
    exact ⟨ret_int hJ.out.symm, rfl⟩
  · have hJ : Hid (joinVal a b n = (a / 65536 + b / 65536 + n % 65521 * ((a % 65536 + 65521 - 1) % 65521)) % 65521 * 65536 + (a % 65536 + 65521 - 1 + b % 65536) % 65521) := by
      unfold Hid joinVal; simp only [h0, if_false]
      rw [show a % 65536 + 65521 - 1 = a % 65536 + 65520 by omega]
    go_enter Try.func16, Try.ntmps16
    go_wp2
    go_ret
    refine ⟨?_, rfl⟩
    rw [hJ.out]
    exact ret_int (by omega)

set_option maxHeartbeats 400000 in
theorem refjoin_any (a b n : Int) (w : World) (ha : 0 ≤ a ∧ a ≤ 4294967295) (hb : 0 ≤ b ∧ b ≤ 4294967295) (hn : -9223372036854775808 ≤ n ∧ n ≤ 9223372036854775807) :
    Calls Try.prog 17 #[.int .u32 a, .int .u32 b, .int .i64 n] w fun e w' => e = .returned (.int .u32 (joinVal a b n)) ∧ w = w' := by
  have hP := prod_bd (n % 65521) ((a % 65536 + 65520) % 65521) (by omega) (by omega)
  by_cases h0 : n < 0
  · have hJ : Hid (joinVal a b n = (a / 65536 + b / 65536) % 65521 * 65536 + (a % 65536 + b % 65536 + 65520) % 65521) := by
      unfold Hid joinVal; simp only [h0, if_true]; omega
    go_enter Try.func17, Try.ntmps17
    go_wp2
    go_ret
    exact ⟨ret_int hJ.out.symm, rfl⟩
  · have hJ : Hid (joinVal a b n = (a / 65536 + b / 65536 + n % 65521 * ((a % 65536 + 65520) % 65521)) % 65521 * 65536 + (a % 65536 + b % 65536 + 65520) % 65521) := by
      unfold Hid joinVal; simp only [h0, if_false]; omega
    go_enter Try.func17, Try.ntmps17
    go_wp2
    go_ret
    refine ⟨?_, rfl⟩
    rw [hJ.out]
    exact ret_int (by omega)

def markB (k i : Int) : Int := bits BinOp.xor IntKind.u32
                              ((wrap64 (k + 2) % 4294967296 * 2654435761 + i % 4294967296 * 2246822519) % 4294967296)
                              ((wrap64 (k + 2) % 4294967296 * 2654435761 + i % 4294967296 * 2246822519) % 4294967296 /
                                32768) *
                            739982445 %
                          4294967296 /
                        16777216
theorem markB_bd (k i : Int) : 0 ≤ markB k i ∧ markB k i ≤ 255 := by unfold markB; omega

set_option maxHeartbeats 400000 in
theorem mark_any (k i : Int) (w : World) :
    Calls Try.prog 59 #[.int .i64 k, .int .i64 i] w fun e w' => e = .returned (.int .u8 (markB k i)) ∧ w = w' := by
  go_enter Try.func59, Try.ntmps59
  go_wp2
  go_ret
  exact ⟨rfl, rfl⟩

/-- the bytes of a list that is lent: itself and 64 marks -/
def lentL (l : List Int) : List Int := l ++ (List.range 64).map (fun i : Nat => markB 0 i)
theorem lentL_len (l : List Int) : (lentL l).length = l.length + 64 := by simp [lentL]

set_option maxHeartbeats 400000 in
theorem lent_any (ao : Option Addr) (n cap : Nat) (l : List Int) (w : World) (hn : n = l.length) (hl : l.length ≤ 140737488351232) (hi : Ints .u8 w ao l) :
    Calls Try.prog 18 #[.slice ao n cap] w fun e w' => ∃ v, e = .returned v ∧ w'.ownsRow w.heap.size 5 1 v (l.length + 64) ((lentL l).map (Value.int .u8)) ∧ Below w.heap.size w w' := by
  subst hn
  obtain ⟨b, off, hao, hc⟩ := hi.at
  have hwf := hid hi.wf
  clear hi
  rcases hao with hn | rfl
  all_goals
    go_enter Try.func18, Try.ntmps18
    go_wp2
    go_loopw [3, 4] (fun v i wr => ∃ k : Nat, k ≤ l.length ∧ i = .int .i64 k ∧ wr.ownsRow w.heap.size 5 1 v k ((l.take k).map (Value.int .u8)) ∧ Below w.heap.size w wr) (fun _ i _ => l.length - (intOf i).toNat)
    case atStart => exact ⟨0, Nat.zero_le _, rfl, World.ownsRow_nil _ _ _ _, Below.refl _ _⟩
    case round =>
      obtain ⟨k, hk, rfl, hown, hb⟩ := hrel
      by_cases hlt : k < l.length
      · first
        | omega
        | have hcell := hc.out k hlt
          have hsz := hb.size
          have hcell' : wr.cell? ⟨b, off + k, none⟩ = some (.int .u8 (l.getD k 0)) := (hb.cell (World.block_lt_of_cell? w _ hcell)).trans hcell
          clear hcell
          have HX := hid (take_snoc l k 0 hlt)
          generalize l.getD k 0 = x at *
          go_wp2_with (at_builtin; go_must (refine wpList_append_new rfl _ _ 23 rfl w.heap.size 5 5 (.int .u8 0) 1 1 1 Try.underlying23 Try.info5 rfl (by decide) _ k _ [.int .u8 x] (0, 0) hown rfl (by simp [Value.oneCell']) (by unfold maxLen; omega) (by omega) hsz rfl rfl ?_); intro v' w1 hown' hb' _)
          go_roundw
          case rel => exact ⟨k + 1, by omega, by go_num, by rw [HX.out]; simpa using hown', hb.trans hb'⟩
          case measure => simp [intOf]; omega
      · have hke : Hid (l.take k = l) := List.take_of_length_le (by omega)
        rw [hke.out] at hown
        obtain ⟨n, hn⟩ : ∃ n, n = l.length := ⟨_, rfl⟩
        obtain rfl : k = n := by omega
        have hL : Hid (k = l.length) := hn
        clear hn
        go_wp2_with fail
        go_loopw [3, 5] (fun v i wr => ∃ j : Nat, j ≤ 64 ∧ i = .int .i64 j ∧ wr.ownsRow w.heap.size 5 1 v (k + j) ((l ++ (List.range j).map (fun i : Nat => markB 0 i)).map (Value.int .u8)) ∧ Below w.heap.size w wr) (fun _ i _ => 64 - (intOf i).toNat)
        case atStart => exact ⟨0, by omega, rfl, by simpa using hown, hb⟩
        case round =>
          clear hown hb
          obtain ⟨j, hj, rfl, hown, hb⟩ := hrel
          by_cases hlt2 : j < 64
          · have hsz := hb.size
            have HR := hid (range_snoc (fun i : Nat => markB 0 i) j)
            go_wp2_with (first | (go_at_call 59; go_must (refine (mark_any _ _ _).mono ?_); rintro e w' ⟨rfl, rfl⟩) | (at_builtin; go_must (refine wpList_append_new rfl _ _ 23 rfl w.heap.size 5 5 (.int .u8 0) 1 1 1 Try.underlying23 Try.info5 rfl (by decide) _ (k + j) _ [.int .u8 (markB 0 j)] (0, 0) hown rfl (by simp [Value.oneCell']) (by unfold maxLen; omega) (by omega) hsz rfl rfl ?_); intro v' w1 hown' hb' _))
            go_roundw
            case rel => exact ⟨j + 1, by omega, by go_num, by rw [HR.out, ← List.append_assoc]; simpa [Nat.add_assoc] using hown', hb.trans hb'⟩
            case measure => simp [intOf]; omega
          · go_wp2_with fail
            go_ret
            obtain rfl : j = 64 := by omega
            exact ⟨_, rfl, by rw [← hL.out]; exact hown, hb⟩

/-- SameBytes at equal lists / as a test -/
def sameI (a b : List Int) : Bool := decide (a = b)
end Go.Proofs.Ytdhicfolchpmhaa
