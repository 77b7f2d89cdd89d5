/- Walks: LittleTurned and LittleJoins. -/
import Derived.Test.YtdhicfolchpmhaaWalkA
namespace Go.Proofs.Ytdhicfolchpmhaa
open Go.RowKit
set_option linter.unusedVariables false
set_option linter.unusedSimpArgs false

theorem xor_u8 (x y : Int) (hx : 0 ≤ x ∧ x ≤ 255) (hy : 0 ≤ y ∧ y ≤ 255) (h : y ≠ 0) : 0 ≤ bits BinOp.xor .u8 x y ∧ bits BinOp.xor .u8 x y ≤ 255 ∧ bits BinOp.xor .u8 x y ≠ x := by
  obtain ⟨a, rfl⟩ := Int.eq_ofNat_of_zero_le hx.1
  obtain ⟨b, rfl⟩ := Int.eq_ofNat_of_zero_le hy.1
  have hlt : a ^^^ b < 2 ^ 8 := Nat.xor_lt_two_pow (by omega) (by omega)
  have h1 : (BitVec.ofInt 8 (a : Int)).toNat = a := by
    rw [BitVec.ofInt_natCast, BitVec.toNat_ofNat]; exact Nat.mod_eq_of_lt (by omega)
  have h2 : (BitVec.ofInt 8 (b : Int)).toNat = b := by
    rw [BitVec.ofInt_natCast, BitVec.toNat_ofNat]; exact Nat.mod_eq_of_lt (by omega)
  have e : bits BinOp.xor .u8 (a : Int) (b : Int) = ((a ^^^ b : Nat) : Int) := by
    show IntKind.u8.wrap ((BitVec.ofInt 8 (a : Int) ^^^ BitVec.ofInt 8 (b : Int)).toNat : Int) = _
    rw [BitVec.toNat_xor, h1, h2]
    simp only [IntKind.wrap, IntKind.bits, IntKind.signed]
    simp
    omega
  rw [e]
  refine ⟨by omega, by omega, ?_⟩
  intro hc
  have hc' : a ^^^ b = a := by omega
  have : b = 0 := by
    have := congrArg (fun z => a ^^^ z) hc'
    simpa [← Nat.xor_assoc] using this
  omega

theorem set_map (l : List Int) (k : Nat) (y : Int) : (l.set k y).map (Value.int .u8) = (l.map (Value.int .u8)).set k (.int .u8 y) := by simp

set_option maxHeartbeats 1000000 in
theorem turned_walk (w : World) (ao : Option Addr) (cap : Nat) (l : List Int) (hi : Ints .u8 w ao l) (hcap : l.length ≤ cap) (hmax : cap ≤ maxLen) (x : Int) (wx : (Lit.int .i64 x).wf = true) (y : Int) (wy : (Lit.int .u8 y).wf = true)
    (hr : cap * 1 ≤ 140737488351232) :
    Calls Try.prog 4 #[.slice ao l.length cap, .int .i64 x, .int .u8 y] w fun e w' => e = .returned (.bool true) ∧ Below w.heap.size w w' := by
  obtain ⟨b, off, hao, hc⟩ := hi.at
  have hI := hid hi
  have hwf := hid hi.wf
  clear hi
  have hx := wf_i64.1 wx
  have hy := wf_u8.1 wy
  have hS := hid (show sumVal [] = 1 from rfl)
  by_cases h0 : l.length = 0
  · have hl : Hid (l = []) := List.eq_nil_of_length_eq_zero h0
    rw [hl.out]
    go_enter Try.func4, Try.ntmps4
    go_wp2_with (go_at_call 14; go_must (refine (sum_any none 0 0 [] _ rfl (by simp) (Ints.nil _ _ _)).mono ?_); rintro e w' ⟨rfl, rfl⟩)
    go_ret
    exact ⟨rfl, Below.refl _ _⟩
  by_cases hy0 : y = 0
  · subst hy0
    have h0' : ((l.length : Int) == 0) = false := by simpa using h0
    go_enter Try.func4, Try.ntmps4
    go_wp2_with (go_at_call 14; go_must (refine (sum_any none 0 0 [] _ rfl (by simp) (Ints.nil _ _ _)).mono ?_); rintro e w' ⟨rfl, rfl⟩)
    go_ret
    exact ⟨rfl, Below.refl _ _⟩
  have h0' : ((l.length : Int) == 0) = false := by simpa using h0
  have hy' : ((y : Int) == 0) = false := by simpa using hy0
  have hmax' : cap ≤ 9223372036854775807 := by unfold maxLen at hmax; omega
  clear hmax
  rcases hao with hn | rfl
  · omega
  go_enter Try.func4, Try.ntmps4
  go_wp2
  go_loopw [7, 8] (fun v i wr => ∃ k : Nat, k ≤ l.length ∧ i = .int .i64 k ∧ wr.ownsRow w.heap.size 5 1 v k ((l.take k).map (Value.int .u8)) ∧ Below w.heap.size w wr) (fun _ i _ => l.length - (intOf i).toNat)
  case atStart => exact ⟨0, Nat.zero_le _, rfl, World.ownsRow_nil _ _ _ _, Below.refl _ _⟩
  case round =>
    obtain ⟨k, hk, rfl, hown, hb⟩ := hrel
    by_cases hlt : k < l.length
    · have hcell := hc.out k hlt
      have hsz := hb.size
      have hcell' : wr.cell? ⟨b, off + k, none⟩ = some (.int .u8 (l.getD k 0)) := (hb.cell (World.block_lt_of_cell? w _ hcell)).trans hcell
      clear hcell
      have HX := hid (take_snoc l k 0 hlt)
      generalize l.getD k 0 = x at *
      go_wp2_with (at_builtin; go_must (refine wpList_append_new rfl _ _ 23 rfl w.heap.size 5 5 (.int .u8 0) 1 1 1 Try.underlying23 Try.info5 rfl (by decide) _ k _ [.int .u8 x] (0, 0) hown rfl (by simp [Value.oneCell']) (by unfold maxLen; omega) (by omega) hsz rfl rfl ?_); intro v' w1 hown' hb' _)
      go_roundw
      case rel => exact ⟨k + 1, by omega, by go_num, by rw [HX.out]; simpa using hown', hb.trans hb'⟩
      case measure => simp [intOf]; omega
    · have hke : Hid (l.take k = l) := List.take_of_length_le (by omega)
      rw [hke.out] at hown
      obtain ⟨g, c2, hv, hg1, hg2, hnc, hcm⟩ := own_shape hown (by omega)
      rw [hv] at hown ⊢
      clear hv
      unfold maxLen at hcm
      obtain ⟨n, hn⟩ : ∃ n, n = l.length := ⟨_, rfl⟩
      obtain rfl : k = n := by omega
      have hL : Hid (k = l.length) := hn
      clear hn
      have hO := hid hown
      clear hown
      have hbl : b < w.heap.size := World.block_lt_of_cell? w _ (hc.out 0 (by omega))
      go_wp2_with fail
      refine (pick_any _ _ _ (by omega) (by omega)).mono ?_
      rintro e w' ⟨⟨j, hj, rfl⟩, rfl⟩
      have hjl : j < l.length := by omega
      have hcj : wr.cell? ⟨g, j, none⟩ = some (.int .u8 (l.getD j 0)) := by
        rw [hO.out.cellAt j (by omega)]; simp [List.getD, hjl]
      have hfj := hO.out.frozenAt j
      have hxj := wf_u8.1 (hwf.out _ (getD_mem l j 0 hjl))
      have HT := hid (fun y' h1 h2 => sum_turned l j y' hjl hxj h1 h2)
      have hz := xor_u8 (l.getD j 0) y hxj hy hy0
      generalize hq : l.getD j 0 = q at *
      have hq' := hid hq
      clear hq
      obtain ⟨z, hzz⟩ : ∃ z, z = bits BinOp.xor .u8 q y := ⟨_, rfl⟩
      rw [← hzz] at hz
      have st := hid (hO.out.stored j (.int .u8 z))
      have hZ := hid hzz
      rw [hzz] at st
      clear hzz
      go_wp2_with fail
      have hb2 : Below w.heap.size w (wr.setCell ⟨g, j, none⟩ (.int .u8 (bits BinOp.xor .u8 q y))) := hb.setCell hg1 _
      refine (sum_any _ _ cap l _ rfl (by omega) (hI.out.mono hb2)).mono ?_
      rintro e w' ⟨rfl, rfl⟩
      go_wp2_with fail
      have st1 := st.out.1
      have hz3 := hid hz
      rw [← hZ.out] at st1 hb2 ⊢
      rw [← set_map] at st1
      obtain ⟨ao2, cap2, hv2, hI2, hn2, hc2, hm2⟩ := ints_of_own st1 (fun u hu => by
        rcases List.mem_or_eq_of_mem_set hu with h | h
        · exact hwf.out u h
        · subst h; exact wf_u8.2 ⟨hz3.out.1, hz3.out.2.1⟩)
      simp only [Value.slice.injEq] at hv2
      obtain ⟨rfl, hk2, rfl⟩ := hv2
      refine (sum_any _ _ c2 (l.set j z) _ hk2 (by omega) hI2).mono ?_
      rintro e w' ⟨rfl, rfl⟩
      have hne : (sumVal l != sumVal (l.set j z)) = true := by
        rw [bne_iff_ne]; exact HT.out z ⟨hz3.out.1, hz3.out.2.1⟩ hz3.out.2.2
      clear hz hxj st1 hI2 hm2 hc2
      go_wp2_with fail
      go_ret
      exact ⟨rfl, hb2⟩

set_option maxHeartbeats 1000000 in
theorem joins_walk (w : World) (ao1 : Option Addr) (cap1 : Nat) (l1 : List Int) (hi1 : Ints .u8 w ao1 l1) (hcap1 : l1.length ≤ cap1) (hmax1 : cap1 ≤ maxLen) (ao2 : Option Addr) (cap2 : Nat) (l2 : List Int) (hi2 : Ints .u8 w ao2 l2) (hcap2 : l2.length ≤ cap2) (hmax2 : cap2 ≤ maxLen)
    (hB : cap1 + cap2 ≤ 1048576) :
    Calls Try.prog 6 #[.slice ao1 l1.length cap1, .slice ao2 l2.length cap2] w fun e w' => e = .returned (.bool true) ∧ Below w.heap.size w w' := by
  obtain ⟨b1, off1, hao1, hc1⟩ := hi1.at
  obtain ⟨b2, off2, hao2, hc2⟩ := hi2.at
  have hI1 := hid hi1
  have hI2 := hid hi2
  have hwf : Hid (∀ x ∈ l1 ++ l2, (Lit.int .u8 x).wf = true) := by
    intro x hx
    rcases List.mem_append.1 hx with h | h
    · exact hi1.wf x h
    · exact hi2.wf x h
  clear hi1 hi2 hmax1 hmax2
  have hS := hid (show sumVal [] = 1 from rfl)
  rcases hao1 with hn1 | rfl <;> rcases hao2 with hn2 | rfl
  all_goals
    go_enter Try.func6, Try.ntmps6
    go_wp2
    go_loopw [5, 6] (fun v i wr => ∃ k : Nat, k ≤ l1.length ∧ i = .int .i64 k ∧ wr.ownsRow w.heap.size 5 1 v k ((l1.take k).map (Value.int .u8)) ∧ Below w.heap.size w wr) (fun _ i _ => l1.length - (intOf i).toNat)
    case atStart => exact ⟨0, Nat.zero_le _, rfl, World.ownsRow_nil _ _ _ _, Below.refl _ _⟩
    case round =>
      obtain ⟨k, hk, rfl, hown, hb⟩ := hrel
      by_cases hlt : k < l1.length
      · first
        | omega
        | have hcell := hc1.out k hlt
          have hsz := hb.size
          have hcell' : wr.cell? ⟨b1, off1 + k, none⟩ = some (.int .u8 (l1.getD k 0)) := (hb.cell (World.block_lt_of_cell? w _ hcell)).trans hcell
          clear hcell
          have HX := hid (take_snoc l1 k 0 hlt)
          generalize l1.getD k 0 = x at *
          go_wp2_with (at_builtin; go_must (refine wpList_append_new rfl _ _ 23 rfl w.heap.size 5 5 (.int .u8 0) 1 1 1 Try.underlying23 Try.info5 rfl (by decide) _ k _ [.int .u8 x] (0, 0) hown rfl (by simp [Value.oneCell']) (by unfold maxLen; omega) (by omega) hsz rfl rfl ?_); intro v' w1 hown' hb' _)
          go_roundw
          case rel => exact ⟨k + 1, by omega, by go_num, by rw [HX.out]; simpa using hown', hb.trans hb'⟩
          case measure => simp [intOf]; omega
      · have hke : Hid (l1.take k = l1) := List.take_of_length_le (by omega)
        rw [hke.out] at hown
        obtain ⟨n, hn⟩ : ∃ n, n = l1.length := ⟨_, rfl⟩
        obtain rfl : k = n := by omega
        have hL : Hid (k = l1.length) := hn
        clear hn
        go_wp2_with fail
        go_loopw [5, 7] (fun v i wr => ∃ j : Nat, j ≤ l2.length ∧ i = .int .i64 j ∧ wr.ownsRow w.heap.size 5 1 v (k + j) ((l1 ++ l2.take j).map (Value.int .u8)) ∧ Below w.heap.size w wr) (fun _ i _ => l2.length - (intOf i).toNat)
        case atStart => exact ⟨0, by omega, rfl, by simpa using hown, hb⟩
        case round =>
          clear hown hb
          obtain ⟨j, hj, rfl, hown, hb⟩ := hrel
          by_cases hlt2 : j < l2.length
          · first
            | omega
            | have hcell := hc2.out j hlt2
              have hsz := hb.size
              have hcell' : wr.cell? ⟨b2, off2 + j, none⟩ = some (.int .u8 (l2.getD j 0)) := (hb.cell (World.block_lt_of_cell? w _ hcell)).trans hcell
              clear hcell
              have HX := hid (take_snoc l2 j 0 hlt2)
              generalize l2.getD j 0 = x at *
              go_wp2_with (at_builtin; go_must (refine wpList_append_new rfl _ _ 23 rfl w.heap.size 5 5 (.int .u8 0) 1 1 1 Try.underlying23 Try.info5 rfl (by decide) _ (k + j) _ [.int .u8 x] (0, 0) hown rfl (by simp [Value.oneCell']) (by unfold maxLen; omega) (by omega) hsz rfl rfl ?_); intro v' w1 hown' hb' _)
              go_roundw
              case rel => exact ⟨j + 1, by omega, by go_num, by rw [HX.out, ← List.append_assoc]; simpa [Nat.add_assoc] using hown', hb.trans hb'⟩
              case measure => simp [intOf]; omega
          · have hke2 : Hid (l2.take j = l2) := List.take_of_length_le (by omega)
            rw [hke2.out] at hown
            obtain ⟨ao3, cap3, hv, hI3, hn3, hc3, hm3⟩ := ints_of_own hown hwf.out
            rw [hv]
            have hb' := hid hb
            have hI3' := hid hI3
            have hn3' := hid hn3
            clear hv hI3 hm3 hown hb hn3
            have hA := hid (hI1.out.mono hb'.out)
            have hBb := hid (hI2.out.mono hb'.out)
            have hV1 := sumVal_bd l1
            have hV2 := sumVal_bd l2
            have hJ := hid (join_sums l1 l2)
            go_wp2_with fail
            refine (sum_any none 0 0 [] _ rfl (by simp) (Ints.nil _ _ _)).mono ?_
            rintro e w' ⟨rfl, rfl⟩
            rw [hS.out]
            go_wp2_with fail
            refine (sum_any _ _ cap1 l1 _ rfl (by omega) hA.out).mono ?_
            rintro e w' ⟨rfl, rfl⟩
            go_wp2_with fail
            refine (sum_any _ _ cap2 l2 _ rfl (by omega) hBb.out).mono ?_
            rintro e w' ⟨rfl, rfl⟩
            go_wp2_with fail
            refine (join_any _ _ _ _ hV1 hV2 (by omega)).mono ?_
            rintro e w' ⟨rfl, rfl⟩
            rw [hJ.out]
            go_wp2_with fail
            refine (sum_any _ _ cap3 (l1 ++ l2) _ (by simp) (by simp; omega) hI3'.out).mono ?_
            rintro e w' ⟨rfl, rfl⟩
            generalize sumVal (l1 ++ l2) = s
            have hse : (s == s) = true := beq_self_eq_true s
            go_wp2_with fail
            go_ret
            exact ⟨rfl, hb'.out⟩
end Go.Proofs.Ytdhicfolchpmhaa
