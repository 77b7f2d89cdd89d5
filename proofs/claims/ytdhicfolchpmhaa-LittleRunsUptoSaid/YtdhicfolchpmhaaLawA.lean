/- Walks: of, width, cut, sameNumbers. -/
import Derived.Test.YtdhicfolchpmhaaKitC
namespace Go.Proofs.Ytdhicfolchpmhaa
open Go.RowKit
set_option linter.unusedVariables false
set_option linter.unusedSimpArgs false

theorem Try.info46 : (Try.prog.info? 46).map (fun i => (i.zero, i.size, i.bytes)) = some (some (.int .u64 0), 1, 8) := by kernel_rfl

set_option maxHeartbeats 1000000 in
theorem samen_any (ao : Option Addr) (n cap : Nat) (l : List Int) (bo : Option Addr) (m cap2 : Nat) (r : List Int) (w : World) (hn : n = l.length) (hm : m = r.length) (hl : l.length ≤ 140737488355328) (hi : Ints .u64 w ao l) (hj : Ints .u64 w bo r) :
    Calls Try.prog 26 #[.slice ao n cap, .slice bo m cap2] w fun e w' => e = .returned (.bool (decide (l = r))) ∧ ∃ q, w' = w.drewN q := by
  subst hn hm
  obtain ⟨b1, off1, hao1, hc1⟩ := hi.at
  obtain ⟨b2, off2, hao2, hc2⟩ := hj.at
  clear hi hj
  by_cases hlen : l.length = r.length
  · have hne : ((l.length : Int) != (r.length : Int)) = false := by simp [hlen]
    have hH := hid hlen
    have hle : l.length ≤ r.length := by omega
    clear hlen
    rcases hao1 with hn1 | rfl <;> rcases hao2 with hn2 | rfl
    all_goals
      go_enter Try.func26, Try.ntmps26
      go_wp2
      go_loopw [5] (fun i wr => ∃ k q : Nat, k ≤ l.length ∧ i = .int .i64 k ∧ (∀ j, j < k → l.getD j 0 = r.getD j 0) ∧ wr = w.drewN q) (fun i _ => l.length - (intOf i).toNat)
      case atStart => exact ⟨0, 0, Nat.zero_le _, rfl, fun j hj => by omega, rfl⟩
      case round =>
        obtain ⟨k, q, hk, rfl, hall, rfl⟩ := hrel
        have hall' := hid hall
        clear hall
        by_cases hlt : k < l.length
        · first
          | omega
          | have hcell1 := hc1.out k hlt
            have hcell2 := hc2.out k (by omega)
            have hx1 : (k : Int) < (l.length : Int) := by omega
            have hx2 : (k : Int) < (r.length : Int) := by omega
            by_cases hxy : l.getD k 0 = r.getD k 0
            · have hxy' := hid hxy
              have hb : ((l.getD k 0) != (r.getD k 0)) = false := bne_eq_false_iff_eq.2 hxy
              clear hxy
              generalize hgx : l.getD k 0 = x at *
              generalize hgy : r.getD k 0 = y at *
              have hgx' := hid hgx
              have hgy' := hid hgy
              clear hgx hgy
              go_wp2_with fail
              go_quiet (fail)
              go_wp2_with fail
              go_roundw
              case rel => exact ⟨k + 1, q + nq, by omega, by go_num, fun j hj => by
                by_cases hjk : j < k
                · exact hall'.out j hjk
                · obtain rfl : j = k := by omega
                  rw [hgx'.out, hgy'.out]; exact hxy'.out, by simp⟩
              case measure => simp [intOf]; omega
            · have hd : Hid (decide (l = r) = false) := by
                unfold Hid; rw [decide_eq_false_iff_not]; intro h; exact hxy (by rw [h])
              have hb : ((l.getD k 0) != (r.getD k 0)) = true := by rw [bne_iff_ne]; exact hxy
              clear hxy
              generalize l.getD k 0 = x at *
              generalize r.getD k 0 = y at *
              go_wp2_with fail
              go_quiet (fail)
              go_wp2_with fail
              go_ret
              exact ⟨ret_bool hd.out.symm, q + nq, by simp⟩
        · have hd : Hid (decide (l = r) = true) := by
            unfold Hid; rw [decide_eq_true_iff]; exact list_ext_getD l r hH.out (fun i hi => hall'.out i (by omega))
          go_wp2_with fail
          go_ret
          exact ⟨ret_bool hd.out.symm, q, rfl⟩
  · have hne : ((l.length : Int) != (r.length : Int)) = true := by rw [bne_iff_ne]; omega
    have hd : Hid (decide (l = r) = false) := by
      unfold Hid; rw [decide_eq_false_iff_not]; intro h; exact hlen (by rw [h])
    clear hao1 hao2
    go_enter Try.func26, Try.ntmps26
    go_wp2
    go_ret
    exact ⟨ret_bool hd.out.symm, 0, rfl⟩



def ofv (l : List Int) (i : Nat) : Int := if i < l.length then l.getD i 0 else 7919 * ((i : Int) + 1) * 1000003 % 18446744073709551616
theorem ofv_in (l : List Int) (i : Nat) (h : i < l.length) : ofv l i = l.getD i 0 := by simp [ofv, h]
theorem ofv_out (l : List Int) (i : Nat) (h : ¬ i < l.length) : ofv l i = 7919 * ((i : Int) + 1) * 1000003 % 18446744073709551616 := by simp only [ofv, h, if_false]
theorem ofv_bd (l : List Int) (i : Nat) (h : ∀ x ∈ l, (Lit.int .u64 x).wf = true) : 0 ≤ ofv l i ∧ ofv l i ≤ 18446744073709551615 := by
  by_cases hi : i < l.length
  · rw [ofv_in l i hi]; exact wf_u64.1 (h _ (getD_mem l i 0 hi))
  · rw [ofv_out l i hi]; omega

set_option maxHeartbeats 400000 in
theorem of_any (ao : Option Addr) (n cap : Nat) (l : List Int) (i : Nat) (w : World) (hn : n = l.length) (hl : l.length ≤ 140737488355328) (hi : i ≤ 281474976710656) (hI : Ints .u64 w ao l) :
    Calls Try.prog 60 #[.slice ao n cap, .int .i64 i] w fun e w' => e = .returned (.int .u64 (ofv l i)) ∧ w = w' := by
  subst hn
  obtain ⟨b, off, hao, hc⟩ := hI.at
  clear hI
  by_cases hlt : i < l.length
  · rcases hao with hn | rfl
    · omega
    have hcell := hc.out i hlt
    have hV := hid (ofv_in l i hlt)
    generalize l.getD i 0 = x at *
    go_enter Try.func60, Try.ntmps60
    go_wp2
    go_ret
    exact ⟨ret_int hV.out.symm, rfl⟩
  · have hV := hid (ofv_out l i hlt)
    clear hao
    go_enter Try.func60, Try.ntmps60
    go_wp2
    go_ret
    refine ⟨?_, rfl⟩
    rw [hV.out]
    first | rfl | exact ret_int rfl

def wid (w : Int) : Nat := if w = 1 then 1 else if w = 2 then 2 else if w = 4 then 4 else 8
theorem wid_cases (w : Int) : wid w = 1 ∨ wid w = 2 ∨ wid w = 4 ∨ wid w = 8 := by
  unfold wid
  repeat' split
  all_goals simp

set_option maxHeartbeats 400000 in
theorem width_any (x : Int) (w : World) (hx : -9223372036854775808 ≤ x ∧ x ≤ 9223372036854775807) :
    Calls Try.prog 22 #[.int .i64 x] w fun e w' => e = .returned (.int .i64 (wid x)) ∧ w = w' := by
  by_cases h1 : x = 1
  · subst h1
    go_enter Try.func22, Try.ntmps22
    go_wp2
    go_ret
    exact ⟨rfl, rfl⟩
  by_cases h2 : x = 2
  · subst h2
    go_enter Try.func22, Try.ntmps22
    go_wp2
    go_ret
    exact ⟨rfl, rfl⟩
  by_cases h4 : x = 4
  · subst h4
    go_enter Try.func22, Try.ntmps22
    go_wp2
    go_ret
    exact ⟨rfl, rfl⟩
  have hV : Hid (wid x = 8) := by unfold Hid wid; rw [if_neg h1, if_neg h2, if_neg h4]
  have e1 : (x == 1) = false := beq_eq_false_iff_ne.2 h1
  have e2 : (x == 2) = false := beq_eq_false_iff_ne.2 h2
  have e4 : (x == 4) = false := beq_eq_false_iff_ne.2 h4
  go_enter Try.func22, Try.ntmps22
  go_wp2
  go_ret
  exact ⟨by rw [hV.out]; rfl, rfl⟩

def cutL (w : Nat) (l : List Int) : List Int := l.map fun x => x % 256 ^ w
theorem cutL_len (w : Nat) (l : List Int) : (cutL w l).length = l.length := by simp [cutL]
theorem cutL_bd (w : Nat) (l : List Int) : ∀ x ∈ cutL w l, 0 ≤ x ∧ x < 256 ^ w := by
  intro x hx
  obtain ⟨y, _, rfl⟩ := List.mem_map.1 hx
  have : (0 : Int) < 256 ^ w := Int.pow_pos (by decide)
  exact ⟨Int.emod_nonneg _ (by omega), Int.emod_lt_of_pos _ this⟩
theorem cutL_take_succ (w : Nat) (l : List Int) (k : Nat) (h : k < l.length) : cutL w (l.take (k + 1)) = cutL w (l.take k) ++ [l.getD k 0 % 256 ^ w] := by
  rw [take_snoc l k 0 h]; simp [cutL]


set_option maxHeartbeats 1000000 in
theorem cut1 (ao : Option Addr) (n cap : Nat) (l : List Int) (w : World) (hn : n = l.length) (hl : l.length * 8 ≤ 140737488351240) (hi : Ints .u64 w ao l) :
    Calls Try.prog 23 #[.int .i64 1, .slice ao n cap] w fun e w' => ∃ v, e = .returned v ∧ w'.ownsRow w.heap.size 46 1 v n ((cutL 1 l).map (Value.int .u64)) ∧ Below w.heap.size w w' := by
  subst hn
  obtain ⟨b, off, hao, hc⟩ := hi.at
  have hwf := hid hi.wf
  clear hi
  rcases hao with hn | rfl
  all_goals
    go_enter Try.func23, Try.ntmps23
    go_wp2
    go_loopw [5, 6] (fun v i wr => ∃ k : Nat, k ≤ l.length ∧ i = .int .i64 k ∧ wr.ownsRow w.heap.size 46 1 v k ((cutL 1 (l.take k)).map (Value.int .u64)) ∧ Below w.heap.size w wr) (fun _ i _ => l.length - (intOf i).toNat)
    case atStart => exact ⟨0, Nat.zero_le _, rfl, by simpa [cutL] using World.ownsRow_nil w w.heap.size 46 1, Below.refl _ _⟩
    case round =>
      obtain ⟨k, hk, rfl, hown, hb⟩ := hrel
      by_cases hlt : k < l.length
      · first
        | omega
        | have hcell := hc.out k hlt
          have hsz := hb.size
          have hcell' : wr.cell? ⟨b, off + k, none⟩ = some (.int .u64 (l.getD k 0)) := (hb.cell (World.block_lt_of_cell? w _ hcell)).trans hcell
          clear hcell
          have hx := wf_u64.1 (hwf.out _ (getD_mem l k 0 hlt))
          have HX := hid (cutL_take_succ 1 l k hlt)
          generalize l.getD k 0 = x at *
          have hmod : Hid (x % 256 ^ 1 = x % 256) := by unfold Hid; omega
          rw [hmod.out] at HX
          have hO := hid hown
          have hB := hid hb
          clear hown hb
          go_wp2_with (at_builtin; go_must (refine wpList_append_new rfl _ _ 36 rfl w.heap.size 46 46 (.int .u64 0) 1 8 1 Try.underlying36 Try.info46 rfl (by decide) _ k _ [.int .u64 (x % 256)] (0, 0) hO.out rfl (by simp [Value.oneCell']) (by unfold maxLen; omega) (by omega) hsz rfl rfl ?_); intro v' w1 hown' hb' _)
          go_roundw
          case rel => exact ⟨k + 1, by omega, by go_num, by rw [HX.out]; simpa using hown', hB.out.trans hb'⟩
          case measure => simp [intOf]; omega
      · have hke : Hid (l.take k = l) := List.take_of_length_le (by omega)
        rw [hke.out] at hown
        obtain ⟨m, hm⟩ : ∃ m, m = l.length := ⟨_, rfl⟩
        obtain rfl : k = m := by omega
        have hL : Hid (k = l.length) := hm
        clear hm
        have hO := hid hown
        clear hown
        go_wp2_with fail
        go_ret
        exact ⟨_, rfl, by rw [← hL.out]; exact hO.out, hb⟩


set_option maxHeartbeats 1000000 in
theorem cut2 (ao : Option Addr) (n cap : Nat) (l : List Int) (w : World) (hn : n = l.length) (hl : l.length * 8 ≤ 140737488351240) (hi : Ints .u64 w ao l) :
    Calls Try.prog 23 #[.int .i64 2, .slice ao n cap] w fun e w' => ∃ v, e = .returned v ∧ w'.ownsRow w.heap.size 46 1 v n ((cutL 2 l).map (Value.int .u64)) ∧ Below w.heap.size w w' := by
  subst hn
  obtain ⟨b, off, hao, hc⟩ := hi.at
  have hwf := hid hi.wf
  clear hi
  rcases hao with hn | rfl
  all_goals
    go_enter Try.func23, Try.ntmps23
    go_wp2
    go_loopw [5, 6] (fun v i wr => ∃ k : Nat, k ≤ l.length ∧ i = .int .i64 k ∧ wr.ownsRow w.heap.size 46 1 v k ((cutL 2 (l.take k)).map (Value.int .u64)) ∧ Below w.heap.size w wr) (fun _ i _ => l.length - (intOf i).toNat)
    case atStart => exact ⟨0, Nat.zero_le _, rfl, by simpa [cutL] using World.ownsRow_nil w w.heap.size 46 1, Below.refl _ _⟩
    case round =>
      obtain ⟨k, hk, rfl, hown, hb⟩ := hrel
      by_cases hlt : k < l.length
      · first
        | omega
        | have hcell := hc.out k hlt
          have hsz := hb.size
          have hcell' : wr.cell? ⟨b, off + k, none⟩ = some (.int .u64 (l.getD k 0)) := (hb.cell (World.block_lt_of_cell? w _ hcell)).trans hcell
          clear hcell
          have hx := wf_u64.1 (hwf.out _ (getD_mem l k 0 hlt))
          have HX := hid (cutL_take_succ 2 l k hlt)
          generalize l.getD k 0 = x at *
          have hmod : Hid (x % 256 ^ 2 = x % 65536) := by unfold Hid; omega
          rw [hmod.out] at HX
          have hO := hid hown
          have hB := hid hb
          clear hown hb
          go_wp2_with (at_builtin; go_must (refine wpList_append_new rfl _ _ 36 rfl w.heap.size 46 46 (.int .u64 0) 1 8 1 Try.underlying36 Try.info46 rfl (by decide) _ k _ [.int .u64 (x % 65536)] (0, 0) hO.out rfl (by simp [Value.oneCell']) (by unfold maxLen; omega) (by omega) hsz rfl rfl ?_); intro v' w1 hown' hb' _)
          go_roundw
          case rel => exact ⟨k + 1, by omega, by go_num, by rw [HX.out]; simpa using hown', hB.out.trans hb'⟩
          case measure => simp [intOf]; omega
      · have hke : Hid (l.take k = l) := List.take_of_length_le (by omega)
        rw [hke.out] at hown
        obtain ⟨m, hm⟩ : ∃ m, m = l.length := ⟨_, rfl⟩
        obtain rfl : k = m := by omega
        have hL : Hid (k = l.length) := hm
        clear hm
        have hO := hid hown
        clear hown
        go_wp2_with fail
        go_ret
        exact ⟨_, rfl, by rw [← hL.out]; exact hO.out, hb⟩


set_option maxHeartbeats 1000000 in
theorem cut4 (ao : Option Addr) (n cap : Nat) (l : List Int) (w : World) (hn : n = l.length) (hl : l.length * 8 ≤ 140737488351240) (hi : Ints .u64 w ao l) :
    Calls Try.prog 23 #[.int .i64 4, .slice ao n cap] w fun e w' => ∃ v, e = .returned v ∧ w'.ownsRow w.heap.size 46 1 v n ((cutL 4 l).map (Value.int .u64)) ∧ Below w.heap.size w w' := by
  subst hn
  obtain ⟨b, off, hao, hc⟩ := hi.at
  have hwf := hid hi.wf
  clear hi
  rcases hao with hn | rfl
  all_goals
    go_enter Try.func23, Try.ntmps23
    go_wp2
    go_loopw [5, 6] (fun v i wr => ∃ k : Nat, k ≤ l.length ∧ i = .int .i64 k ∧ wr.ownsRow w.heap.size 46 1 v k ((cutL 4 (l.take k)).map (Value.int .u64)) ∧ Below w.heap.size w wr) (fun _ i _ => l.length - (intOf i).toNat)
    case atStart => exact ⟨0, Nat.zero_le _, rfl, by simpa [cutL] using World.ownsRow_nil w w.heap.size 46 1, Below.refl _ _⟩
    case round =>
      obtain ⟨k, hk, rfl, hown, hb⟩ := hrel
      by_cases hlt : k < l.length
      · first
        | omega
        | have hcell := hc.out k hlt
          have hsz := hb.size
          have hcell' : wr.cell? ⟨b, off + k, none⟩ = some (.int .u64 (l.getD k 0)) := (hb.cell (World.block_lt_of_cell? w _ hcell)).trans hcell
          clear hcell
          have hx := wf_u64.1 (hwf.out _ (getD_mem l k 0 hlt))
          have HX := hid (cutL_take_succ 4 l k hlt)
          generalize l.getD k 0 = x at *
          have hmod : Hid (x % 256 ^ 4 = x % 4294967296) := by unfold Hid; omega
          rw [hmod.out] at HX
          have hO := hid hown
          have hB := hid hb
          clear hown hb
          go_wp2_with (at_builtin; go_must (refine wpList_append_new rfl _ _ 36 rfl w.heap.size 46 46 (.int .u64 0) 1 8 1 Try.underlying36 Try.info46 rfl (by decide) _ k _ [.int .u64 (x % 4294967296)] (0, 0) hO.out rfl (by simp [Value.oneCell']) (by unfold maxLen; omega) (by omega) hsz rfl rfl ?_); intro v' w1 hown' hb' _)
          go_roundw
          case rel => exact ⟨k + 1, by omega, by go_num, by rw [HX.out]; simpa using hown', hB.out.trans hb'⟩
          case measure => simp [intOf]; omega
      · have hke : Hid (l.take k = l) := List.take_of_length_le (by omega)
        rw [hke.out] at hown
        obtain ⟨m, hm⟩ : ∃ m, m = l.length := ⟨_, rfl⟩
        obtain rfl : k = m := by omega
        have hL : Hid (k = l.length) := hm
        clear hm
        have hO := hid hown
        clear hown
        go_wp2_with fail
        go_ret
        exact ⟨_, rfl, by rw [← hL.out]; exact hO.out, hb⟩


set_option maxHeartbeats 1000000 in
theorem cut8 (ao : Option Addr) (n cap : Nat) (l : List Int) (w : World) (hn : n = l.length) (hl : l.length * 8 ≤ 140737488351240) (hi : Ints .u64 w ao l) :
    Calls Try.prog 23 #[.int .i64 8, .slice ao n cap] w fun e w' => ∃ v, e = .returned v ∧ w'.ownsRow w.heap.size 46 1 v n ((cutL 8 l).map (Value.int .u64)) ∧ Below w.heap.size w w' := by
  subst hn
  obtain ⟨b, off, hao, hc⟩ := hi.at
  have hwf := hid hi.wf
  clear hi
  rcases hao with hn | rfl
  all_goals
    go_enter Try.func23, Try.ntmps23
    go_wp2
    go_loopw [5, 6] (fun v i wr => ∃ k : Nat, k ≤ l.length ∧ i = .int .i64 k ∧ wr.ownsRow w.heap.size 46 1 v k ((cutL 8 (l.take k)).map (Value.int .u64)) ∧ Below w.heap.size w wr) (fun _ i _ => l.length - (intOf i).toNat)
    case atStart => exact ⟨0, Nat.zero_le _, rfl, by simpa [cutL] using World.ownsRow_nil w w.heap.size 46 1, Below.refl _ _⟩
    case round =>
      obtain ⟨k, hk, rfl, hown, hb⟩ := hrel
      by_cases hlt : k < l.length
      · first
        | omega
        | have hcell := hc.out k hlt
          have hsz := hb.size
          have hcell' : wr.cell? ⟨b, off + k, none⟩ = some (.int .u64 (l.getD k 0)) := (hb.cell (World.block_lt_of_cell? w _ hcell)).trans hcell
          clear hcell
          have hx := wf_u64.1 (hwf.out _ (getD_mem l k 0 hlt))
          have HX := hid (cutL_take_succ 8 l k hlt)
          generalize l.getD k 0 = x at *
          have hmod : Hid (x % 256 ^ 8 = x) := by unfold Hid; omega
          rw [hmod.out] at HX
          have hO := hid hown
          have hB := hid hb
          clear hown hb
          go_wp2_with (at_builtin; go_must (refine wpList_append_new rfl _ _ 36 rfl w.heap.size 46 46 (.int .u64 0) 1 8 1 Try.underlying36 Try.info46 rfl (by decide) _ k _ [.int .u64 (x)] (0, 0) hO.out rfl (by simp [Value.oneCell']) (by unfold maxLen; omega) (by omega) hsz rfl rfl ?_); intro v' w1 hown' hb' _)
          go_roundw
          case rel => exact ⟨k + 1, by omega, by go_num, by rw [HX.out]; simpa using hown', hB.out.trans hb'⟩
          case measure => simp [intOf]; omega
      · have hke : Hid (l.take k = l) := List.take_of_length_le (by omega)
        rw [hke.out] at hown
        obtain ⟨m, hm⟩ : ∃ m, m = l.length := ⟨_, rfl⟩
        obtain rfl : k = m := by omega
        have hL : Hid (k = l.length) := hm
        clear hm
        have hO := hid hown
        clear hown
        go_wp2_with fail
        go_ret
        exact ⟨_, rfl, by rw [← hL.out]; exact hO.out, hb⟩

end Go.Proofs.Ytdhicfolchpmhaa
