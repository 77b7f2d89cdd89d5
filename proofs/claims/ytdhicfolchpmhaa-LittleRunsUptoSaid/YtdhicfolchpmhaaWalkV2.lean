/- Walks: Put, All, At, With at width 2. -/
import Derived.Test.YtdhicfolchpmhaaWalkW2
import Derived.Test.YtdhicfolchpmhaaKitB
namespace Go.Proofs.Ytdhicfolchpmhaa
open Go.RowKit
set_option linter.unusedVariables false
set_option linter.unusedSimpArgs false

set_option maxHeartbeats 1000000 in
theorem put2 (ao : Option Addr) (n cap : Nat) (l : List Int) (w : World) (hn : n = l.length) (hl : l.length * 2 ≤ 140737488351232) (hi : Ints .u16 w ao l) :
    Calls Try.prog 62 #[.slice ao n cap] w fun e w' => ∃ v, e = .returned v ∧ w'.ownsRow w.heap.size 5 1 v (n * 2) ((putL 2 l).map (Value.int .u8)) ∧ Below w.heap.size w w' := by
  subst hn
  obtain ⟨b, off, hao, hc⟩ := hi.at
  have hwf := hid hi.wf
  clear hi
  rcases hao with hn | rfl
  all_goals
    go_enter Try.func62, Try.ntmps62
    go_wp2
    go_loopw [3, 8] (fun v i wr => ∃ k : Nat, k ≤ l.length ∧ i = .int .i64 k ∧ wr.ownsRow w.heap.size 5 1 v (k * 2) ((putL 2 (l.take k)).map (Value.int .u8)) ∧ Below w.heap.size w wr) (fun _ i _ => l.length - (intOf i).toNat)
    case atStart => exact ⟨0, Nat.zero_le _, rfl, by simpa [putL] using World.ownsRow_nil w w.heap.size 5 1, Below.refl _ _⟩
    case round =>
      obtain ⟨k, hk, rfl, hown, hb⟩ := hrel
      by_cases hlt : k < l.length
      · first
        | omega
        | have hcell := hc.out k hlt
          have hsz := hb.size
          have hcell' : wr.cell? ⟨b, off + k, none⟩ = some (.int .u16 (l.getD k 0)) := (hb.cell (World.block_lt_of_cell? w _ hcell)).trans hcell
          clear hcell
          have hx := wf_u16.1 (hwf.out _ (getD_mem l k 0 hlt))
          have HX := hid (putL_take_succ 2 l k hlt)
          have hkl : k * 2 + 2 ≤ 140737488355328 := by omega
          generalize l.getD k 0 = x at *
          have hO := hid hown
          have hB := hid hb
          clear hown hb
          go_wp2_with (go_at_call 89; go_must (refine (lay2 w.heap.size (k * 2) _ _ x _ hx hO.out hsz hkl).mono ?_); rintro e w1 ⟨v1, rfl, hown', hb'⟩)
          go_roundw
          case rel => exact ⟨k + 1, by omega, by go_num, by rw [HX.out, List.map_append, Nat.succ_mul]; exact hown', hB.out.trans hb'⟩
          case measure => simp [intOf]; omega
      · have hke : Hid (l.take k = l) := List.take_of_length_le (by omega)
        rw [hke.out] at hown
        obtain ⟨m, hm⟩ : ∃ m, m = l.length := ⟨_, rfl⟩
        obtain rfl : k = m := by omega
        have hL : Hid (k = l.length) := hm
        clear hm
        have hO := hid hown
        clear hown
        go_wp2_with fail
        go_ret
        exact ⟨_, rfl, by rw [← hL.out]; exact hO.out, hb⟩

set_option maxHeartbeats 1000000 in
theorem allNo2 (ao : Option Addr) (n cap : Nat) (w : World) (hl : n ≤ 140737488355328) (hm : n % 2 ≠ 0) :
    Calls Try.prog 66 #[.slice ao n cap] w fun e w' => e = .returned (.tuple #[.slice none 0 0, .int .i64 21]) ∧ w = w' := by
  have ht : (((n : Int) % 2) != 0) = true := by rw [bne_iff_ne]; omega
  go_enter Try.func66, Try.ntmps66
  go_wp2_with (go_at_call 94; go_must (refine (width2 _).mono ?_); rintro e w' ⟨rfl, rfl⟩)
  go_ret2
  exact ⟨rfl, rfl⟩

set_option maxHeartbeats 1000000 in
theorem all2 (ao : Option Addr) (n cap : Nat) (l : List Int) (w : World) (hn : n = l.length) (hl : l.length ≤ 140737488351232) (hcap : l.length ≤ cap) (hi : Ints .u8 w ao l) (hm : n % 2 = 0) :
    Calls Try.prog 66 #[.slice ao n cap] w fun e w' => ∃ v, e = .returned (.tuple #[v, .int .i64 0]) ∧ w'.ownsRow w.heap.size 114 1 v (n / 2) ((allL 2 l).map (Value.int .u16)) ∧ Below w.heap.size w w' := by
  subst hn
  obtain ⟨b, off, hao, hc⟩ := hi.at
  have hbyt := hid (byt_of_ints hi)
  clear hi
  have ht : (((l.length : Int) % 2) != 0) = false := by rw [bne_eq_false_iff_eq]; omega
  have hmod := hid hm
  clear hm
  have hq := hid (Nat.div_add_mod l.length 2)
  rcases hao with hn | rfl
  all_goals
    go_enter Try.func66, Try.ntmps66
    go_wp2_with (go_at_call 94; go_must (refine (width2 _).mono ?_); rintro e w' ⟨rfl, rfl⟩)
    go_loopw [5, 6] (fun v i wr => ∃ k j : Nat, Hid (j = k * 2) ∧ k ≤ l.length / 2 ∧ j ≤ l.length ∧ i = .int .i64 j ∧ wr.ownsRow w.heap.size 114 1 v k (((List.range k).map fun i => num (chunk 2 l i)).map (Value.int .u16)) ∧ Below w.heap.size w wr) (fun _ i _ => l.length - (intOf i).toNat)
    case atStart => exact ⟨0, 0, rfl, Nat.zero_le _, Nat.zero_le _, rfl, World.ownsRow_nil _ _ _ _, Below.refl _ _⟩
    case round =>
      obtain ⟨k, j, hj, hkq, hjl, rfl, hown, hb⟩ := hrel
      by_cases hlt : j < l.length
      · first
        | omega
        | have hjW : j + 2 ≤ l.length := by have := hj.out; have := hmod.out; omega
          have hkn : k + 1 ≤ l.length / 2 := by have := hj.out; omega
          have hjc : ¬ cap = j := by omega
          have hjn : j ≤ l.length := by omega
          have hsz := hb.size
          have hch : Hid ((chunk 2 l k).length = 2) := chunk_len (by have := hj.out; omega)
          have hcells : Hid (∀ i, i < 2 → wr.cell? ⟨b, off + j + i, none⟩ = some (.int .u8 ((chunk 2 l k).getD i 0))) := by
            intro i hi
            have h1 := hc.out (j + i) (by omega)
            rw [← Nat.add_assoc] at h1
            rw [(hb.cell (World.block_lt_of_cell? w _ h1)).trans h1]
            have := hj.out
            subst this
            simp [chunk, List.getD, List.getElem?_take, hi]
          have hbd := num_bd _ (chunk_byt hbyt.out (w := 2) k)
          rw [hch.out] at hbd
          have HX := hid (range_snoc (fun i => num (chunk 2 l i)) k)
          have hO := hid hown
          have hB := hid hb
          clear hown hb
          go_wp2_with (first
            | (go_at_call 95; go_must (refine (take2 b (off + j) _ _ (chunk 2 l k) _ hch.out (by omega) (chunk_byt hbyt.out k) hcells).mono ?_); rintro e w' ⟨rfl, rfl⟩)
            | (at_builtin; go_must (refine wpList_append_new rfl _ _ 113 rfl w.heap.size 114 114 (.int .u16 0) 1 2 1 Try.underlying113 Try.infoE2 rfl (by decide) _ k _ [.int .u16 (num (chunk 2 l k))] (0, 0) hO.out rfl (by simp [Value.oneCell']) (by unfold maxLen; omega) (by omega) hsz rfl rfl ?_); intro v' w1 hown' hb' _))
          go_roundw
          case rel => exact ⟨k + 1, j + 2, (by unfold Hid; have := hj.out; omega), hkn, by omega, by go_num, by rw [HX.out]; simpa using hown', hB.out.trans hb'⟩
          case measure => simp [intOf]; omega
      · have hke : Hid (k = l.length / 2) := by unfold Hid; have := hj.out; have := hmod.out; omega
        have hO := hid hown
        clear hown
        go_wp2_with fail
        go_ret2
        exact ⟨_, rfl, by rw [← hke.out]; have := hO.out; rw [hke.out] at this ⊢; exact this, hb⟩

set_option maxHeartbeats 1000000 in
theorem atNo2 (ao : Option Addr) (n cap : Nat) (at_ : Int) (w : World) (hat : -9223372036854775808 ≤ at_ ∧ at_ ≤ 9223372036854775807) (hl : n ≤ 140737488355328) (h : ¬ (0 ≤ at_ ∧ at_ + 2 ≤ (n : Int))) :
    Calls Try.prog 71 #[.slice ao n cap, .int .i64 at_] w fun e w' => e = .returned (.tuple #[.int .u16 0, .int .i64 20]) ∧ w = w' := by
  have hd := hid (decide_eq_false h)
  clear h
  go_enter Try.func71, Try.ntmps71
  go_wp2_with fail
  refine (has2 _ _ _ _ _ hat hl).mono ?_
  rintro e w' ⟨rfl, rfl⟩
  rw [hd.out]
  go_wp2_with fail
  go_ret2
  exact ⟨rfl, rfl⟩

set_option maxHeartbeats 1000000 in
theorem at2 (ao : Option Addr) (n cap : Nat) (l : List Int) (k : Nat) (w : World) (hn : n = l.length) (hl : l.length ≤ 140737488351232) (hcap : l.length ≤ cap) (hi : Ints .u8 w ao l) (hk : k + 2 ≤ l.length) :
    Calls Try.prog 71 #[.slice ao n cap, .int .i64 k] w fun e w' => e = .returned (.tuple #[.int .u16 (num ((l.drop k).take 2)), .int .i64 0]) ∧ w = w' := by
  subst hn
  have hd : Hid (decide (0 ≤ (k : Int) ∧ (k : Int) + 2 ≤ (l.length : Int)) = true) := by unfold Hid; rw [decide_eq_true_iff]; omega
  obtain ⟨b, off, hao, hc⟩ := hi.at
  have hbyt := hid (byt_of_ints hi)
  clear hi
  rcases hao with hn | rfl
  · omega
  have hkl : k ≤ l.length := by omega
  have hck : ¬ cap = k := by omega
  have hch : Hid (((l.drop k).take 2).length = 2) := by unfold Hid; rw [List.length_take, List.length_drop]; omega
  have hcells : Hid (∀ i, i < 2 → w.cell? ⟨b, off + k + i, none⟩ = some (.int .u8 (((l.drop k).take 2).getD i 0))) := by
    intro i hi
    have h1 := hc.out (k + i) (by omega)
    rw [← Nat.add_assoc] at h1
    rw [h1]
    simp [List.getD, List.getElem?_take, hi]
  have hbb := hid (show Byt ((l.drop k).take 2) from fun b hb' => hbyt.out b (List.mem_of_mem_drop (List.mem_of_mem_take hb')))
  generalize (l.drop k).take 2 = c at *
  go_enter Try.func71, Try.ntmps71
  go_wp2_with fail
  refine (has2 _ _ _ _ _ (by omega) (by omega)).mono ?_
  rintro e w' ⟨rfl, rfl⟩
  rw [hd.out]
  go_wp2_with (go_at_call 95; go_must (refine (take2 b (off + k) _ _ c _ hch.out (by omega) hbb.out hcells).mono ?_); rintro e w' ⟨rfl, rfl⟩)
  go_ret2
  exact ⟨rfl, rfl⟩

set_option maxHeartbeats 1000000 in
theorem withNo2 (ao : Option Addr) (n cap : Nat) (at_ x : Int) (w : World) (hat : -9223372036854775808 ≤ at_ ∧ at_ ≤ 9223372036854775807) (hl : n ≤ 140737488355328) (h : ¬ (0 ≤ at_ ∧ at_ + 2 ≤ (n : Int))) :
    Calls Try.prog 74 #[.slice ao n cap, .int .i64 at_, .int .u16 x] w fun e w' => e = .returned (.tuple #[.slice none 0 0, .int .i64 20]) ∧ w = w' := by
  have hd := hid (decide_eq_false h)
  clear h
  go_enter Try.func74, Try.ntmps74
  go_wp2_with fail
  refine (has2 _ _ _ _ _ hat hl).mono ?_
  rintro e w' ⟨rfl, rfl⟩
  rw [hd.out]
  go_wp2_with fail
  go_ret2
  exact ⟨rfl, rfl⟩

set_option maxHeartbeats 1000000 in
theorem with2 (ao : Option Addr) (n cap : Nat) (l : List Int) (k : Nat) (x : Int) (w : World) (hn : n = l.length) (hl : l.length ≤ 140737488351232) (hcap : l.length ≤ cap) (hi : Ints .u8 w ao l) (hx : 0 ≤ x ∧ x ≤ 65535) (hk : k + 2 ≤ l.length) :
    Calls Try.prog 74 #[.slice ao n cap, .int .i64 k, .int .u16 x] w fun e w' => ∃ v, e = .returned (.tuple #[v, .int .i64 0]) ∧ w'.ownsRow w.heap.size 5 1 v n ((withL 2 l k x).map (Value.int .u8)) ∧ Below w.heap.size w w' := by
  subst hn
  have hd : Hid (decide (0 ≤ (k : Int) ∧ (k : Int) + 2 ≤ (l.length : Int)) = true) := by unfold Hid; rw [decide_eq_true_iff]; omega
  have hI := hid hi
  clear hi
  go_enter Try.func74, Try.ntmps74
  go_wp2_with fail
  refine (has2 _ _ _ _ _ (by omega) (by omega)).mono ?_
  rintro e w' ⟨rfl, rfl⟩
  rw [hd.out]
  go_wp2_with fail
  refine (clone_any _ _ _ l _ rfl (by omega) hI.out).mono ?_
  rintro e w1 ⟨v, rfl, hown, hb1⟩
  obtain ⟨g, c2, rfl, hg1, hg2, hnc, hcm⟩ := own_shape hown (by omega)
  obtain ⟨cur, hblk, hcl, htk⟩ := own_block hown
  have hblk' := hid hblk
  have hcl' := hid hcl
  have htk' := hid htk
  clear hown hblk hcl htk
  unfold maxLen at hcm
  have hbel1 := hid hb1
  have hkl : k ≤ l.length := by omega
  have hck : ¬ c2 = k := by omega
  clear hb1
  go_wp2_with fail
  go_region_law (first
    | (have _t := hblk2; go_loud (refine step_copy_splice rfl (.tmp 17) (.tmp 19) 23 23 rfl 5 Try.underlying23 (by kernel_rfl) (some ⟨g, k, none⟩) (some ⟨g2, 0, none⟩) (l.length - k) (c2 - k) 2 c3 rfl rfl g k cur 5 hblk2.out ((le 2 x).map (Value.int .u8)) (by rw [List.length_map, le_len]; exact (Nat.min_eq_left (by omega)).symm) (fun _ => ⟨rfl, _, rfl, hown3.out.cells rfl⟩) (by rw [hcl'.out, List.length_map, le_len]; omega) (ints_one _ _) w.heap.size w hb3.out hg1 ?_); intro w3 hg5 hb4)
    | (go_simp; go_at_call 89; refine (lay2 w1.heap.size 0 _ [] x _ hx (World.ownsRow_nil _ _ _ _) (by simp) (by omega)).mono ?_; rintro e w2 ⟨v2, rfl, hown2, hb2⟩; obtain ⟨g2, c3, rfl, hg3, hg4, hnc3, hcm3⟩ := own_shape hown2 (by omega); have hblk2 := hid ((hb2.block g hg2).trans hblk'.out); have hown3 := hid hown2; have hb3 := hid ((Below.drew hbel1.out).trans (hb2.mono hbel1.out.size)); clear hown2 hb2 hcm3))
  go_wp2_with fail
  go_ret2
  refine ⟨_, rfl, own_of_block hg1 hg5.out (by rw [splice_len _ _ _ (by rw [hcl'.out, List.length_map, le_len]; omega)]; exact hcl'.out) ?_ hnc (by unfold maxLen; omega), hb4⟩
  exact splice_with 2 l k x cur htk'.out hk

end Go.Proofs.Ytdhicfolchpmhaa
