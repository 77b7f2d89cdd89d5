/- Walks: the document's All, at every width. -/
import Derived.Test.YtdhicfolchpmhaaRefB
namespace Go.Proofs.Ytdhicfolchpmhaa
open Go.RowKit
set_option linter.unusedVariables false
set_option linter.unusedSimpArgs false

set_option maxHeartbeats 1000000 in
theorem refall1 (ao : Option Addr) (n cap : Nat) (l : List Int) (w : World) (hn : n = l.length) (hl : l.length ≤ 140737488351232) (hl8 : (allR 1 l).1.length * 8 ≤ 140737488351232) (hi : Ints .u8 w ao l) :
    Calls Try.prog 78 #[.int .i64 1, .slice ao n cap] w fun e w' => ∃ v, e = .returned (.tuple #[v, .int .i64 (allR 1 l).2]) ∧ w'.ownsRow w.heap.size 46 1 v (allR 1 l).1.length ((allR 1 l).1.map (Value.int .u64)) ∧ Below w.heap.size w w' := by
  subst hn
  have hI := hid hi
  clear hi
  by_cases hm : l.length % 1 = 0
  · have hr : allR 1 l = (allL 1 l, 0) := by unfold allR; rw [if_pos hm]
    rw [hr] at hl8 ⊢
    have hlen : (allL 1 l).length = l.length / 1 := by simp [allL]
    simp only [hlen] at hl8 ⊢
    have hrem : ((l.length : Int) % 1) = 0 := by omega
    have hremb : (((l.length : Int) % 1) != 0) = false := by rw [bne_eq_false_iff_eq]; exact hrem
    obtain ⟨q, hq⟩ : ∃ q, q = l.length / 1 := ⟨_, rfl⟩
    have hQ : l.length = q * 1 := by omega
    have hQ' := hid hQ
    rw [← hq] at hl8 ⊢
    have hAll : Hid (allL 1 l = (List.range q).map fun i => num (chunk 1 l i)) := by unfold Hid allL; rw [← hq]
    clear hr hlen hq hm hQ
    go_enter Try.func78, Try.ntmps78
    go_wp2_with fail
    clear hrem hremb
    go_loopw [6, 7] (fun v i wr => ∃ j : Nat, j ≤ q ∧ i = .int .i64 (j : Int) ∧ wr.ownsRow w.heap.size 46 1 v j (((List.range j).map (fun i => num (chunk 1 l i))).map (Value.int .u64)) ∧ Below w.heap.size w wr) (fun _ i _ => l.length - (intOf i).toNat)
    case atStart => exact ⟨0, Nat.zero_le _, by simp, by simpa using World.ownsRow_nil _ _ _ _, Below.refl _ _⟩
    case round =>
      obtain ⟨j, hj, rfl, hown, hb⟩ := hrel
      have hO := hid hown
      have hB := hid hb
      have hsz := hb.size
      clear hown hb
      by_cases hlt : j < q
      · have hx1 : ((j * 1 : Nat) : Int) < (l.length : Int) := by have := hQ'.out; omega
        have hx2 : (j : Int) * 1 < (l.length : Int) := by have := hQ'.out; omega
        have hIr := hid (hI.out.mono hB.out)
        have HR := hid (range_snoc (fun i : Nat => num (chunk 1 l i)) j)
        obtain ⟨y, hy⟩ : ∃ y, y = num ((l.drop (j * 1)).take 1) := ⟨_, rfl⟩
        have hy' := hid hy
        have hcall : Hid (∀ W' : World, Ints .u8 W' ao l → Calls Try.prog 104 #[.int .i64 1, .slice ao l.length cap, .int .i64 (j : Int)] W' fun e w' => e = .returned (.int .u64 y) ∧ W' = w') :=
          fun W' hI' => hy ▸ number104' 1 (by decide) (by decide) ao l.length cap l (j * 1) W' 1 (j : Int) rfl (by simp) rfl hl hI' (by have := hQ'.out; omega)
        have hw4 : IntKind.i64.wrap ((j : Int) * 1 + 1) = (j : Int) * 1 + 1 := IntWalk.i64_in _ (by have := hQ'.out; omega)
        clear hy
        go_wp2_with (first | (go_at_call 104; go_must (refine (hcall.out _ hIr.out).mono ?_); rintro e w' ⟨rfl, rfl⟩) | (at_builtin; go_must (refine wpList_append_new rfl _ _ 36 rfl w.heap.size 46 46 (.int .u64 0) 1 8 1 Try.underlying36 Try.info46 rfl (by decide) _ j _ [.int .u64 y] (0, 0) hO.out rfl (by simp [Value.oneCell']) (by unfold maxLen; omega) (by omega) hsz rfl rfl ?_); intro v' w1 hown' hb' _))
        go_roundw
        case rel => exact ⟨j + 1, by omega, val_int (by omega), by rw [HR.out]; have e := hy'.out; simp only [chunk, List.map_append, List.map_cons, List.map_nil] at hown' ⊢; rw [← e]; exact hown', hB.out.trans hb'⟩
        case measure => have := hQ'.out; simp [intOf]; omega
      · obtain rfl : j = q := by omega
        have hx1 : ¬ ((j * 1 : Nat) : Int) < (l.length : Int) := by have := hQ'.out; omega
        have hx2 : ¬ (j : Int) * 1 < (l.length : Int) := by have := hQ'.out; omega
        go_wp2_with fail
        go_ret2
        exact ⟨_, rfl, by rw [hAll.out]; exact hO.out, hB.out⟩
  · exact absurd (Nat.mod_one _) hm

set_option maxHeartbeats 1000000 in
theorem refall2 (ao : Option Addr) (n cap : Nat) (l : List Int) (w : World) (hn : n = l.length) (hl : l.length ≤ 140737488351232) (hl8 : (allR 2 l).1.length * 8 ≤ 140737488351232) (hi : Ints .u8 w ao l) :
    Calls Try.prog 78 #[.int .i64 2, .slice ao n cap] w fun e w' => ∃ v, e = .returned (.tuple #[v, .int .i64 (allR 2 l).2]) ∧ w'.ownsRow w.heap.size 46 1 v (allR 2 l).1.length ((allR 2 l).1.map (Value.int .u64)) ∧ Below w.heap.size w w' := by
  subst hn
  have hI := hid hi
  clear hi
  by_cases hm : l.length % 2 = 0
  · have hr : allR 2 l = (allL 2 l, 0) := by unfold allR; rw [if_pos hm]
    rw [hr] at hl8 ⊢
    have hlen : (allL 2 l).length = l.length / 2 := by simp [allL]
    simp only [hlen] at hl8 ⊢
    have hrem : ((l.length : Int) % 2) = 0 := by omega
    have hremb : (((l.length : Int) % 2) != 0) = false := by rw [bne_eq_false_iff_eq]; exact hrem
    obtain ⟨q, hq⟩ : ∃ q, q = l.length / 2 := ⟨_, rfl⟩
    have hQ : l.length = q * 2 := by omega
    have hQ' := hid hQ
    rw [← hq] at hl8 ⊢
    have hAll : Hid (allL 2 l = (List.range q).map fun i => num (chunk 2 l i)) := by unfold Hid allL; rw [← hq]
    clear hr hlen hq hm hQ
    go_enter Try.func78, Try.ntmps78
    go_wp2_with fail
    clear hrem hremb
    go_loopw [6, 7] (fun v i wr => ∃ j : Nat, j ≤ q ∧ i = .int .i64 ((j : Int) * 2) ∧ wr.ownsRow w.heap.size 46 1 v j (((List.range j).map (fun i => num (chunk 2 l i))).map (Value.int .u64)) ∧ Below w.heap.size w wr) (fun _ i _ => l.length - (intOf i).toNat)
    case atStart => exact ⟨0, Nat.zero_le _, by simp, by simpa using World.ownsRow_nil _ _ _ _, Below.refl _ _⟩
    case round =>
      obtain ⟨j, hj, rfl, hown, hb⟩ := hrel
      have hO := hid hown
      have hB := hid hb
      have hsz := hb.size
      clear hown hb
      by_cases hlt : j < q
      · have hx1 : ((j * 2 : Nat) : Int) < (l.length : Int) := by have := hQ'.out; omega
        have hx2 : (j : Int) * 2 < (l.length : Int) := by have := hQ'.out; omega
        have hIr := hid (hI.out.mono hB.out)
        have HR := hid (range_snoc (fun i : Nat => num (chunk 2 l i)) j)
        obtain ⟨y, hy⟩ : ∃ y, y = num ((l.drop (j * 2)).take 2) := ⟨_, rfl⟩
        have hy' := hid hy
        have hcall : Hid (∀ W' : World, Ints .u8 W' ao l → Calls Try.prog 104 #[.int .i64 2, .slice ao l.length cap, .int .i64 ((j : Int) * 2)] W' fun e w' => e = .returned (.int .u64 y) ∧ W' = w') :=
          fun W' hI' => hy ▸ number104' 2 (by decide) (by decide) ao l.length cap l (j * 2) W' 2 ((j : Int) * 2) rfl (by simp) rfl hl hI' (by have := hQ'.out; omega)
        have hw4 : IntKind.i64.wrap ((j : Int) * 2 + 2) = (j : Int) * 2 + 2 := IntWalk.i64_in _ (by have := hQ'.out; omega)
        clear hy
        go_wp2_with (first | (go_at_call 104; go_must (refine (hcall.out _ hIr.out).mono ?_); rintro e w' ⟨rfl, rfl⟩) | (at_builtin; go_must (refine wpList_append_new rfl _ _ 36 rfl w.heap.size 46 46 (.int .u64 0) 1 8 1 Try.underlying36 Try.info46 rfl (by decide) _ j _ [.int .u64 y] (0, 0) hO.out rfl (by simp [Value.oneCell']) (by unfold maxLen; omega) (by omega) hsz rfl rfl ?_); intro v' w1 hown' hb' _))
        go_roundw
        case rel => exact ⟨j + 1, by omega, val_int (by omega), by rw [HR.out]; have e := hy'.out; simp only [chunk, List.map_append, List.map_cons, List.map_nil] at hown' ⊢; rw [← e]; exact hown', hB.out.trans hb'⟩
        case measure => have := hQ'.out; simp [intOf]; omega
      · obtain rfl : j = q := by omega
        have hx1 : ¬ ((j * 2 : Nat) : Int) < (l.length : Int) := by have := hQ'.out; omega
        have hx2 : ¬ (j : Int) * 2 < (l.length : Int) := by have := hQ'.out; omega
        go_wp2_with fail
        go_ret2
        exact ⟨_, rfl, by rw [hAll.out]; exact hO.out, hB.out⟩
  · have hr : Hid (allR 2 l = ([], 21)) := by unfold Hid allR; rw [if_neg hm]
    have hremb : (((l.length : Int) % 2) != 0) = true := by rw [bne_iff_ne]; omega
    clear hl8
    go_enter Try.func78, Try.ntmps78
    go_wp2_with fail
    go_ret2
    refine ⟨.slice none 0 0, ?_, ?_, Below.refl _ _⟩
    · rw [hr.out]; rfl
    · rw [hr.out]; exact World.ownsRow_nil _ _ _ _

set_option maxHeartbeats 1000000 in
theorem refall4 (ao : Option Addr) (n cap : Nat) (l : List Int) (w : World) (hn : n = l.length) (hl : l.length ≤ 140737488351232) (hl8 : (allR 4 l).1.length * 8 ≤ 140737488351232) (hi : Ints .u8 w ao l) :
    Calls Try.prog 78 #[.int .i64 4, .slice ao n cap] w fun e w' => ∃ v, e = .returned (.tuple #[v, .int .i64 (allR 4 l).2]) ∧ w'.ownsRow w.heap.size 46 1 v (allR 4 l).1.length ((allR 4 l).1.map (Value.int .u64)) ∧ Below w.heap.size w w' := by
  subst hn
  have hI := hid hi
  clear hi
  by_cases hm : l.length % 4 = 0
  · have hr : allR 4 l = (allL 4 l, 0) := by unfold allR; rw [if_pos hm]
    rw [hr] at hl8 ⊢
    have hlen : (allL 4 l).length = l.length / 4 := by simp [allL]
    simp only [hlen] at hl8 ⊢
    have hrem : ((l.length : Int) % 4) = 0 := by omega
    have hremb : (((l.length : Int) % 4) != 0) = false := by rw [bne_eq_false_iff_eq]; exact hrem
    obtain ⟨q, hq⟩ : ∃ q, q = l.length / 4 := ⟨_, rfl⟩
    have hQ : l.length = q * 4 := by omega
    have hQ' := hid hQ
    rw [← hq] at hl8 ⊢
    have hAll : Hid (allL 4 l = (List.range q).map fun i => num (chunk 4 l i)) := by unfold Hid allL; rw [← hq]
    clear hr hlen hq hm hQ
    go_enter Try.func78, Try.ntmps78
    go_wp2_with fail
    clear hrem hremb
    go_loopw [6, 7] (fun v i wr => ∃ j : Nat, j ≤ q ∧ i = .int .i64 ((j : Int) * 4) ∧ wr.ownsRow w.heap.size 46 1 v j (((List.range j).map (fun i => num (chunk 4 l i))).map (Value.int .u64)) ∧ Below w.heap.size w wr) (fun _ i _ => l.length - (intOf i).toNat)
    case atStart => exact ⟨0, Nat.zero_le _, by simp, by simpa using World.ownsRow_nil _ _ _ _, Below.refl _ _⟩
    case round =>
      obtain ⟨j, hj, rfl, hown, hb⟩ := hrel
      have hO := hid hown
      have hB := hid hb
      have hsz := hb.size
      clear hown hb
      by_cases hlt : j < q
      · have hx1 : ((j * 4 : Nat) : Int) < (l.length : Int) := by have := hQ'.out; omega
        have hx2 : (j : Int) * 4 < (l.length : Int) := by have := hQ'.out; omega
        have hIr := hid (hI.out.mono hB.out)
        have HR := hid (range_snoc (fun i : Nat => num (chunk 4 l i)) j)
        obtain ⟨y, hy⟩ : ∃ y, y = num ((l.drop (j * 4)).take 4) := ⟨_, rfl⟩
        have hy' := hid hy
        have hcall : Hid (∀ W' : World, Ints .u8 W' ao l → Calls Try.prog 104 #[.int .i64 4, .slice ao l.length cap, .int .i64 ((j : Int) * 4)] W' fun e w' => e = .returned (.int .u64 y) ∧ W' = w') :=
          fun W' hI' => hy ▸ number104' 4 (by decide) (by decide) ao l.length cap l (j * 4) W' 4 ((j : Int) * 4) rfl (by simp) rfl hl hI' (by have := hQ'.out; omega)
        have hw4 : IntKind.i64.wrap ((j : Int) * 4 + 4) = (j : Int) * 4 + 4 := IntWalk.i64_in _ (by have := hQ'.out; omega)
        clear hy
        go_wp2_with (first | (go_at_call 104; go_must (refine (hcall.out _ hIr.out).mono ?_); rintro e w' ⟨rfl, rfl⟩) | (at_builtin; go_must (refine wpList_append_new rfl _ _ 36 rfl w.heap.size 46 46 (.int .u64 0) 1 8 1 Try.underlying36 Try.info46 rfl (by decide) _ j _ [.int .u64 y] (0, 0) hO.out rfl (by simp [Value.oneCell']) (by unfold maxLen; omega) (by omega) hsz rfl rfl ?_); intro v' w1 hown' hb' _))
        go_roundw
        case rel => exact ⟨j + 1, by omega, val_int (by omega), by rw [HR.out]; have e := hy'.out; simp only [chunk, List.map_append, List.map_cons, List.map_nil] at hown' ⊢; rw [← e]; exact hown', hB.out.trans hb'⟩
        case measure => have := hQ'.out; simp [intOf]; omega
      · obtain rfl : j = q := by omega
        have hx1 : ¬ ((j * 4 : Nat) : Int) < (l.length : Int) := by have := hQ'.out; omega
        have hx2 : ¬ (j : Int) * 4 < (l.length : Int) := by have := hQ'.out; omega
        go_wp2_with fail
        go_ret2
        exact ⟨_, rfl, by rw [hAll.out]; exact hO.out, hB.out⟩
  · have hr : Hid (allR 4 l = ([], 21)) := by unfold Hid allR; rw [if_neg hm]
    have hremb : (((l.length : Int) % 4) != 0) = true := by rw [bne_iff_ne]; omega
    clear hl8
    go_enter Try.func78, Try.ntmps78
    go_wp2_with fail
    go_ret2
    refine ⟨.slice none 0 0, ?_, ?_, Below.refl _ _⟩
    · rw [hr.out]; rfl
    · rw [hr.out]; exact World.ownsRow_nil _ _ _ _

set_option maxHeartbeats 1000000 in
theorem refall8 (ao : Option Addr) (n cap : Nat) (l : List Int) (w : World) (hn : n = l.length) (hl : l.length ≤ 140737488351232) (hl8 : (allR 8 l).1.length * 8 ≤ 140737488351232) (hi : Ints .u8 w ao l) :
    Calls Try.prog 78 #[.int .i64 8, .slice ao n cap] w fun e w' => ∃ v, e = .returned (.tuple #[v, .int .i64 (allR 8 l).2]) ∧ w'.ownsRow w.heap.size 46 1 v (allR 8 l).1.length ((allR 8 l).1.map (Value.int .u64)) ∧ Below w.heap.size w w' := by
  subst hn
  have hI := hid hi
  clear hi
  by_cases hm : l.length % 8 = 0
  · have hr : allR 8 l = (allL 8 l, 0) := by unfold allR; rw [if_pos hm]
    rw [hr] at hl8 ⊢
    have hlen : (allL 8 l).length = l.length / 8 := by simp [allL]
    simp only [hlen] at hl8 ⊢
    have hrem : ((l.length : Int) % 8) = 0 := by omega
    have hremb : (((l.length : Int) % 8) != 0) = false := by rw [bne_eq_false_iff_eq]; exact hrem
    obtain ⟨q, hq⟩ : ∃ q, q = l.length / 8 := ⟨_, rfl⟩
    have hQ : l.length = q * 8 := by omega
    have hQ' := hid hQ
    rw [← hq] at hl8 ⊢
    have hAll : Hid (allL 8 l = (List.range q).map fun i => num (chunk 8 l i)) := by unfold Hid allL; rw [← hq]
    clear hr hlen hq hm hQ
    go_enter Try.func78, Try.ntmps78
    go_wp2_with fail
    clear hrem hremb
    go_loopw [6, 7] (fun v i wr => ∃ j : Nat, j ≤ q ∧ i = .int .i64 ((j : Int) * 8) ∧ wr.ownsRow w.heap.size 46 1 v j (((List.range j).map (fun i => num (chunk 8 l i))).map (Value.int .u64)) ∧ Below w.heap.size w wr) (fun _ i _ => l.length - (intOf i).toNat)
    case atStart => exact ⟨0, Nat.zero_le _, by simp, by simpa using World.ownsRow_nil _ _ _ _, Below.refl _ _⟩
    case round =>
      obtain ⟨j, hj, rfl, hown, hb⟩ := hrel
      have hO := hid hown
      have hB := hid hb
      have hsz := hb.size
      clear hown hb
      by_cases hlt : j < q
      · have hx1 : ((j * 8 : Nat) : Int) < (l.length : Int) := by have := hQ'.out; omega
        have hx2 : (j : Int) * 8 < (l.length : Int) := by have := hQ'.out; omega
        have hIr := hid (hI.out.mono hB.out)
        have HR := hid (range_snoc (fun i : Nat => num (chunk 8 l i)) j)
        obtain ⟨y, hy⟩ : ∃ y, y = num ((l.drop (j * 8)).take 8) := ⟨_, rfl⟩
        have hy' := hid hy
        have hcall : Hid (∀ W' : World, Ints .u8 W' ao l → Calls Try.prog 104 #[.int .i64 8, .slice ao l.length cap, .int .i64 ((j : Int) * 8)] W' fun e w' => e = .returned (.int .u64 y) ∧ W' = w') :=
          fun W' hI' => hy ▸ number104' 8 (by decide) (by decide) ao l.length cap l (j * 8) W' 8 ((j : Int) * 8) rfl (by simp) rfl hl hI' (by have := hQ'.out; omega)
        have hw4 : IntKind.i64.wrap ((j : Int) * 8 + 8) = (j : Int) * 8 + 8 := IntWalk.i64_in _ (by have := hQ'.out; omega)
        clear hy
        go_wp2_with (first | (go_at_call 104; go_must (refine (hcall.out _ hIr.out).mono ?_); rintro e w' ⟨rfl, rfl⟩) | (at_builtin; go_must (refine wpList_append_new rfl _ _ 36 rfl w.heap.size 46 46 (.int .u64 0) 1 8 1 Try.underlying36 Try.info46 rfl (by decide) _ j _ [.int .u64 y] (0, 0) hO.out rfl (by simp [Value.oneCell']) (by unfold maxLen; omega) (by omega) hsz rfl rfl ?_); intro v' w1 hown' hb' _))
        go_roundw
        case rel => exact ⟨j + 1, by omega, val_int (by omega), by rw [HR.out]; have e := hy'.out; simp only [chunk, List.map_append, List.map_cons, List.map_nil] at hown' ⊢; rw [← e]; exact hown', hB.out.trans hb'⟩
        case measure => have := hQ'.out; simp [intOf]; omega
      · obtain rfl : j = q := by omega
        have hx1 : ¬ ((j * 8 : Nat) : Int) < (l.length : Int) := by have := hQ'.out; omega
        have hx2 : ¬ (j : Int) * 8 < (l.length : Int) := by have := hQ'.out; omega
        go_wp2_with fail
        go_ret2
        exact ⟨_, rfl, by rw [hAll.out]; exact hO.out, hB.out⟩
  · have hr : Hid (allR 8 l = ([], 21)) := by unfold Hid allR; rw [if_neg hm]
    have hremb : (((l.length : Int) % 8) != 0) = true := by rw [bne_iff_ne]; omega
    clear hl8
    go_enter Try.func78, Try.ntmps78
    go_wp2_with fail
    go_ret2
    refine ⟨.slice none 0 0, ?_, ?_, Below.refl _ _⟩
    · rw [hr.out]; rfl
    · rw [hr.out]; exact World.ownsRow_nil _ _ _ _
end Go.Proofs.Ytdhicfolchpmhaa
