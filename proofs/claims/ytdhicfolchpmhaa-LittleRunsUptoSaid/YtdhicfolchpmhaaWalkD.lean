/- Walks: LittleSums. -/
import Derived.Test.YtdhicfolchpmhaaWalkC
namespace Go.Proofs.Ytdhicfolchpmhaa
open Go.RowKit
set_option linter.unusedVariables false
set_option linter.unusedSimpArgs false

structure SumRow where
  join : Bool
  ao : Option Addr
  cap : Nat
  bytes : List Int
  a : Int
  b : Int
  n : Int

/-- the five cells of one SumOp, at a place -/
structure SumRow.Ok (w : World) (blk off : Nat) (r : SumRow) : Prop where
  c0 : w.cell? ⟨blk, off, none⟩ = some (.bool r.join)
  c1 : w.cell? ⟨blk, off + 1, none⟩ = some (.slice r.ao r.bytes.length r.cap)
  c2 : w.cell? ⟨blk, off + 2, none⟩ = some (.int .u32 r.a)
  c3 : w.cell? ⟨blk, off + 3, none⟩ = some (.int .u32 r.b)
  c4 : w.cell? ⟨blk, off + 4, none⟩ = some (.int .i64 r.n)
  hb : Ints .u8 w r.ao r.bytes
  hl : r.bytes.length ≤ 140737488351232
  ha : 0 ≤ r.a ∧ r.a ≤ 4294967295
  hbb : 0 ≤ r.b ∧ r.b ≤ 4294967295
  hn : -9223372036854775808 ≤ r.n ∧ r.n ≤ 9223372036854775807

set_option maxHeartbeats 1000000 in
theorem sums_walk (w : World) (b off len cap : Nat) (rows : List SumRow) (hlen : len = rows.length) (hbig : len ≤ 140737488355328) (hr : ∀ i, (h : i < rows.length) → (rows[i]).Ok w b (off + i * 5)) :
    Calls Try.prog 5 #[.slice (some ⟨b, off, none⟩) len cap] w fun e w' => e = .returned (.bool true) ∧ Below w.heap.size w w' := by
  subst hlen
  have hR := hid hr
  clear hr
  have hI0 : Hid (Ints .u8 (w.alloc (.cells #[.int .u8 97, .int .u8 98, .int .u8 99] 5)) (some ⟨w.heap.size, 0, none⟩) [97, 98, 99]) := by
    refine ⟨by intro x hx; simp at hx; rcases hx with rfl | rfl | rfl <;> decide, .inr ⟨_, _, rfl, fun i hi => ?_⟩⟩
    match i, hi with
    | 0, _ => simp
    | 1, _ => simp
    | 2, _ => simp
  have hS := hid (show sumVal [97, 98, 99] = 38600999 from by decide)
  go_enter Try.func5, Try.ntmps5
  go_wp2_with fail
  refine (sum_any _ _ 3 [97, 98, 99] _ rfl (by simp) hI0.out).mono ?_
  rintro e w' ⟨rfl, rfl⟩
  rw [hS.out]
  go_wp2_with fail
  go_loopw [3] (fun i wr => ∃ k : Nat, k ≤ rows.length ∧ i = .int .i64 k ∧ Below w.heap.size w wr) (fun i _ => rows.length - (intOf i).toNat)
  case atStart => exact ⟨0, Nat.zero_le _, rfl, (Below.refl _ _).alloc (Nat.le_refl _) _⟩
  case round =>
    obtain ⟨k, hk, rfl, hb⟩ := hrel
    have hB := hid hb
    have hsz := hb.size
    clear hb
    by_cases hlt : k < rows.length
    · have hrow := hR.out k hlt
      generalize rows[k] = r at *
      have g0 := (hB.out.cell (World.block_lt_of_cell? w _ hrow.c0)).trans hrow.c0
      have g1 := (hB.out.cell (World.block_lt_of_cell? w _ hrow.c1)).trans hrow.c1
      have g2 := (hB.out.cell (World.block_lt_of_cell? w _ hrow.c2)).trans hrow.c2
      have g3 := (hB.out.cell (World.block_lt_of_cell? w _ hrow.c3)).trans hrow.c3
      have g4 := (hB.out.cell (World.block_lt_of_cell? w _ hrow.c4)).trans hrow.c4
      have hrow' := hid hrow
      clear hrow
      cases hj : r.join
      · have hj' := hid hj
        rw [hj] at g0
        clear hj
        go_wp2_with fail
        refine (lent_any _ _ _ r.bytes _ rfl (by have := hrow'.out.hl; omega) ((hrow'.out.hb.mono hB.out).mono ((Below.refl _ _).alloc (Nat.le_refl _) _))).mono ?_
        rintro e w1 ⟨v, rfl, hown, hb1⟩
        obtain ⟨g, cap2, rfl, hg1, hg2, hnc, hcm⟩ := own_shape hown (by omega)
        have hb2 : Below wr.heap.size wr w1 := ((Below.refl _ _).alloc (Nat.le_refl _) _).trans (hb1.mono (by simp))
        have hOwn := hid hown
        have q0 : w1.cell? ⟨wr.heap.size, 0, none⟩ = some (.bool false) := (hb1.cell (by simp)).trans (by simp)
        have q1 : w1.cell? ⟨wr.heap.size, 1, none⟩ = some (.slice r.ao r.bytes.length r.cap) := (hb1.cell (by simp)).trans (by simp)
        have hIr := hid ((hrow'.out.hb.mono hB.out).mono hb2)
        have hlr := hrow'.out.hl
        have hfull := hid (ints_of_own hown (fun x hx => by
          rcases List.mem_append.1 hx with h | h
          · exact hIr.out.wf x h
          · obtain ⟨i, _, rfl⟩ := List.mem_map.1 h
            exact wf_u8.2 (markB_bd _ _)))
        have hOl := hid (own_take hown (show r.bytes.length ≤ r.bytes.length + 64 by omega))
        clear hown
        have hIl : Hid (Ints .u8 w1 (some ⟨g, 0, none⟩) r.bytes) := by
          obtain ⟨ao, c, hv, hI, _⟩ := hfull.out
          simp only [Value.slice.injEq] at hv
          obtain ⟨rfl, _, _⟩ := hv
          have := hI.take r.bytes.length
          unfold lentL at this
          rwa [List.take_left] at this
        have hIf : Hid (Ints .u8 w1 (some ⟨g, 0, none⟩) (lentL r.bytes)) := by
          obtain ⟨ao, c, hv, hI, _⟩ := hfull.out
          simp only [Value.slice.injEq] at hv
          obtain ⟨rfl, _, _⟩ := hv
          exact hI
        have hse : (sumVal r.bytes != sumVal r.bytes) = false := bne_eq_false_iff_eq.2 rfl
        unfold maxLen at hcm
        go_wp2_with fail
        go_quiet ((first | (go_at_call 14; exact quiet_eq (sum_any _ _ cap2 r.bytes _ rfl (by omega) (hIl.out.drewN _))) | (go_at_call 19; exact quiet_eq (refsum_any _ _ _ r.bytes _ rfl (by omega) (hIr.out.drewN _))) | (go_at_call 20; exact Calls.quiet_of (kept_any _ _ cap2 _ _ _ r.bytes _ (by rw [lentL_len]) rfl (by omega) (hIf.out.drewN _) (hIr.out.drewN _)))))
        go_wp2_with fail
        refine (over_any g r.bytes.length cap2 _ _ _ (own_drewN hOl.out nq) (by omega)).mono ?_
        rintro e w2 ⟨rfl, hown2, hgr2⟩
        have hlm : ((List.range r.bytes.length).map (fun i : Nat => markB (-1) i)).length = r.bytes.length := by simp
        obtain ⟨ao3, c3, hv3, hI3, -⟩ := ints_of_own hown2 (fun x hx => by
          obtain ⟨i, _, rfl⟩ := List.mem_map.1 hx
          exact wf_u8.2 (markB_bd _ _))
        simp only [Value.slice.injEq] at hv3
        obtain ⟨rfl, hv4, rfl⟩ := hv3
        clear hv4
        have hI3' := hid hI3
        have hb3 : Hid (Below w.heap.size w w2) := hB.out.trans ((hb2.mono hsz).trans ((below_drewN' (Below.refl _ _) nq).grown hgr2 (by have := hb2.size; simp; omega) (fun k hk => by simp at hk; subst hk; simp at hg1; omega)))
        clear hown2 hI3 hgr2
        generalize hgM : (List.range r.bytes.length).map (fun i : Nat => markB (-1) i) = M at *
        have hlm' := hid hlm
        clear hlm hgM
        have hse2 : (sumVal M != sumVal M) = false := bne_eq_false_iff_eq.2 rfl
        go_wp2_with (first | (go_at_call 14; go_must (refine (sum_any _ _ cap2 M _ hlm'.out.symm (by rw [hlm'.out]; omega) hI3'.out).mono ?_); rintro e w' ⟨rfl, rfl⟩) | (go_at_call 19; go_must (refine (refsum_any _ _ cap2 M _ hlm'.out.symm (by rw [hlm'.out]; omega) hI3'.out).mono ?_); rintro e w' ⟨rfl, rfl⟩))
        go_roundw
        case rel => exact ⟨k + 1, by omega, by go_num, hb3.out⟩
        case measure => simp [intOf]; omega
      · have hj' := hid hj
        rw [hj] at g0
        clear hj
        have hrr := hrow'.out
        have ha1 := hrr.ha
        have hb1 := hrr.hbb
        have hn1 := hrr.hn
        clear hrr
        generalize r.a = xa at *
        generalize r.b = xb at *
        generalize r.n = xn at *
        have hse : (joinVal xa xb xn != joinVal xa xb xn) = false := bne_eq_false_iff_eq.2 rfl
        go_wp2_with fail
        go_quiet ((first | (go_at_call 16; exact quiet_eq (join_any _ _ _ _ ha1 hb1 hn1)) | (go_at_call 17; exact quiet_eq (refjoin_any _ _ _ _ ha1 hb1 hn1))))
        go_wp2_with fail
        go_roundw
        case rel => exact ⟨k + 1, by omega, by go_num, below_drewN' (hB.out.alloc hsz _) _⟩
        case measure => simp [intOf]; omega
    · go_wp2_with fail
      go_ret
      exact ⟨rfl, hB.out⟩

set_option maxHeartbeats 1000000 in
theorem sums_empty (w : World) (ao : Option Addr) (cap : Nat) :
    Calls Try.prog 5 #[.slice ao 0 cap] w fun e w' => e = .returned (.bool true) ∧ Below w.heap.size w w' := by
  have hI0 : Hid (Ints .u8 (w.alloc (.cells #[.int .u8 97, .int .u8 98, .int .u8 99] 5)) (some ⟨w.heap.size, 0, none⟩) [97, 98, 99]) := by
    refine ⟨by intro x hx; simp at hx; rcases hx with rfl | rfl | rfl <;> decide, .inr ⟨_, _, rfl, fun i hi => ?_⟩⟩
    match i, hi with
    | 0, _ => simp
    | 1, _ => simp
    | 2, _ => simp
  have hS := hid (show sumVal [97, 98, 99] = 38600999 from by decide)
  go_enter Try.func5, Try.ntmps5
  go_wp2_with fail
  refine (sum_any _ _ 3 [97, 98, 99] _ rfl (by simp) hI0.out).mono ?_
  rintro e w' ⟨rfl, rfl⟩
  rw [hS.out]
  go_wp2_with fail
  refine wp_loop_rounds 1 ?_
  rw [rounds_succ]
  go_wp2_with fail
  go_ret
  exact ⟨rfl, (Below.refl _ _).alloc (Nat.le_refl _) _⟩
end Go.Proofs.Ytdhicfolchpmhaa
