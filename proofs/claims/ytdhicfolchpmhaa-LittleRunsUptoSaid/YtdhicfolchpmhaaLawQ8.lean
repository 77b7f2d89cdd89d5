/- Walks: the law's all at width 8. -/
import Derived.Test.YtdhicfolchpmhaaLawA
import Derived.Test.YtdhicfolchpmhaaWalkV8
namespace Go.Proofs.Ytdhicfolchpmhaa
open Go.RowKit
set_option linter.unusedVariables false
set_option linter.unusedSimpArgs false

theorem allU8 (ao : Option Addr) (n cap : Nat) (l : List Int) (w : World) (hn : n = l.length) (hl : l.length ≤ 140737488351232) (hcap : l.length ≤ cap) (hi : Ints .u8 w ao l) :
    Calls Try.prog 68 #[.slice ao n cap] w fun e w' => ∃ v, e = .returned (.tuple #[v, .int .i64 (allR 8 l).2]) ∧ w'.ownsRow w.heap.size 46 1 v (allR 8 l).1.length ((allR 8 l).1.map (Value.int .u64)) ∧ Below w.heap.size w w' := by
  subst hn
  by_cases hm : l.length % 8 = 0
  · refine (all8 ao l.length cap l w rfl hl hcap hi hm).mono ?_
    rintro e w' ⟨v, rfl, ho, hb⟩
    exact ⟨v, by simp only [allR, hm, if_true], by simp only [allR, hm, if_true, allL_len]; exact ho, hb⟩
  · refine (allNo8 ao l.length cap w (by omega) hm).mono ?_
    rintro e w' ⟨rfl, rfl⟩
    exact ⟨.slice none 0 0, by simp only [allR, hm, if_false], by simp only [allR, hm, if_false]; exact World.ownsRow_nil _ _ _ _, Below.refl _ _⟩

theorem allR8_wf (l : List Int) (hb : Byt l) : ∀ x ∈ (allR 8 l).1, (Lit.int .u64 x).wf = true := by
  intro x hx
  unfold allR at hx
  split at hx
  · rename_i hm
    simp only [allL] at hx
    obtain ⟨i, hi, rfl⟩ := List.mem_map.1 hx
    have h1 := num_bd _ (chunk_byt hb (w := 8) i)
    have h2 : (chunk 8 l i).length = 8 := by
      have := List.mem_range.1 hi
      exact chunk_len (by have := Nat.div_add_mod l.length 8; omega)
    rw [h2] at h1
    rw [wf_u64]
    omega
  · simp at hx

set_option maxHeartbeats 2000000 in
set_option maxRecDepth 100000 in
theorem lall8 (ao : Option Addr) (n cap : Nat) (l : List Int) (w : World) (hn : n = l.length) (hl : l.length ≤ 140737488351232) (hl8 : (allR 8 l).1.length * 8 ≤ 140737488351232) (hcap : l.length ≤ cap) (hi : Ints .u8 w ao l) :
    Calls Try.prog 25 #[.int .i64 8, .slice ao n cap] w fun e w' => ∃ v, e = .returned (.tuple #[v, .int .i64 (allR 8 l).2]) ∧ w'.ownsRow w.heap.size 46 1 v (allR 8 l).1.length ((allR 8 l).1.map (Value.int .u64)) ∧ Below w.heap.size w w' := by
  subst hn
  have hI := hid hi
  have hwf := hid (allR8_wf l (byt_of_ints hi))
  clear hi
  go_enter Try.func25, Try.ntmps25
  go_wp2_with fail
  refine (allU8 _ _ _ l _ rfl hl hcap hI.out).mono ?_
  rintro e w1 ⟨va, rfl, hoa, hb1⟩
  have hoa1 := hid hoa
  have hB1 := hid hb1
  clear hoa hb1
  go_wp2_with fail
  refine (allU8 _ _ _ l _ rfl hl hcap (hI.out.mono hB1.out)).mono ?_
  rintro e w2 ⟨vc, rfl, hoc, hb2⟩
  have hoc2 := hid hoc
  have hB2 := hid hb2
  have hsz1 := hid hB1.out.size
  have hap := hid (own_apart hoa1.out hoc (Nat.le_refl _))
  have hap' : Hid (vc.ownBlock = none ∨ vc.ownBlock ≠ va.ownBlock) := by
    rcases hap.out with h | h
    · cases hq : vc.ownBlock with
      | none => exact .inl rfl
      | some q => exact .inr (by rw [h]; simp)
    · exact .inr (fun e => h e.symm)
  have hoa2 := hid (own_mono hoa1.out hb2 (Nat.le_refl _))
  have hB := hid (hB1.out.trans (hb2.mono hsz1.out))
  clear hoc hb2
  obtain ⟨C, hC⟩ : ∃ C, C = (allR 8 l).1 := ⟨_, rfl⟩
  have hCC := hid hC
  clear hC
  rw [← hCC.out] at hoa2 hoc2 hwf hl8
  obtain ⟨ao1, cap1, hva, -, -, hc1, hm1⟩ := ints_of_own hoa2.out hwf.out
  obtain ⟨ao2, cap2, hvc, -, -, hc2, hm2⟩ := ints_of_own hoc2.out hwf.out
  subst hva
  subst hvc
  unfold maxLen at hm1 hm2
  go_wp2_with fail
  go_loopw [32] (fun i wr => ∃ (k : Nat), k ≤ C.length ∧ i = .int .i64 k ∧ wr.ownsRow w.heap.size 46 1 (.slice ao1 C.length cap1) C.length ((List.range k).map (fun _ => Value.int .u64 919191) ++ (C.map (Value.int .u64)).drop k) ∧ w2.grownBy wr (Value.ownBlock (.slice ao1 C.length cap1))) (fun i _ => C.length - (intOf i).toNat)
  case atStart => exact ⟨0, Nat.zero_le _, rfl, by simpa using hoa2.out, grown_refl _ _⟩
  case round =>
    obtain ⟨k, hk, rfl, hown, hgr⟩ := hrel
    have hO := hid hown
    have hG := hid hgr
    clear hown hgr
    by_cases hlt : k < C.length
    · obtain ⟨g, c, hv, hg1, hg2, -, -⟩ := own_shape hO.out (by omega)
      simp only [Value.slice.injEq] at hv
      obtain ⟨rfl, -, -⟩ := hv
      have hfr := hO.out.frozenAt k
      have hce := hO.out.cellAt k (by omega)
      rw [List.getElem?_append_right (by simp), List.length_map, List.length_range, Nat.sub_self, List.getElem?_drop, Nat.add_zero, List.getElem?_eq_getElem (by rw [List.length_map]; exact hlt)] at hce
      have hst := hid (hO.out.stored k (.int .u64 919191))
      have hS := hid (set_at (fun _ : Nat => Value.int .u64 919191) (C.map (Value.int .u64)) k (by rw [List.length_map]; exact hlt))
      generalize (C.map (Value.int .u64))[k]'(by rw [List.length_map]; exact hlt) = u at *
      go_wp2_with fail
      go_roundw
      case rel => exact ⟨k + 1, by omega, by go_num, by have := hst.out.1; rw [hS.out] at this; exact this, grown_trans hG.out hst.out.2⟩
      case measure => simp [intOf]; omega
    · obtain ⟨n1, hn1⟩ : ∃ n1, n1 = C.length := ⟨_, rfl⟩
      have hk1 : k = n1 := by omega
      subst hk1
      have hL := hid hn1
      clear hn1
      have hoc3 := hid (hoc2.out.kept hG.out hap'.out)
      have hB3 : Hid (Below w.heap.size w wr) := hB.out.grown hG.out hB.out.size (fun q hq => (hoa2.out.lt q hq).1)
      have hoa3 : Hid (∃ xs, wr.ownsRow w.heap.size 46 1 (.slice ao1 C.length cap1) C.length xs) := ⟨_, hO.out⟩
      clear hO
      go_wp2_with fail
      go_loopw [28, 33] (fun v i wr => ∃ (k : Nat) (xs : List Value), k ≤ 64 ∧ i = .int .i64 k ∧ wr.ownsRow w.heap.size 46 1 v (C.length + k) xs ∧ wr.ownsRow w1.heap.size 46 1 (.slice ao2 C.length cap2) C.length (C.map (Value.int .u64)) ∧ (Value.ownBlock (.slice ao2 C.length cap2) = none ∨ Value.ownBlock (.slice ao2 C.length cap2) ≠ v.ownBlock) ∧ Below w.heap.size w wr) (fun _ i _ => 64 - (intOf i).toNat)
      case atStart =>
        obtain ⟨xs, hxs⟩ := hoa3.out
        exact ⟨0, xs, Nat.zero_le _, rfl, hxs, hoc3.out, hap'.out, hB3.out⟩
      case round =>
        clear hoa3 hoc3 hB3
        obtain ⟨j, xs, hj, rfl, hown, hoc, hne, hb⟩ := hrel
        have hO := hid hown
        have hOC := hid hoc
        have hN := hid hne
        have hBB := hid hb
        have hszr := hb.size
        clear hown hoc hne hb
        by_cases hlt2 : j < 64
        · go_wp2_with (at_builtin; go_must (refine wpList_append_str rfl _ _ 36 rfl w.heap.size 46 46 (.int .u64 0) 1 8 1 Try.underlying36 Try.infoE8 rfl (by decide) _ (C.length + j) _ [.int .u64 929292] (0, 0) hO.out rfl (by simp [Value.oneCell']) (by unfold maxLen; omega) (by omega) hszr rfl rfl ?_); intro v' w3 hA; have hA' := hid hA; clear hA)
          go_roundw
          case rel => exact ⟨j + 1, _, by omega, by go_num, hA'.out.own, (hA'.out.other hOC.out hN.out).1, (hA'.out.other hOC.out hN.out).2, hBB.out.trans (hA'.out.below hO.out hszr)⟩
          case measure => simp [intOf]; omega
        · clear hO hN
          obtain ⟨ao3, cap3, hv3, hIC, -⟩ := ints_of_own hOC.out hwf.out
          simp only [Value.slice.injEq] at hv3
          obtain ⟨rfl, -, -⟩ := hv3
          obtain ⟨b2, off2, hao2, hcc⟩ := hIC.at
          clear hIC hOC
          obtain ⟨w4, hw4⟩ : ∃ w4, w4 = wr := ⟨_, rfl⟩
          subst hw4
          rcases hao2 with hz | rfl
          all_goals
            go_wp2_with fail
            go_loopw [6, 34] (fun v i wr => ∃ k : Nat, k ≤ C.length ∧ i = .int .i64 k ∧ wr.ownsRow w4.heap.size 46 1 v k ((C.take k).map (Value.int .u64)) ∧ Below w4.heap.size w4 wr) (fun _ i _ => C.length - (intOf i).toNat)
            case atStart => exact ⟨0, Nat.zero_le _, rfl, World.ownsRow_nil _ _ _ _, Below.refl _ _⟩
            case round =>
              obtain ⟨q, hq, rfl, hown, hb⟩ := hrel
              have hO := hid hown
              have hB4 := hid hb
              have hs4 := hb.size
              by_cases hlt3 : q < C.length
              · first
                | omega
                | have hcell := hcc.out q hlt3
                  have hcell' : wr.cell? ⟨b2, off2 + q, none⟩ = some (.int .u64 (C.getD q 0)) := (hb.cell (World.block_lt_of_cell? w4 _ hcell)).trans hcell
                  clear hcell hown hb
                  have hx := wf_u64.1 (hwf.out _ (getD_mem C q 0 hlt3))
                  have HX := hid (take_snoc C q 0 hlt3)
                  generalize C.getD q 0 = x at *
                  go_wp2_with (at_builtin; go_must (refine wpList_append_new rfl _ _ 36 rfl w4.heap.size 46 46 (.int .u64 0) 1 8 1 Try.underlying36 Try.info46 rfl (by decide) _ q _ [.int .u64 x] (0, 0) hO.out rfl (by simp [Value.oneCell']) (by unfold maxLen; omega) (by omega) hs4 rfl rfl ?_); intro v' w5 hown' hb' _)
                  go_roundw
                  case rel => exact ⟨q + 1, by omega, by go_num, by rw [HX.out]; simpa using hown', hB4.out.trans hb'⟩
                  case measure => simp [intOf]; omega
              · have hke : Hid (C.take q = C) := List.take_of_length_le (by omega)
                have hqe : Hid (q = C.length) := by unfold Hid; omega
                clear hown hb
                go_wp2_with fail
                go_ret2
                refine ⟨_, rfl, ?_, hBB.out.trans (hB4.out.mono hszr)⟩
                have := hO.out
                rw [hke.out, hqe.out] at this
                rw [← hCC.out]
                exact own_base this hszr
end Go.Proofs.Ytdhicfolchpmhaa
