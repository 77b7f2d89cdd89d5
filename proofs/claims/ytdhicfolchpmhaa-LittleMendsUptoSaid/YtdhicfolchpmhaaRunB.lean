/- Walks: Runs, of the program and of the document. -/
import Derived.OwnWalk
import Derived.WalkMore
import Derived.Deep.RegionHeld
import Derived.Test.YtdhicfolchpmhaaRunA
namespace Go.Proofs.Ytdhicfolchpmhaa
open Go.RowKit
set_option linter.unusedVariables false
set_option linter.unusedSimpArgs false

theorem runsD_len (f g : Nat → Int) : ∀ k, (runsD f g k).length ≤ k
  | 0 => by simp [runsD]
  | k + 1 => by
    have ih := runsD_len f g k
    unfold runsD
    split
    · omega
    · unfold extR
      split
      · split
        · simp only [List.length_append, List.length_dropLast, List.length_singleton]; omega
        · simp; omega
      · simp; omega
theorem runsD_next (f g : Nat → Int) (k : Nat) (h : f k = g k) : runsD f g (k + 1) = runsD f g k := by rw [runsD, if_pos h]
def seg (g : Nat → Int) (k j : Nat) : List Int := (List.range (j - k)).map fun t => g (k + t)
theorem seg_len (g : Nat → Int) (k j : Nat) : (seg g k j).length = j - k := by simp [seg]
theorem seg_succ (g : Nat → Int) (k j : Nat) (h : k ≤ j) : seg g k (j + 1) = seg g k j ++ [g j] := by
  unfold seg
  rw [show j + 1 - k = (j - k) + 1 by omega, List.range_succ, List.map_append]
  simp [show k + (j - k) = j by omega]
theorem runsD_seg' (f g : Nat → Int) (k j : Nat) (hk : k = 0 ∨ f (k - 1) = g (k - 1)) (hj : k < j) (h : ∀ t, k ≤ t → t < j → f t ≠ g t) : runsD f g j = runsD f g k ++ [(k, seg g k j)] := by
  obtain ⟨m, rfl⟩ : ∃ m, j = k + (m + 1) := ⟨j - k - 1, by omega⟩
  rw [runsD_seg f g k hk m (fun t ht => h (k + t) (by omega) (by omega))]
  unfold seg
  rw [show k + (m + 1) - k = m + 1 by omega]
set_option maxHeartbeats 2000000 in
set_option maxRecDepth 100000 in
theorem runs55 (ao bo : Option Addr) (n c1 c2 : Nat) (x y : List Int) (w : World) (hx : n = x.length) (hy : n = y.length) (hn : n ≤ 100000000) (hi : Ints .u8 w ao x) (hj : Ints .u8 w bo y) :
    Calls Try.prog 55 #[.slice ao n c1, .slice bo n c2] w fun e w' => ∃ v R, e = .returned (.tuple #[v, .int .i64 0]) ∧ Rn w' w.heap.size v R ∧ R.map RunW.two = runsL x y ∧ Below w.heap.size w w' := by
  obtain ⟨xb, xo, hao, hcx⟩ := hi.at
  obtain ⟨yb, yo, hbo, hcy⟩ := hj.at
  have hxc : Hid (∀ W j, j < n → Below w.heap.size w W → W.cell? ⟨xb, xo + j, none⟩ = some (.int .u8 (x.getD j 0))) := fun W j hjn hb => (hb.cell (World.block_lt_of_cell? w _ (hcx.out j (by omega)))).trans (hcx.out j (by omega))
  have hyc0 : Hid (∀ W j, j < n → Below w.heap.size w W → W.cell? ⟨yb, yo + j, none⟩ = some (.int .u8 (y.getD j 0))) := fun W j hjn hb => (hb.cell (World.block_lt_of_cell? w _ (hcy.out j (by omega)))).trans (hcy.out j (by omega))
  have hXY := hid (show runsL x y = runsD (fun i => x.getD i 0) (fun i => y.getD i 0) n from by rw [hx]; rfl)
  rw [← hx] at hao
  rw [← hy] at hbo
  clear hi hj hcx hcy hx hy
  go_enter Try.func55, Try.ntmps55
  go_wp2_with fail
  go_step3
  go_wp2_with fail
  go_step3
  go_wp2_with fail
  go_loopw [6, 7] (fun v i wr => ∃ (k : Nat) (v0 : Value) (R : List RunW), v0 = v ∧ i = .int .i64 k ∧ k ≤ n + 1 ∧ Rn wr w.heap.size v0 R ∧ R.map RunW.two = runsD (fun i => x.getD i 0) (fun i => y.getD i 0) (min k n) ∧ (k = 0 ∨ n < k ∨ x.getD (k - 1) 0 = y.getD (k - 1) 0) ∧ Below w.heap.size w wr) (fun _ i _ => n + 1 - (intOf i).toNat)
  case atStart => exact ⟨0, _, [], rfl, rfl, Nat.zero_le _, Rn.start _ _, by simp [runsD], .inl rfl, Below.refl _ _⟩
  case round =>
    obtain ⟨k, v, R, rfl, rfl, hk, hr, hm, hg, hb⟩ := hrel
    have hRn := hid hr
    have hM := hid hm
    have hG := hid hg
    have hB := hid hb
    clear hr hm hg hb
    by_cases hlt : k < n
    · rcases hao with h0 | rfl
      · omega
      rcases hbo with h0 | rfl
      · omega
      have hcx := hxc.out wr k hlt hB.out
      have hcy := hyc0.out wr k hlt hB.out
      by_cases he : x.getD k 0 = y.getD k 0
      · have hE := hid he
        have hbq : (x.getD k 0 == y.getD k 0) = true := beq_iff_eq.2 he
        clear he
        obtain ⟨xk, hxk⟩ : ∃ z, z = x.getD k 0 := ⟨_, rfl⟩
        obtain ⟨yk, hyk⟩ : ∃ z, z = y.getD k 0 := ⟨_, rfl⟩
        rw [← hxk] at hcx hbq
        rw [← hyk] at hcy hbq
        clear hxk hyk
        go_wp2_with fail
        go_quiet ((fail))
        go_wp2_with fail
        go_roundw
        case rel => exact ⟨k + 1, _, R, rfl, by go_num, by omega, hRn.out.below (below_drewN' (Below.refl _ _) _), by rw [hM.out, show min (k + 1) n = k + 1 by omega, show min k n = k by omega, runsD_next _ _ _ hE.out], .inr (.inr (by simpa using hE.out)), below_drewN' hB.out _⟩
        case measure => simp [intOf]; omega
      · have hE := hid he
        have hbq : (x.getD k 0 == y.getD k 0) = false := beq_eq_false_iff_ne.2 he
        clear he
        have hwk : IntKind.u32.wrap (k : Int) = k := by rw [IntKind.wrap_u32]; omega
        obtain ⟨xk, hxk⟩ : ∃ z, z = x.getD k 0 := ⟨_, rfl⟩
        obtain ⟨yk, hyk⟩ : ∃ z, z = y.getD k 0 := ⟨_, rfl⟩
        rw [← hxk] at hcx hbq
        rw [← hyk] at hcy hbq
        clear hxk hyk
        go_wp2_with fail
        go_quiet ((fail))
        have hRz := hid (hRn.out.below (below_drewN' (Below.refl wr.heap.size wr) nq))
        have hBz := hid (below_drewN' hB.out nq)
        generalize wr.drewN nq = wz at *
        clear hcx hcy hbq
        have hRo := hid (hRz.out.open hBz.out.size k)
        have hBo := hid (hBz.out.alloc hBz.out.size (.cells #[.int .u32 k, .slice none 0 0] 104))
        have hGap : Hid (k = 0 ∨ x.getD (k - 1) 0 = y.getD (k - 1) 0) := by
          rcases hG.out with h | h | h
          · exact .inl h
          · omega
          · exact .inr h
        have hMk := hid (hM.out.trans (by rw [show min k n = k by omega]))
        clear hRn hM hG hB hRz hBz hwk
        go_wp2_with fail
        generalize wz.heap.size = q at *
        generalize wz.alloc (.cells #[.int .u32 k, .slice none 0 0] 104) = wo at *
        go_loopw [6, 7] (fun v1 i wr => ∃ (j : Nat) (cv : Value), v = v1 ∧ k ≤ j ∧ j ≤ n ∧ i = .int .i64 j ∧ Rop wr w.heap.size v q cv R k (seg (fun i => y.getD i 0) k j) ∧ (∀ t, k ≤ t → t < j → x.getD t 0 ≠ y.getD t 0) ∧ Below w.heap.size w wr) (fun _ i _ => n - (intOf i).toNat)
        case atStart => exact ⟨k, _, rfl, Nat.le_refl _, by omega, rfl, by simpa [seg] using hRo.out, fun t h1 h2 => by omega, hBo.out⟩
        case round =>
          clear hRo hBo
          obtain ⟨j, cv, rfl, hkj, hjn, rfl, hrop, hall, hb⟩ := hrel
          have hRop := hid hrop
          have hAll := hid hall
          have hB := hid hb
          have hsz := hb.size
          obtain ⟨cao, cc, hcv, -⟩ := own_any_shape hrop.ownC
          rw [seg_len] at hcv
          subst hcv
          have hRl : R.length ≤ n := by
            have h1 := congrArg List.length hMk.out
            have h2 := runsD_len (fun i => x.getD i 0) (fun i => y.getD i 0) k
            rw [List.length_map] at h1
            omega
          clear hrop hall hb
          by_cases hlt2 : j < n
          · have hcx := hxc.out wr j hlt2 hB.out
            have hcy := hyc0.out wr j hlt2 hB.out
            by_cases he : x.getD j 0 = y.getD j 0
            · have hkj2 : k < j := by
                rcases Nat.lt_or_ge k j with h | h
                · exact h
                · obtain rfl : k = j := by omega
                  exact absurd he hE.out
              have hE2 := hid he
              have hbq : (x.getD j 0 == y.getD j 0) = true := beq_iff_eq.2 he
              clear he
              obtain ⟨xk, hxk⟩ : ∃ z, z = x.getD j 0 := ⟨_, rfl⟩
              obtain ⟨yk, hyk⟩ : ∃ z, z = y.getD j 0 := ⟨_, rfl⟩
              rw [← hxk] at hcx hbq
              rw [← hyk] at hcy hbq
              clear hxk hyk
              go_wp2_with fail
              go_quiet ((fail))
              have hRop' := hid (hRop.out.below (below_drewN' (Below.refl wr.heap.size wr) nq))
              have hB' := hid (below_drewN' hB.out nq)
              have hsz' := hB'.out.size
              clear hRop hB hsz hcx hcy hbq
              generalize wr.drewN nq = wz at *
              have hRop := hRop'
              have hB := hB'
              have hsz := hsz'
              have hq0 := hRop.out.q0
              have hq1 := hRop.out.q1
              go_wp2_with (at_builtin; go_must (refine wpList_append_str rfl _ _ 90 rfl w.heap.size 104 104 (.agg #[.int .u32 0, .slice none 0 0]) 2 32 1 Try.underlying90 (by kernel_rfl) rfl (by decide) _ R.length _ [.int .u32 k, .slice cao (j - k) cc] (0, 0) hRop.out.ownO rfl (by simp [Value.oneCell']) (by unfold maxLen; omega) (by omega) hsz rfl rfl ?_); intro v' w3 hA3)
              have hR3 := hid (hRop.out.close hA3)
              have hB3 := hid (hB.out.trans (hA3.below hRop.out.ownO hB.out.size))
              clear hA3
              go_roundw
              case rel => exact ⟨j + 1, _, _, rfl, by go_num, by omega, hR3.out, by rw [List.map_append, hMk.out, show min (j + 1) n = j + 1 by omega, runsD_next _ _ _ hE2.out, runsD_seg' _ _ k j hGap.out hkj2 hAll.out]; rfl, .inr (.inr (by simpa using hE2.out)), hB3.out⟩
              case measure => simp [intOf]; omega
            · have hE2 := hid he
              have hbq : (x.getD j 0 == y.getD j 0) = false := beq_eq_false_iff_ne.2 he
              clear he
              obtain ⟨xk, hxk⟩ : ∃ z, z = x.getD j 0 := ⟨_, rfl⟩
              obtain ⟨yk, hyk⟩ : ∃ z, z = y.getD j 0 := ⟨_, rfl⟩
              have hYK := hid hyk
              rw [← hxk] at hcx hbq
              rw [← hyk] at hcy hbq
              clear hxk hyk
              go_wp2_with fail
              go_quiet ((fail))
              have hRop' := hid (hRop.out.below (below_drewN' (Below.refl wr.heap.size wr) nq))
              have hB' := hid (below_drewN' hB.out nq)
              clear hRop hB hsz hcx hcy hbq
              generalize wr.drewN nq = wz at *
              have hRop := hRop'
              have hB := hB'
              have hyc : Hid (∀ W, Below w.heap.size w W → W.cell? ⟨yb, yo + j, none⟩ = some (.int .u8 yk)) := fun W hW => by rw [hYK.out]; exact hyc0.out W j hlt2 hW
              have hjk : (seg (fun i => y.getD i 0) k j).length = j - k := seg_len _ _ _
              go_wp2_with fail
              have hRd := hid (hRop.out.below ((Below.refl _ wz).drew))
              have hBd := hid (hB.out.trans ((Below.refl wz.heap.size wz).drew.mono hB.out.size))
              have hQ1 := hRd.out.q1
              refine wp_region_held_drew (S := fun W' => W'.cell? ⟨yb, yo + j, none⟩ = some (.int .u8 yk)) (by kernel_rfl) (hyc.out _ hBd.out) (fun hHeld => ?_)
              refine wpAnyH_take (i := 0) (v := ?_) (by simp only [List.getElem?_toArray, List.getElem?_cons_succ, List.getElem?_cons_zero]; rfl) (by kernel_rfl) (by kernel_rfl) (by kernel_rfl) (by intro _ _ _ h; exact h) (Or.inl ⟨by rfl, ?_⟩) (by assumption) ?_
              rotate_left
              · intro w' hSw; (try dsimp only at hSw); go_simp; (try with_reducible rfl)
              try simp only [Act.put, List.setIfInBounds_toArray, List.set_cons_zero, List.set_cons_succ]
              refine wpAnyH_take (i := 2) (v := ?_) (by simp only [List.getElem?_toArray, List.getElem?_cons_succ, List.getElem?_cons_zero]; rfl) (by kernel_rfl) (by kernel_rfl) (by kernel_rfl) (by intro _ _ _ h; exact h) (Or.inl ⟨by rfl, ?_⟩) (by assumption) ?_
              rotate_left
              · intro w' hSw; (try dsimp only at hSw); go_simp; (try with_reducible rfl)
              try simp only [Act.put, List.setIfInBounds_toArray, List.set_cons_zero, List.set_cons_succ]
              refine wpAnyH_take (i := 3) (v := ?_) (by simp only [List.getElem?_toArray, List.getElem?_cons_succ, List.getElem?_cons_zero]; rfl) (by kernel_rfl) (by kernel_rfl) (by kernel_rfl) (by intro _ _ _ h; exact h) (Or.inl ⟨by rfl, ?_⟩) (by assumption) ?_
              rotate_left
              · intro w' hSw; (try dsimp only at hSw); go_simp; (try with_reducible rfl)
              try simp only [Act.put, List.setIfInBounds_toArray, List.set_cons_zero, List.set_cons_succ]
              refine wpAnyH_take (i := 4) (v := ?_) (by simp only [List.getElem?_toArray, List.getElem?_cons_succ, List.getElem?_cons_zero]; rfl) (by kernel_rfl) (by kernel_rfl) (by kernel_rfl) (by intro _ _ _ h; exact h) (Or.inl ⟨by rfl, ?_⟩) (by assumption) ?_
              rotate_left
              · intro w' hSw; (try dsimp only at hSw); go_simp; (try with_reducible rfl)
              try simp only [Act.put, List.setIfInBounds_toArray, List.set_cons_zero, List.set_cons_succ]
              refine wpAnyH_take (i := 5) (v := ?_) (by simp only [List.getElem?_toArray, List.getElem?_cons_succ, List.getElem?_cons_zero]; rfl) (by kernel_rfl) (by kernel_rfl) (by kernel_rfl) (by intro _ _ _ h; exact h) (Or.inl ⟨by rfl, ?_⟩) (by assumption) ?_
              rotate_left
              · intro w' hSw; (try dsimp only at hSw); go_simp; (try with_reducible rfl)
              try simp only [Act.put, List.setIfInBounds_toArray, List.set_cons_zero, List.set_cons_succ]
              refine wpAnyH_ready (rs := [1, 6]) (by kernel_rfl) (by simp) ?_
              refine AllReadyH.cons (by simp only [List.getElem?_toArray, List.getElem?_cons_succ, List.getElem?_cons_zero]; rfl) (fun K hK => ?_) (AllReadyH.cons (by simp only [List.getElem?_toArray, List.getElem?_cons_succ, List.getElem?_cons_zero]; rfl) (fun K hK => ?_) AllReadyH.nil)
              · go_simp
                refine hK.out _ _ (hyc.out _ hBd.out) (fun hHeld => ?_)
                clear hK K
                try simp only [Act.put, List.setIfInBounds_toArray, List.set_cons_zero, List.set_cons_succ]
                refine wpAnyH_ready (rs := [6]) (by kernel_rfl) (by simp) ?_
                refine AllReadyH.cons (by simp only [List.getElem?_toArray, List.getElem?_cons_succ, List.getElem?_cons_zero]; rfl) (fun K hK => ?_) AllReadyH.nil
                go_simp
                refine hK.out _ _ (hyc.out _ (hBd.out.alloc hBd.out.size _)) (fun hHeld => ?_)
                clear hK K
                try simp only [Act.put, List.setIfInBounds_toArray, List.set_cons_zero, List.set_cons_succ]
                refine wpAnyH_ready (rs := [7]) (by kernel_rfl) (by simp) ?_
                refine AllReadyH.cons (by simp only [List.getElem?_toArray, List.getElem?_cons_succ, List.getElem?_cons_zero]; rfl) (fun K hK => ?_) AllReadyH.nil
                refine step_append_str rfl _ _ 23 rfl w.heap.size 5 5 (.int .u8 0) 1 1 1 Try.underlying23 (by kernel_rfl) rfl (by decide) (.slice cao (j - k) cc) (seg (fun i => y.getD i 0) k j).length _ [.int .u8 yk] (0, 0) hRd.out.ownC rfl (by simp [Value.oneCell']) (by rw [seg_len]; unfold maxLen; omega) (by rw [seg_len]; omega) hBd.out.size rfl rfl ?_
                intro cv' w3 hA3
                obtain ⟨cao', cc', hcv', -⟩ := own_any_shape hA3.own
                subst hcv'
                have hap := hRd.out.appended hA3
                have hB3 := hid (hBd.out.grown hA3.grown hBd.out.size (fun p hp => (hRd.out.ownC.lt p hp).1))
                have hqB := (hRd.out.ownQ.lt q rfl).1
                clear hA3
                obtain ⟨ha1, ha2, ha3⟩ := hap
                have hR3 := hid ha3
                clear ha3
                refine hK.out _ _ (hyc.out _ hB3.out) (fun hHeld => ?_)
                clear hK K
                try simp only [Act.put, List.setIfInBounds_toArray, List.set_cons_zero, List.set_cons_succ]
                refine wpAnyH_take (i := 8) (v := ?_) (by simp only [List.getElem?_toArray, List.getElem?_cons_succ, List.getElem?_cons_zero]; rfl) (by kernel_rfl) (by kernel_rfl) (by kernel_rfl) (by intro _ _ _ h; exact h) (Or.inl ⟨by rfl, ?_⟩) (by assumption) ?_
                rotate_left
                · intro w' hSw; (try dsimp only at hSw); go_simp; (try with_reducible rfl)
                try simp only [Act.put, List.setIfInBounds_toArray, List.set_cons_zero, List.set_cons_succ]
                refine wpAnyH_ready (rs := [9]) (by kernel_rfl) (by simp) ?_
                refine AllReadyH.cons (by simp only [List.getElem?_toArray, List.getElem?_cons_succ, List.getElem?_cons_zero]; rfl) (fun K hK => ?_) AllReadyH.nil
                go_simp
                have hB4 := hid (Below.setCell (p := ⟨q, 1, none⟩) hB3.out hqB (.slice cao' ((seg (fun i => y.getD i 0) k j).length + 1) cc'))
                refine hK.out _ _ (hyc.out _ hB4.out) (fun hHeld => ?_)
                clear hK K
                try simp only [Act.put, List.setIfInBounds_toArray, List.set_cons_zero, List.set_cons_succ]
                refine wpAnyH_done (by kernel_rfl) ?_ _
                go_wp2_with fail
                go_roundw
                case rel => exact ⟨j + 1, _, rfl, by omega, by omega, by go_num, by rw [seg_succ _ _ _ hkj, ← hYK.out]; exact hR3.out, fun t h1 h2 => by
                  by_cases ht : t < j
                  · exact hAll.out t h1 ht
                  · obtain rfl : t = j := by omega
                    exact hE2.out, hB4.out⟩
                case measure => simp [intOf]; omega
              · go_simp
                refine hK.out _ _ (hyc.out _ (hBd.out.alloc hBd.out.size _)) (fun hHeld => ?_)
                clear hK K
                try simp only [Act.put, List.setIfInBounds_toArray, List.set_cons_zero, List.set_cons_succ]
                refine wpAnyH_ready (rs := [1]) (by kernel_rfl) (by simp) ?_
                refine AllReadyH.cons (by simp only [List.getElem?_toArray, List.getElem?_cons_succ, List.getElem?_cons_zero]; rfl) (fun K hK => ?_) AllReadyH.nil
                have hQ1' : (wz.alloc (.cells #[.int .u8 yk] 5)).cell? ⟨q, 1, none⟩ = some (.slice cao (j - k) cc) := (hRop.out.below ((Below.refl _ _).alloc (Nat.le_refl _) _)).q1
                go_simp
                refine hK.out _ _ (hyc.out _ (hBd.out.alloc hBd.out.size _)) (fun hHeld => ?_)
                clear hK K
                try simp only [Act.put, List.setIfInBounds_toArray, List.set_cons_zero, List.set_cons_succ]
                refine wpAnyH_ready (rs := [7]) (by kernel_rfl) (by simp) ?_
                refine AllReadyH.cons (by simp only [List.getElem?_toArray, List.getElem?_cons_succ, List.getElem?_cons_zero]; rfl) (fun K hK => ?_) AllReadyH.nil
                refine step_append_str rfl _ _ 23 rfl w.heap.size 5 5 (.int .u8 0) 1 1 1 Try.underlying23 (by kernel_rfl) rfl (by decide) (.slice cao (j - k) cc) (seg (fun i => y.getD i 0) k j).length _ [.int .u8 yk] (0, 0) hRd.out.ownC rfl (by simp [Value.oneCell']) (by rw [seg_len]; unfold maxLen; omega) (by rw [seg_len]; omega) hBd.out.size rfl rfl ?_
                intro cv' w3 hA3
                obtain ⟨cao', cc', hcv', -⟩ := own_any_shape hA3.own
                subst hcv'
                have hap := hRd.out.appended hA3
                have hB3 := hid (hBd.out.grown hA3.grown hBd.out.size (fun p hp => (hRd.out.ownC.lt p hp).1))
                have hqB := (hRd.out.ownQ.lt q rfl).1
                clear hA3
                obtain ⟨ha1, ha2, ha3⟩ := hap
                have hR3 := hid ha3
                clear ha3
                refine hK.out _ _ (hyc.out _ hB3.out) (fun hHeld => ?_)
                clear hK K
                try simp only [Act.put, List.setIfInBounds_toArray, List.set_cons_zero, List.set_cons_succ]
                refine wpAnyH_take (i := 8) (v := ?_) (by simp only [List.getElem?_toArray, List.getElem?_cons_succ, List.getElem?_cons_zero]; rfl) (by kernel_rfl) (by kernel_rfl) (by kernel_rfl) (by intro _ _ _ h; exact h) (Or.inl ⟨by rfl, ?_⟩) (by assumption) ?_
                rotate_left
                · intro w' hSw; (try dsimp only at hSw); go_simp; (try with_reducible rfl)
                try simp only [Act.put, List.setIfInBounds_toArray, List.set_cons_zero, List.set_cons_succ]
                refine wpAnyH_ready (rs := [9]) (by kernel_rfl) (by simp) ?_
                refine AllReadyH.cons (by simp only [List.getElem?_toArray, List.getElem?_cons_succ, List.getElem?_cons_zero]; rfl) (fun K hK => ?_) AllReadyH.nil
                go_simp
                have hB4 := hid (Below.setCell (p := ⟨q, 1, none⟩) hB3.out hqB (.slice cao' ((seg (fun i => y.getD i 0) k j).length + 1) cc'))
                refine hK.out _ _ (hyc.out _ hB4.out) (fun hHeld => ?_)
                clear hK K
                try simp only [Act.put, List.setIfInBounds_toArray, List.set_cons_zero, List.set_cons_succ]
                refine wpAnyH_done (by kernel_rfl) ?_ _
                go_wp2_with fail
                go_roundw
                case rel => exact ⟨j + 1, _, rfl, by omega, by omega, by go_num, by rw [seg_succ _ _ _ hkj, ← hYK.out]; exact hR3.out, fun t h1 h2 => by
                  by_cases ht : t < j
                  · exact hAll.out t h1 ht
                  · obtain rfl : t = j := by omega
                    exact hE2.out, hB4.out⟩
                case measure => simp [intOf]; omega
          · obtain rfl : j = n := by omega
            have hq0 := hRop.out.q0
            have hq1 := hRop.out.q1
            have hkn : k < j := by omega
            go_wp2_with (at_builtin; go_must (refine wpList_append_str rfl _ _ 90 rfl w.heap.size 104 104 (.agg #[.int .u32 0, .slice none 0 0]) 2 32 1 Try.underlying90 (by kernel_rfl) rfl (by decide) _ R.length _ [.int .u32 k, .slice cao (j - k) cc] (0, 0) hRop.out.ownO rfl (by simp [Value.oneCell']) (by unfold maxLen; omega) (by omega) hsz rfl rfl ?_); intro v' w3 hA3)
            have hR3 := hid (hRop.out.close hA3)
            have hB3 := hid (hB.out.trans (hA3.below hRop.out.ownO hB.out.size))
            clear hA3
            go_roundw
            case rel => exact ⟨j + 1, _, _, rfl, by go_num, by omega, hR3.out, by rw [List.map_append, hMk.out, show min (j + 1) j = j by omega, runsD_seg' _ _ k j hGap.out hkn hAll.out]; rfl, .inr (.inl (by omega)), hB3.out⟩
            case measure => simp [intOf]; omega
    · go_wp2_with fail
      (try rw [Exit.noGoto_ret])
      go_ret2
      refine ⟨_, R, rfl, hRn.out, ?_, hB.out⟩
      rw [hM.out, hXY.out, show min k n = n by omega]
end Go.Proofs.Ytdhicfolchpmhaa
