/- Walks: LittleSpans. -/
import Derived.OwnWalk
import Derived.Test.YtdhicfolchpmhaaSpanJ
import Derived.Test.YtdhicfolchpmhaaSpanI
import Derived.Test.YtdhicfolchpmhaaSpanA
namespace Go.Proofs.Ytdhicfolchpmhaa
open Go.RowKit
set_option linter.unusedVariables false
set_option linter.unusedSimpArgs false

theorem pairs_map (f h : Nat → Int) (n : Nat) : pairsV (fun i => Value.int .u32 (f i)) (fun i => .int .u32 (h i)) n = ((List.range n).flatMap fun i => [f i, h i]).map (Value.int .u32) := by
  simp [pairsV, List.map_flatMap]
theorem pairs_len2 (f h : Nat → Int) (n : Nat) : n * 2 = ((List.range n).flatMap fun i => [f i, h i]).length := by
  induction n with
  | zero => rfl
  | succ n ih => rw [List.range_succ, List.flatMap_append, List.length_append, ← ih]; simp; omega

set_option maxHeartbeats 4000000 in
set_option maxRecDepth 100000 in
theorem spans_walk (w : World) (b off len cap : Nat) (rows : List SpanRow) (hlen : len = rows.length) (hbig : len ≤ 1048576) (hr : ∀ i, (h : i < rows.length) → (rows[i]).Cells w b (off + i * 10) ∧ (rows[i]).Lies w) :
    Calls Try.prog 11 #[.slice (some ⟨b, off, none⟩) len cap] w fun e w' => e = .returned (.bool true) ∧ Below w.heap.size w w' := by
  subst hlen
  have hR := hid hr
  clear hr
  go_enter Try.func11, Try.ntmps11
  go_wp2_with fail
  refine (lives_any _).mono ?_
  rintro e w1 ⟨rfl, hb1⟩
  have hB1 := hid hb1
  clear hb1
  go_wp2_with fail
  refine (within33 10 5 15 _ (by omega) (by omega) (by omega)).mono ?_
  rintro e w2 ⟨rfl, hg2⟩
  have hB2 := hid (hB1.out.grown hg2 hB1.out.size (fun q hq => by simp at hq))
  clear hg2 hB1
  go_wp2_with fail
  go_loopw [3, 4, 5, 6, 7] (fun x1 x2 x3 x4 i wr => ∃ (S T : List Trip) (k : Nat) (vk vw vc vp : Value), vk = x1 ∧ vw = x2 ∧ vc = x3 ∧ vp = x4 ∧ i = .int .i64 k ∧ k ≤ rows.length ∧ S.length ≤ k ∧ T.length ≤ k ∧ (S = [] → vk = .slice none 0 0) ∧ (T = [] → vc = .slice none 0 0) ∧ Both wr w.heap.size vk vw S vc vp T [] ∧ Below w.heap.size w wr) (fun _ _ _ _ i _ => rows.length - (intOf i).toNat)
  case atStart => exact ⟨[], [], 0, _, _, _, _, rfl, rfl, rfl, rfl, rfl, Nat.zero_le _, Nat.le_refl _, Nat.le_refl _, fun _ => rfl, fun _ => rfl, Both.start w2 _, hB2.out⟩
  case round =>
    clear hB2
    obtain ⟨S, T, k, vk, vw, vc, vp, rfl, rfl, rfl, rfl, rfl, hk, hSk, hTk, hS0, hT0, hh, hb⟩ := hrel
    have hH := hid hh
    have hB := hid hb
    have hS := hid hS0
    have hT := hid hT0
    have hSl := hid hSk
    have hTl := hid hTk
    clear hh hb hS0 hT0 hSk hTk
    by_cases hlt : k < rows.length
    · have hrc := hid ((hR.out k hlt).1.mono hB.out)
      have hrl := hid ((hR.out k hlt).2.mono hB.out)
      generalize hrk : rows[k] = r at *
      clear hrk
      obtain ⟨call, a, al, b2, bl, total, so, sn, scap, sf, sh, first, lo, lcap, lens, bo, bcap, bytes⟩ := r
      have g0 : wr.cell? ⟨b, off + k * 10, none⟩ = some (.int .i64 call) := hrc.out.c0
      have g1 : wr.cell? ⟨b, off + k * 10 + 1, none⟩ = some (.int .u32 a) := hrc.out.c1
      have g2 : wr.cell? ⟨b, off + k * 10 + 2, none⟩ = some (.int .u32 al) := hrc.out.c2
      have g3 : wr.cell? ⟨b, off + k * 10 + 3, none⟩ = some (.int .u32 b2) := hrc.out.c3
      have g4 : wr.cell? ⟨b, off + k * 10 + 4, none⟩ = some (.int .u32 bl) := hrc.out.c4
      have g5 : wr.cell? ⟨b, off + k * 10 + 5, none⟩ = some (.int .u32 total) := hrc.out.c5
      have g6 : wr.cell? ⟨b, off + k * 10 + 6, none⟩ = some (.slice so sn scap) := hrc.out.c6
      have g7 : wr.cell? ⟨b, off + k * 10 + 7, none⟩ = some (.int .u32 first) := hrc.out.c7
      have g8 : wr.cell? ⟨b, off + k * 10 + 8, none⟩ = some (.slice lo lens.length lcap) := hrc.out.c8
      have g9 : wr.cell? ⟨b, off + k * 10 + 9, none⟩ = some (.slice bo bytes.length bcap) := hrc.out.c9
      obtain ⟨wa, hwa⟩ : ∃ wa, wa = wr.alloc (.cells #[.int .i64 call, .int .u32 a, .int .u32 al, .int .u32 b2, .int .u32 bl, .int .u32 total, .slice so sn scap, .int .u32 first, .slice lo lens.length lcap, .slice bo bytes.length bcap] 76) := ⟨_, rfl⟩
      have hCa : Hid (SpanRow.Cells wa wr.heap.size 0 ⟨call, a, al, b2, bl, total, so, sn, scap, sf, sh, first, lo, lcap, lens, bo, bcap, bytes⟩) := by
        subst hwa
        exact ⟨by simp, by simp, by simp, by simp, by simp, by simp, by simp, by simp, by simp, by simp⟩
      have hba : Below wr.heap.size wr wa := hwa ▸ (Below.refl _ _).alloc (Nat.le_refl _) _
      have hLa := hid (hrl.out.mono hba)
      have hHa := hid (hH.out.below hba)
      have hBa := hid (hB.out.trans (hba.mono hB.out.size))
      have hla := hid (show wr.heap.size < wa.heap.size from World.block_lt_of_cell? wa _ hCa.out.c0)
      clear hba hrc hrl
      obtain ⟨ob, hob⟩ : ∃ ob, ob = wr.heap.size := ⟨_, rfl⟩
      rw [← hob] at hCa hla
      by_cases h0 : call = 0
      · subst h0
        go_wp2_with fail
        rw [← hwa, ← hob]
        clear hwa hob g0 g1 g2 g3 g4 g5 g6 g7 g8 g9
        have hST : Hid (∀ W, Below wa.heap.size wa W → (Below w.heap.size w W ∧ Both W w.heap.size vk vw S vc vp T [] ∧ W.cell? ⟨ob, 1, none⟩ = some (.int .u32 a) ∧ W.cell? ⟨ob, 2, none⟩ = some (.int .u32 al) ∧ W.cell? ⟨ob, 5, none⟩ = some (.int .u32 total))) := fun W hW => ⟨hBa.out.trans (hW.mono hBa.out.size), hHa.out.below hW, by simpa using (hCa.out.mono hW).c1, by simpa using (hCa.out.mono hW).c2, by simpa using (hCa.out.mono hW).c5⟩
        have hS0 := hid (hST.out _ ((Below.refl _ wa).drew))
        have hStep : Hid (∀ W W' : World, (Below w.heap.size w W ∧ Both W w.heap.size vk vw S vc vp T [] ∧ W.cell? ⟨ob, 1, none⟩ = some (.int .u32 a) ∧ W.cell? ⟨ob, 2, none⟩ = some (.int .u32 al) ∧ W.cell? ⟨ob, 5, none⟩ = some (.int .u32 total)) → W.grownBy W' none → (Below w.heap.size w W' ∧ Both W' w.heap.size vk vw S vc vp T [] ∧ W'.cell? ⟨ob, 1, none⟩ = some (.int .u32 a) ∧ W'.cell? ⟨ob, 2, none⟩ = some (.int .u32 al) ∧ W'.cell? ⟨ob, 5, none⟩ = some (.int .u32 total))) := fun W W' h hg => ⟨h.1.grown hg h.1.size (fun q hq => by simp at hq), h.2.1.below (grown_below hg), hg.cell h.2.2.1 (by simp), hg.cell h.2.2.2.1 (by simp), hg.cell h.2.2.2.2 (by simp)⟩
        refine wp_region_held_drew (S := fun W => Below w.heap.size w W ∧ Both W w.heap.size vk vw S vc vp T [] ∧ W.cell? ⟨ob, 1, none⟩ = some (.int .u32 a) ∧ W.cell? ⟨ob, 2, none⟩ = some (.int .u32 al) ∧ W.cell? ⟨ob, 5, none⟩ = some (.int .u32 total)) (by kernel_rfl) hS0.out (fun hHeld => ?_)
        refine wpAnyH_take (i := 0) (v := ?_) (by simp only [List.getElem?_toArray, List.getElem?_cons_succ, List.getElem?_cons_zero]; rfl) (by kernel_rfl) (by kernel_rfl) (by kernel_rfl) (by intro _ _ _ h; exact h) (Or.inl ⟨by rfl, ?_⟩) (by assumption) ?_
        rotate_left
        · intro w' hSw; (try dsimp only at hSw); go_simp; (try with_reducible rfl)
        try simp only [Act.put, List.setIfInBounds_toArray, List.set_cons_zero, List.set_cons_succ]
        refine wpAnyH_take (i := 1) (v := ?_) (by simp only [List.getElem?_toArray, List.getElem?_cons_succ, List.getElem?_cons_zero]; rfl) (by kernel_rfl) (by kernel_rfl) (by kernel_rfl) (by intro _ _ _ h; exact h) (Or.inl ⟨by rfl, ?_⟩) (by assumption) ?_
        rotate_left
        · intro w' hSw; (try dsimp only at hSw); go_simp; (try with_reducible rfl)
        try simp only [Act.put, List.setIfInBounds_toArray, List.set_cons_zero, List.set_cons_succ]
        refine wpAnyH_take (i := 2) (v := ?_) (by simp only [List.getElem?_toArray, List.getElem?_cons_succ, List.getElem?_cons_zero]; rfl) (by kernel_rfl) (by kernel_rfl) (by kernel_rfl) (by intro _ _ _ h; exact h) (Or.inl ⟨by rfl, ?_⟩) (by assumption) ?_
        rotate_left
        · intro w' hSw; (try dsimp only at hSw); go_simp; (try with_reducible rfl)
        try simp only [Act.put, List.setIfInBounds_toArray, List.set_cons_zero, List.set_cons_succ]
        refine wpAnyH_take (i := 3) (v := ?_) (by simp only [List.getElem?_toArray, List.getElem?_cons_succ, List.getElem?_cons_zero]; rfl) (by kernel_rfl) (by kernel_rfl) (by kernel_rfl) (by intro _ _ _ h; exact h) (Or.inl ⟨by rfl, ?_⟩) (by assumption) ?_
        rotate_left
        · intro w' hSw; (try dsimp only at hSw); go_simp; (try with_reducible rfl)
        try simp only [Act.put, List.setIfInBounds_toArray, List.set_cons_zero, List.set_cons_succ]
        refine wpAnyH_take (i := 5) (v := ?_) (by simp only [List.getElem?_toArray, List.getElem?_cons_succ, List.getElem?_cons_zero]; rfl) (by kernel_rfl) (by kernel_rfl) (by kernel_rfl) (by intro _ _ _ h; exact h) (Or.inl ⟨by rfl, ?_⟩) (by assumption) ?_
        rotate_left
        · intro w' hSw; (try dsimp only at hSw); go_simp; (try with_reducible rfl)
        try simp only [Act.put, List.setIfInBounds_toArray, List.set_cons_zero, List.set_cons_succ]
        refine wpAnyH_take (i := 6) (v := ?_) (by simp only [List.getElem?_toArray, List.getElem?_cons_succ, List.getElem?_cons_zero]; rfl) (by kernel_rfl) (by kernel_rfl) (by kernel_rfl) (by intro _ _ _ h; exact h) (Or.inl ⟨by rfl, ?_⟩) (by assumption) ?_
        rotate_left
        · intro w' hSw; (try dsimp only at hSw); go_simp; (try with_reducible rfl)
        try simp only [Act.put, List.setIfInBounds_toArray, List.set_cons_zero, List.set_cons_succ]
        refine wpAnyH_take (i := 7) (v := ?_) (by simp only [List.getElem?_toArray, List.getElem?_cons_succ, List.getElem?_cons_zero]; rfl) (by kernel_rfl) (by kernel_rfl) (by kernel_rfl) (by intro _ _ _ h; exact h) (Or.inl ⟨by rfl, ?_⟩) (by assumption) ?_
        rotate_left
        · intro w' hSw; (try dsimp only at hSw); go_simp; (try with_reducible rfl)
        try simp only [Act.put, List.setIfInBounds_toArray, List.set_cons_zero, List.set_cons_succ]
        refine wpAnyH_take (i := 8) (v := ?_) (by simp only [List.getElem?_toArray, List.getElem?_cons_succ, List.getElem?_cons_zero]; rfl) (by kernel_rfl) (by kernel_rfl) (by kernel_rfl) (by intro _ _ _ h; exact h) (Or.inl ⟨by rfl, ?_⟩) (by assumption) ?_
        rotate_left
        · intro w' hSw; (try dsimp only at hSw); go_simp; (try with_reducible rfl)
        try simp only [Act.put, List.setIfInBounds_toArray, List.set_cons_zero, List.set_cons_succ]
        refine wpAnyH_ready (rs := [4]) (by kernel_rfl) (by simp) ?_
        refine AllReadyH.cons (by simp only [List.getElem?_toArray, List.getElem?_cons_succ, List.getElem?_cons_zero]; rfl) (fun K hK => ?_) AllReadyH.nil
        go_simp
        go_at_call 33
        have h99 := fun W : World => (within33 a al total W hLa.out.wa hLa.out.wal hLa.out.wt)
        refine (h99 _).mono ?_
        clear h99
        rintro e w4 ⟨rfl, hg4⟩
        have hk := hStep.out _ _ hHeld hg4
        clear hg4
        clear hHeld
        go_wp2_with fail
        refine hK.out _ _ hk (fun hHeld => ?_)
        clear hK K hk
        try simp only [Act.put, List.setIfInBounds_toArray, List.set_cons_zero, List.set_cons_succ]
        refine wpAnyH_ready (rs := [9]) (by kernel_rfl) (by simp) ?_
        refine AllReadyH.cons (by simp only [List.getElem?_toArray, List.getElem?_cons_succ, List.getElem?_cons_zero]; rfl) (fun K hK => ?_) AllReadyH.nil
        go_simp
        go_at_call 39
        have h99 := fun W : World => (within39 a al total W hLa.out.wa hLa.out.wal hLa.out.wt)
        refine (h99 _).mono ?_
        clear h99
        rintro e w5 ⟨rfl, hg5⟩
        have hk := hStep.out _ _ hHeld hg5
        clear hg5
        clear hHeld
        go_wp2_with fail
        refine hK.out _ _ hk (fun hHeld => ?_)
        clear hK K hk
        try simp only [Act.put, List.setIfInBounds_toArray, List.set_cons_zero, List.set_cons_succ]
        refine wpAnyH_take (i := 10) (v := ?_) (by simp only [List.getElem?_toArray, List.getElem?_cons_succ, List.getElem?_cons_zero]; rfl) (by kernel_rfl) (by kernel_rfl) (by kernel_rfl) (by intro _ _ _ h; exact h) (Or.inl ⟨by rfl, ?_⟩) (by assumption) ?_
        rotate_left
        · intro w' hSw; (try dsimp only at hSw); go_simp; (try with_reducible rfl)
        try simp only [Act.put, List.setIfInBounds_toArray, List.set_cons_zero, List.set_cons_succ]
        refine wpAnyH_done (by kernel_rfl) ?_ _
        go_wp2_with fail
        go_roundw
        case rel => exact ⟨S, T, k + 1, _, _, _, _, rfl, rfl, rfl, rfl, by go_num, by omega, Nat.le_succ_of_le hSl.out, Nat.le_succ_of_le hTl.out, hS.out, hT.out, hHeld.2.1, hHeld.1⟩
        case measure => simp [intOf]; omega
      · have hk0 : (call == 0) = false := beq_eq_false_iff_ne.2 h0
        clear h0
        by_cases h1 : call = 1
        · subst h1
          go_wp2_with fail
          rw [← hwa, ← hob]
          clear hwa hob g0 g1 g2 g3 g4 g5 g6 g7 g8 g9
          have hST : Hid (∀ W, Below wa.heap.size wa W → (Below w.heap.size w W ∧ Both W w.heap.size vk vw S vc vp T [] ∧ W.cell? ⟨ob, 1, none⟩ = some (.int .u32 a) ∧ W.cell? ⟨ob, 2, none⟩ = some (.int .u32 al) ∧ W.cell? ⟨ob, 3, none⟩ = some (.int .u32 b2) ∧ W.cell? ⟨ob, 4, none⟩ = some (.int .u32 bl))) := fun W hW => ⟨hBa.out.trans (hW.mono hBa.out.size), hHa.out.below hW, by simpa using (hCa.out.mono hW).c1, by simpa using (hCa.out.mono hW).c2, by simpa using (hCa.out.mono hW).c3, by simpa using (hCa.out.mono hW).c4⟩
          have hS0 := hid (hST.out _ ((Below.refl _ wa).drew))
          have hStep : Hid (∀ W W' : World, (Below w.heap.size w W ∧ Both W w.heap.size vk vw S vc vp T [] ∧ W.cell? ⟨ob, 1, none⟩ = some (.int .u32 a) ∧ W.cell? ⟨ob, 2, none⟩ = some (.int .u32 al) ∧ W.cell? ⟨ob, 3, none⟩ = some (.int .u32 b2) ∧ W.cell? ⟨ob, 4, none⟩ = some (.int .u32 bl)) → W.grownBy W' none → (Below w.heap.size w W' ∧ Both W' w.heap.size vk vw S vc vp T [] ∧ W'.cell? ⟨ob, 1, none⟩ = some (.int .u32 a) ∧ W'.cell? ⟨ob, 2, none⟩ = some (.int .u32 al) ∧ W'.cell? ⟨ob, 3, none⟩ = some (.int .u32 b2) ∧ W'.cell? ⟨ob, 4, none⟩ = some (.int .u32 bl))) := fun W W' h hg => ⟨h.1.grown hg h.1.size (fun q hq => by simp at hq), h.2.1.below (grown_below hg), hg.cell h.2.2.1 (by simp), hg.cell h.2.2.2.1 (by simp), hg.cell h.2.2.2.2.1 (by simp), hg.cell h.2.2.2.2.2 (by simp)⟩
          refine wp_region_held_drew (S := fun W => Below w.heap.size w W ∧ Both W w.heap.size vk vw S vc vp T [] ∧ W.cell? ⟨ob, 1, none⟩ = some (.int .u32 a) ∧ W.cell? ⟨ob, 2, none⟩ = some (.int .u32 al) ∧ W.cell? ⟨ob, 3, none⟩ = some (.int .u32 b2) ∧ W.cell? ⟨ob, 4, none⟩ = some (.int .u32 bl)) (by kernel_rfl) hS0.out (fun hHeld => ?_)
          refine wpAnyH_take (i := 0) (v := ?_) (by simp only [List.getElem?_toArray, List.getElem?_cons_succ, List.getElem?_cons_zero]; rfl) (by kernel_rfl) (by kernel_rfl) (by kernel_rfl) (by intro _ _ _ h; exact h) (Or.inl ⟨by rfl, ?_⟩) (by assumption) ?_
          rotate_left
          · intro w' hSw; (try dsimp only at hSw); go_simp; (try with_reducible rfl)
          try simp only [Act.put, List.setIfInBounds_toArray, List.set_cons_zero, List.set_cons_succ]
          refine wpAnyH_take (i := 1) (v := ?_) (by simp only [List.getElem?_toArray, List.getElem?_cons_succ, List.getElem?_cons_zero]; rfl) (by kernel_rfl) (by kernel_rfl) (by kernel_rfl) (by intro _ _ _ h; exact h) (Or.inl ⟨by rfl, ?_⟩) (by assumption) ?_
          rotate_left
          · intro w' hSw; (try dsimp only at hSw); go_simp; (try with_reducible rfl)
          try simp only [Act.put, List.setIfInBounds_toArray, List.set_cons_zero, List.set_cons_succ]
          refine wpAnyH_take (i := 2) (v := ?_) (by simp only [List.getElem?_toArray, List.getElem?_cons_succ, List.getElem?_cons_zero]; rfl) (by kernel_rfl) (by kernel_rfl) (by kernel_rfl) (by intro _ _ _ h; exact h) (Or.inl ⟨by rfl, ?_⟩) (by assumption) ?_
          rotate_left
          · intro w' hSw; (try dsimp only at hSw); go_simp; (try with_reducible rfl)
          try simp only [Act.put, List.setIfInBounds_toArray, List.set_cons_zero, List.set_cons_succ]
          refine wpAnyH_take (i := 3) (v := ?_) (by simp only [List.getElem?_toArray, List.getElem?_cons_succ, List.getElem?_cons_zero]; rfl) (by kernel_rfl) (by kernel_rfl) (by kernel_rfl) (by intro _ _ _ h; exact h) (Or.inl ⟨by rfl, ?_⟩) (by assumption) ?_
          rotate_left
          · intro w' hSw; (try dsimp only at hSw); go_simp; (try with_reducible rfl)
          try simp only [Act.put, List.setIfInBounds_toArray, List.set_cons_zero, List.set_cons_succ]
          refine wpAnyH_take (i := 5) (v := ?_) (by simp only [List.getElem?_toArray, List.getElem?_cons_succ, List.getElem?_cons_zero]; rfl) (by kernel_rfl) (by kernel_rfl) (by kernel_rfl) (by intro _ _ _ h; exact h) (Or.inl ⟨by rfl, ?_⟩) (by assumption) ?_
          rotate_left
          · intro w' hSw; (try dsimp only at hSw); go_simp; (try with_reducible rfl)
          try simp only [Act.put, List.setIfInBounds_toArray, List.set_cons_zero, List.set_cons_succ]
          refine wpAnyH_take (i := 6) (v := ?_) (by simp only [List.getElem?_toArray, List.getElem?_cons_succ, List.getElem?_cons_zero]; rfl) (by kernel_rfl) (by kernel_rfl) (by kernel_rfl) (by intro _ _ _ h; exact h) (Or.inl ⟨by rfl, ?_⟩) (by assumption) ?_
          rotate_left
          · intro w' hSw; (try dsimp only at hSw); go_simp; (try with_reducible rfl)
          try simp only [Act.put, List.setIfInBounds_toArray, List.set_cons_zero, List.set_cons_succ]
          refine wpAnyH_take (i := 7) (v := ?_) (by simp only [List.getElem?_toArray, List.getElem?_cons_succ, List.getElem?_cons_zero]; rfl) (by kernel_rfl) (by kernel_rfl) (by kernel_rfl) (by intro _ _ _ h; exact h) (Or.inl ⟨by rfl, ?_⟩) (by assumption) ?_
          rotate_left
          · intro w' hSw; (try dsimp only at hSw); go_simp; (try with_reducible rfl)
          try simp only [Act.put, List.setIfInBounds_toArray, List.set_cons_zero, List.set_cons_succ]
          refine wpAnyH_take (i := 8) (v := ?_) (by simp only [List.getElem?_toArray, List.getElem?_cons_succ, List.getElem?_cons_zero]; rfl) (by kernel_rfl) (by kernel_rfl) (by kernel_rfl) (by intro _ _ _ h; exact h) (Or.inl ⟨by rfl, ?_⟩) (by assumption) ?_
          rotate_left
          · intro w' hSw; (try dsimp only at hSw); go_simp; (try with_reducible rfl)
          try simp only [Act.put, List.setIfInBounds_toArray, List.set_cons_zero, List.set_cons_succ]
          refine wpAnyH_ready (rs := [4]) (by kernel_rfl) (by simp) ?_
          refine AllReadyH.cons (by simp only [List.getElem?_toArray, List.getElem?_cons_succ, List.getElem?_cons_zero]; rfl) (fun K hK => ?_) AllReadyH.nil
          go_simp
          go_at_call 40
          have h99 := fun W : World => (lapG40 a al b2 bl W hLa.out.wa hLa.out.wal hLa.out.wb hLa.out.wbl)
          refine (h99 _).mono ?_
          clear h99
          rintro e w4 ⟨rfl, hg4⟩
          have hk := hStep.out _ _ hHeld hg4
          clear hg4
          clear hHeld
          go_wp2_with fail
          refine hK.out _ _ hk (fun hHeld => ?_)
          clear hK K hk
          try simp only [Act.put, List.setIfInBounds_toArray, List.set_cons_zero, List.set_cons_succ]
          refine wpAnyH_ready (rs := [9]) (by kernel_rfl) (by simp) ?_
          refine AllReadyH.cons (by simp only [List.getElem?_toArray, List.getElem?_cons_succ, List.getElem?_cons_zero]; rfl) (fun K hK => ?_) AllReadyH.nil
          go_simp
          go_at_call 41
          have h99 := fun W : World => (lapG41 a al b2 bl W hLa.out.wa hLa.out.wal hLa.out.wb hLa.out.wbl)
          refine (h99 _).mono ?_
          clear h99
          rintro e w5 ⟨rfl, hg5⟩
          have hk := hStep.out _ _ hHeld hg5
          clear hg5
          clear hHeld
          go_wp2_with fail
          refine hK.out _ _ hk (fun hHeld => ?_)
          clear hK K hk
          try simp only [Act.put, List.setIfInBounds_toArray, List.set_cons_zero, List.set_cons_succ]
          refine wpAnyH_take (i := 10) (v := ?_) (by simp only [List.getElem?_toArray, List.getElem?_cons_succ, List.getElem?_cons_zero]; rfl) (by kernel_rfl) (by kernel_rfl) (by kernel_rfl) (by intro _ _ _ h; exact h) (Or.inl ⟨by rfl, ?_⟩) (by assumption) ?_
          rotate_left
          · intro w' hSw; (try dsimp only at hSw); go_simp; (try with_reducible rfl)
          try simp only [Act.put, List.setIfInBounds_toArray, List.set_cons_zero, List.set_cons_succ]
          refine wpAnyH_done (by kernel_rfl) ?_ _
          go_wp2_with fail
          go_roundw
          case rel => exact ⟨S, T, k + 1, _, _, _, _, rfl, rfl, rfl, rfl, by go_num, by omega, Nat.le_succ_of_le hSl.out, Nat.le_succ_of_le hTl.out, hS.out, hT.out, hHeld.2.1, hHeld.1⟩
          case measure => simp [intOf]; omega
        · have hk1 : (call == 1) = false := beq_eq_false_iff_ne.2 h1
          clear h1
          by_cases h2 : call = 2
          · subst h2
            have q6 : (wr.alloc (.cells #[.int .i64 2, .int .u32 a, .int .u32 al, .int .u32 b2, .int .u32 bl, .int .u32 total, .slice so sn scap, .int .u32 first, .slice lo lens.length lcap, .slice bo bytes.length bcap] 76)).cell? ⟨wr.heap.size, 6, none⟩ = some (.slice so sn scap) := by simp
            go_wp2_with fail
            rw [← hwa, ← hob]
            clear hwa hob g0 g1 g2 g3 g4 g5 g6 g7 g8 g9
            obtain ⟨⟨sb, soff, hso, hsc⟩, hsf, hsh⟩ := hLa.out.hs
            have h42 := apart42 so sb soff sn scap hso sf sh wa (by have := hLa.out.ns; dsimp only at this; omega) hsc hsf hsh
            clear q6 hso hsc hsf hsh
            refine h42.mono ?_
            clear h42
            rintro e w4 ⟨rfl, hb4⟩
            have hH4 := hid (hHa.out.below hb4)
            have hB4 := hid (hBa.out.trans (hb4.mono hBa.out.size))
            clear hb4
            go_wp2_with fail
            go_roundw
            case rel => exact ⟨S, T, k + 1, _, _, _, _, rfl, rfl, rfl, rfl, by go_num, by omega, Nat.le_succ_of_le hSl.out, Nat.le_succ_of_le hTl.out, hS.out, hT.out, hH4.out, hB4.out⟩
            case measure => simp [intOf]; omega
          · have hk2 : (call == 2) = false := beq_eq_false_iff_ne.2 h2
            clear h2
            by_cases h3 : call = 3
            · subst h3
              by_cases hle : first + tot lens ≤ 4294967295
              · skip
                have hLe := hid hle
                clear hle
                go_wp2_with fail
                rw [← hwa, ← hob]
                clear hwa hob g0 g1 g2 g3 g4 g5 g6 g7 g8 g9
                have h43 := lent43 lo lens.length lcap lens wa rfl (by have := hLa.out.nl; dsimp only at this; omega) hLa.out.hl
                refine h43.mono ?_
                clear h43
                rintro e w3 ⟨v3, rfl, ho3, hb3⟩
                obtain ⟨g, c8, hv3, -, -, hnc, -⟩ := own_shape ho3 (by omega)
                subst hv3
                have hC3 := hid (hCa.out.mono hb3)
                have hL3 := hid (hLa.out.mono hb3)
                have hH3 := hid (hHa.out.below hb3)
                have hB3 := hid (hBa.out.trans (hb3.mono hBa.out.size))
                have hs3 := hid (hb3.size)
                have hE3 : Hid (Ints .u32 w3 (some ⟨g, 0, none⟩) (lentW lens)) := by
                  obtain ⟨ao', c', hv, hI, -⟩ := ints_of_own ho3 (fun x hx => by
                    rcases List.mem_append.1 hx with h1 | h1
                    · exact hL3.out.hl.wf x h1
                    · obtain ⟨i, _, rfl⟩ := List.mem_map.1 h1
                      exact wf_u32.2 (mU_bd _ _))
                  simp only [Value.slice.injEq] at hv
                  obtain ⟨rfl, -, -⟩ := hv
                  exact hI
                have hF3 : Hid (Ints .u32 w3 (some ⟨g, 0, none⟩) lens) := by
                  have := hE3.out.take lens.length
                  unfold lentW at this
                  rwa [List.take_left] at this
                have hnl : lens.length ≤ 1048576 := hL3.out.nl
                have hx1 : (0 : Int) ≤ (lens.length : Int) := by omega
                have hx2 : (lens.length : Int) ≤ (c8 : Int) := by omega
                clear ho3 hb3
                have q7 : w3.cell? ⟨ob, 7, none⟩ = some (.int .u32 first) := by simpa using hC3.out.c7
                have q8 : w3.cell? ⟨ob, 8, none⟩ = some (.slice lo lens.length lcap) := by simpa using hC3.out.c8
                go_wp2_with fail
                have h44 := lay44 first lo lens.length lcap lens w3 rfl hnl hL3.out.wf hL3.out.hl
                refine h44.mono ?_
                clear h44 q7 q8
                rintro e w4 ⟨hcase, hb4⟩
                obtain ⟨v4, rfl, ho4⟩ := (hcase.resolve_right (fun h => by have := h.1; have := hLe.out; omega)).2
                have hO4 := hid ho4
                clear ho4 hcase
                have hC4 := hid (hC3.out.mono hb4)
                have hL4 := hid (hL3.out.mono hb4)
                have hH4 := hid (hH3.out.below hb4)
                have hB4 := hid (hB3.out.trans (hb4.mono hB3.out.size))
                have hs4 := hid (hb4.size)
                have hE4 := hid (hE3.out.mono hb4)
                have hF4 := hid (hF3.out.mono hb4)
                clear hb4
                go_wp2_with fail
                have hS0 : Hid (w4.drew.cell? ⟨ob, 7, none⟩ = some (.int .u32 first) ∧ w4.drew.cell? ⟨ob, 8, none⟩ = some (.slice lo lens.length lcap)) := ⟨by simpa using hC4.out.c7, by simpa using hC4.out.c8⟩
                refine wp_region_held_drew (S := fun W => W.cell? ⟨ob, 7, none⟩ = some (.int .u32 first) ∧ W.cell? ⟨ob, 8, none⟩ = some (.slice lo lens.length lcap)) (by kernel_rfl) hS0.out (fun hHeld => ?_)
                refine wpAnyH_take (i := 0) (v := ?_) (by simp only [List.getElem?_toArray, List.getElem?_cons_succ, List.getElem?_cons_zero]; rfl) (by kernel_rfl) (by kernel_rfl) (by kernel_rfl) (by intro _ _ _ h; exact h) (Or.inl ⟨by rfl, ?_⟩) (by assumption) ?_
                rotate_left
                · intro w' hSw; (try dsimp only at hSw); go_simp; (try with_reducible rfl)
                try simp only [Act.put, List.setIfInBounds_toArray, List.set_cons_zero, List.set_cons_succ]
                refine wpAnyH_take (i := 1) (v := ?_) (by simp only [List.getElem?_toArray, List.getElem?_cons_succ, List.getElem?_cons_zero]; rfl) (by kernel_rfl) (by kernel_rfl) (by kernel_rfl) (by intro _ _ _ h; exact h) (Or.inl ⟨by rfl, ?_⟩) (by assumption) ?_
                rotate_left
                · intro w' hSw; (try dsimp only at hSw); go_simp; (try with_reducible rfl)
                try simp only [Act.put, List.setIfInBounds_toArray, List.set_cons_zero, List.set_cons_succ]
                refine wpAnyH_take (i := 2) (v := ?_) (by simp only [List.getElem?_toArray, List.getElem?_cons_succ, List.getElem?_cons_zero]; rfl) (by kernel_rfl) (by kernel_rfl) (by kernel_rfl) (by intro _ _ _ h; exact h) (Or.inl ⟨by rfl, ?_⟩) (by assumption) ?_
                rotate_left
                · intro w' hSw; (try dsimp only at hSw); go_simp; (try with_reducible rfl)
                try simp only [Act.put, List.setIfInBounds_toArray, List.set_cons_zero, List.set_cons_succ]
                refine wpAnyH_take (i := 3) (v := ?_) (by simp only [List.getElem?_toArray, List.getElem?_cons_succ, List.getElem?_cons_zero]; rfl) (by kernel_rfl) (by kernel_rfl) (by kernel_rfl) (by intro _ _ _ h; exact h) (Or.inl ⟨by rfl, ?_⟩) (by assumption) ?_
                rotate_left
                · intro w' hSw; (try dsimp only at hSw); go_simp; (try with_reducible rfl)
                try simp only [Act.put, List.setIfInBounds_toArray, List.set_cons_zero, List.set_cons_succ]
                refine wpAnyH_take (i := 4) (v := ?_) (by simp only [List.getElem?_toArray, List.getElem?_cons_succ, List.getElem?_cons_zero]; rfl) (by kernel_rfl) (by kernel_rfl) (by kernel_rfl) (by intro _ _ _ h; exact h) (Or.inl ⟨by rfl, ?_⟩) (by assumption) ?_
                rotate_left
                · intro w' hSw; (try dsimp only at hSw); go_simp; (try with_reducible rfl)
                try simp only [Act.put, List.setIfInBounds_toArray, List.set_cons_zero, List.set_cons_succ]
                refine wpAnyH_take (i := 5) (v := ?_) (by simp only [List.getElem?_toArray, List.getElem?_cons_succ, List.getElem?_cons_zero]; rfl) (by kernel_rfl) (by kernel_rfl) (by kernel_rfl) (by intro _ _ _ h; exact h) (Or.inl ⟨by rfl, ?_⟩) (by assumption) ?_
                rotate_left
                · intro w' hSw; (try dsimp only at hSw); go_simp; (try with_reducible rfl)
                try simp only [Act.put, List.setIfInBounds_toArray, List.set_cons_zero, List.set_cons_succ]
                refine wpAnyH_take (i := 6) (v := ?_) (by simp only [List.getElem?_toArray, List.getElem?_cons_succ, List.getElem?_cons_zero]; rfl) (by kernel_rfl) (by kernel_rfl) (by kernel_rfl) (by intro _ _ _ h; exact h) (Or.inl ⟨by rfl, ?_⟩) (by assumption) ?_
                rotate_left
                · intro w' hSw; (try dsimp only at hSw); go_simp; (try with_reducible rfl)
                try simp only [Act.put, List.setIfInBounds_toArray, List.set_cons_zero, List.set_cons_succ]
                refine wpAnyH_ready (rs := [7]) (by kernel_rfl) (by simp) ?_
                refine AllReadyH.cons (by simp only [List.getElem?_toArray, List.getElem?_cons_succ, List.getElem?_cons_zero]; rfl) (fun K hK => ?_) AllReadyH.nil
                go_simp
                go_at_call 31
                have h99 := lay31 first (some ⟨g, 0, none⟩) lens.length c8 lens w4.drew rfl hnl hL4.out.wf (hF4.out.mono ((Below.refl _ _).drew))
                refine h99.mono ?_
                clear h99
                rintro e w5 ⟨hcase, hb5'⟩
                have hb5 : Below w4.heap.size w4 w5 := ((Below.refl _ w4).drew).trans hb5'
                clear hb5'
                obtain ⟨v5, rfl, ho5⟩ := (hcase.resolve_right (fun h => by have := h.1; have := hLe.out; omega)).2
                have hO5 := hid ho5
                clear ho5 hcase
                have hC5 := hid (hC4.out.mono hb5)
                have hL5 := hid (hL4.out.mono hb5)
                have hH5 := hid (hH4.out.below hb5)
                have hB5 := hid (hB4.out.trans (hb5.mono hB4.out.size))
                have hs5 := hid (hb5.size)
                have hE5 := hid (hE4.out.mono hb5)
                have hF5 := hid (hF4.out.mono hb5)
                have hO45 := hid (own_mono hO4.out hb5 (Nat.le_refl _))
                have a13 := hid (own_apart hO4.out hO5.out (Nat.le_refl _))
                have hk : w5.cell? ⟨ob, 7, none⟩ = some (.int .u32 first) ∧ w5.cell? ⟨ob, 8, none⟩ = some (.slice lo lens.length lcap) := ⟨by simpa using hC5.out.c7, by simpa using hC5.out.c8⟩
                clear hb5
                clear hHeld hS0
                go_wp2_with fail
                refine hK.out _ _ hk (fun hHeld => ?_)
                clear hK K hk
                try simp only [Act.put, List.setIfInBounds_toArray, List.set_cons_zero, List.set_cons_succ]
                refine wpAnyH_take (i := 8) (v := ?_) (by simp only [List.getElem?_toArray, List.getElem?_cons_succ, List.getElem?_cons_zero]; rfl) (by kernel_rfl) (by kernel_rfl) (by kernel_rfl) (by intro _ _ _ h; exact h) (Or.inl ⟨by rfl, ?_⟩) (by assumption) ?_
                rotate_left
                · intro w' hSw; (try dsimp only at hSw); go_simp; (try with_reducible rfl)
                try simp only [Act.put, List.setIfInBounds_toArray, List.set_cons_zero, List.set_cons_succ]
                refine wpAnyH_take (i := 9) (v := ?_) (by simp only [List.getElem?_toArray, List.getElem?_cons_succ, List.getElem?_cons_zero]; rfl) (by kernel_rfl) (by kernel_rfl) (by kernel_rfl) (by intro _ _ _ h; exact h) (Or.inl ⟨by rfl, ?_⟩) (by assumption) ?_
                rotate_left
                · intro w' hSw; (try dsimp only at hSw); go_simp; (try with_reducible rfl)
                try simp only [Act.put, List.setIfInBounds_toArray, List.set_cons_zero, List.set_cons_succ]
                refine wpAnyH_take (i := 10) (v := ?_) (by simp only [List.getElem?_toArray, List.getElem?_cons_succ, List.getElem?_cons_zero]; rfl) (by kernel_rfl) (by kernel_rfl) (by kernel_rfl) (by intro _ _ _ h; exact h) (Or.inl ⟨by rfl, ?_⟩) (by assumption) ?_
                rotate_left
                · intro w' hSw; (try dsimp only at hSw); go_simp; (try with_reducible rfl)
                try simp only [Act.put, List.setIfInBounds_toArray, List.set_cons_zero, List.set_cons_succ]
                refine wpAnyH_take (i := 11) (v := ?_) (by simp only [List.getElem?_toArray, List.getElem?_cons_succ, List.getElem?_cons_zero]; rfl) (by kernel_rfl) (by kernel_rfl) (by kernel_rfl) (by intro _ _ _ h; exact h) (Or.inl ⟨by rfl, ?_⟩) (by assumption) ?_
                rotate_left
                · intro w' hSw; (try dsimp only at hSw); go_simp; (try with_reducible rfl)
                try simp only [Act.put, List.setIfInBounds_toArray, List.set_cons_zero, List.set_cons_succ]
                refine wpAnyH_take (i := 12) (v := ?_) (by simp only [List.getElem?_toArray, List.getElem?_cons_succ, List.getElem?_cons_zero]; rfl) (by kernel_rfl) (by kernel_rfl) (by kernel_rfl) (by intro _ _ _ h; exact h) (Or.inl ⟨by rfl, ?_⟩) (by assumption) ?_
                rotate_left
                · intro w' hSw; (try dsimp only at hSw); go_simp; (try with_reducible rfl)
                try simp only [Act.put, List.setIfInBounds_toArray, List.set_cons_zero, List.set_cons_succ]
                refine wpAnyH_done (by kernel_rfl) ?_ _
                clear hHeld
                go_wp2_with fail
                have hS0 : Hid (w5.drew.cell? ⟨ob, 7, none⟩ = some (.int .u32 first) ∧ w5.drew.cell? ⟨ob, 8, none⟩ = some (.slice lo lens.length lcap)) := ⟨by simpa using hC5.out.c7, by simpa using hC5.out.c8⟩
                refine wp_region_held_drew (S := fun W => W.cell? ⟨ob, 7, none⟩ = some (.int .u32 first) ∧ W.cell? ⟨ob, 8, none⟩ = some (.slice lo lens.length lcap)) (by kernel_rfl) hS0.out (fun hHeld => ?_)
                refine wpAnyH_take (i := 0) (v := ?_) (by simp only [List.getElem?_toArray, List.getElem?_cons_succ, List.getElem?_cons_zero]; rfl) (by kernel_rfl) (by kernel_rfl) (by kernel_rfl) (by intro _ _ _ h; exact h) (Or.inl ⟨by rfl, ?_⟩) (by assumption) ?_
                rotate_left
                · intro w' hSw; (try dsimp only at hSw); go_simp; (try with_reducible rfl)
                try simp only [Act.put, List.setIfInBounds_toArray, List.set_cons_zero, List.set_cons_succ]
                refine wpAnyH_take (i := 1) (v := ?_) (by simp only [List.getElem?_toArray, List.getElem?_cons_succ, List.getElem?_cons_zero]; rfl) (by kernel_rfl) (by kernel_rfl) (by kernel_rfl) (by intro _ _ _ h; exact h) (Or.inl ⟨by rfl, ?_⟩) (by assumption) ?_
                rotate_left
                · intro w' hSw; (try dsimp only at hSw); go_simp; (try with_reducible rfl)
                try simp only [Act.put, List.setIfInBounds_toArray, List.set_cons_zero, List.set_cons_succ]
                refine wpAnyH_take (i := 2) (v := ?_) (by simp only [List.getElem?_toArray, List.getElem?_cons_succ, List.getElem?_cons_zero]; rfl) (by kernel_rfl) (by kernel_rfl) (by kernel_rfl) (by intro _ _ _ h; exact h) (Or.inl ⟨by rfl, ?_⟩) (by assumption) ?_
                rotate_left
                · intro w' hSw; (try dsimp only at hSw); go_simp; (try with_reducible rfl)
                try simp only [Act.put, List.setIfInBounds_toArray, List.set_cons_zero, List.set_cons_succ]
                refine wpAnyH_take (i := 3) (v := ?_) (by simp only [List.getElem?_toArray, List.getElem?_cons_succ, List.getElem?_cons_zero]; rfl) (by kernel_rfl) (by kernel_rfl) (by kernel_rfl) (by intro _ _ _ h; exact h) (Or.inl ⟨by rfl, ?_⟩) (by assumption) ?_
                rotate_left
                · intro w' hSw; (try dsimp only at hSw); go_simp; (try with_reducible rfl)
                try simp only [Act.put, List.setIfInBounds_toArray, List.set_cons_zero, List.set_cons_succ]
                refine wpAnyH_take (i := 4) (v := ?_) (by simp only [List.getElem?_toArray, List.getElem?_cons_succ, List.getElem?_cons_zero]; rfl) (by kernel_rfl) (by kernel_rfl) (by kernel_rfl) (by intro _ _ _ h; exact h) (Or.inl ⟨by rfl, ?_⟩) (by assumption) ?_
                rotate_left
                · intro w' hSw; (try dsimp only at hSw); go_simp; (try with_reducible rfl)
                try simp only [Act.put, List.setIfInBounds_toArray, List.set_cons_zero, List.set_cons_succ]
                refine wpAnyH_take (i := 5) (v := ?_) (by simp only [List.getElem?_toArray, List.getElem?_cons_succ, List.getElem?_cons_zero]; rfl) (by kernel_rfl) (by kernel_rfl) (by kernel_rfl) (by intro _ _ _ h; exact h) (Or.inl ⟨by rfl, ?_⟩) (by assumption) ?_
                rotate_left
                · intro w' hSw; (try dsimp only at hSw); go_simp; (try with_reducible rfl)
                try simp only [Act.put, List.setIfInBounds_toArray, List.set_cons_zero, List.set_cons_succ]
                refine wpAnyH_take (i := 6) (v := ?_) (by simp only [List.getElem?_toArray, List.getElem?_cons_succ, List.getElem?_cons_zero]; rfl) (by kernel_rfl) (by kernel_rfl) (by kernel_rfl) (by intro _ _ _ h; exact h) (Or.inl ⟨by rfl, ?_⟩) (by assumption) ?_
                rotate_left
                · intro w' hSw; (try dsimp only at hSw); go_simp; (try with_reducible rfl)
                try simp only [Act.put, List.setIfInBounds_toArray, List.set_cons_zero, List.set_cons_succ]
                refine wpAnyH_ready (rs := [7]) (by kernel_rfl) (by simp) ?_
                refine AllReadyH.cons (by simp only [List.getElem?_toArray, List.getElem?_cons_succ, List.getElem?_cons_zero]; rfl) (fun K hK => ?_) AllReadyH.nil
                go_simp
                go_at_call 31
                have h99 := lay31 first (some ⟨g, 0, none⟩) lens.length c8 lens w5.drew rfl hnl hL5.out.wf (hF5.out.mono ((Below.refl _ _).drew))
                refine h99.mono ?_
                clear h99
                rintro e w6 ⟨hcase, hb6'⟩
                have hb6 : Below w5.heap.size w5 w6 := ((Below.refl _ w5).drew).trans hb6'
                clear hb6'
                obtain ⟨v6, rfl, ho6⟩ := (hcase.resolve_right (fun h => by have := h.1; have := hLe.out; omega)).2
                have hO6 := hid ho6
                clear ho6 hcase
                have hC6 := hid (hC5.out.mono hb6)
                have hL6 := hid (hL5.out.mono hb6)
                have hH6 := hid (hH5.out.below hb6)
                have hB6 := hid (hB5.out.trans (hb6.mono hB5.out.size))
                have hs6 := hid (hb6.size)
                have hE6 := hid (hE5.out.mono hb6)
                have hF6 := hid (hF5.out.mono hb6)
                have hO46 := hid (own_mono hO45.out hb6 (Nat.le_refl _))
                have hO56 := hid (own_mono hO5.out hb6 (Nat.le_refl _))
                have a12 := hid (own_apart hO5.out hO6.out (Nat.le_refl _))
                have a23 := hid (own_apart hO4.out hO6.out hs5.out)
                have hk : w6.cell? ⟨ob, 7, none⟩ = some (.int .u32 first) ∧ w6.cell? ⟨ob, 8, none⟩ = some (.slice lo lens.length lcap) := ⟨by simpa using hC6.out.c7, by simpa using hC6.out.c8⟩
                clear hb6
                clear hHeld hS0
                go_wp2_with fail
                refine hK.out _ _ hk (fun hHeld => ?_)
                clear hK K hk
                try simp only [Act.put, List.setIfInBounds_toArray, List.set_cons_zero, List.set_cons_succ]
                refine wpAnyH_take (i := 8) (v := ?_) (by simp only [List.getElem?_toArray, List.getElem?_cons_succ, List.getElem?_cons_zero]; rfl) (by kernel_rfl) (by kernel_rfl) (by kernel_rfl) (by intro _ _ _ h; exact h) (Or.inl ⟨by rfl, ?_⟩) (by assumption) ?_
                rotate_left
                · intro w' hSw; (try dsimp only at hSw); go_simp; (try with_reducible rfl)
                try simp only [Act.put, List.setIfInBounds_toArray, List.set_cons_zero, List.set_cons_succ]
                refine wpAnyH_take (i := 9) (v := ?_) (by simp only [List.getElem?_toArray, List.getElem?_cons_succ, List.getElem?_cons_zero]; rfl) (by kernel_rfl) (by kernel_rfl) (by kernel_rfl) (by intro _ _ _ h; exact h) (Or.inl ⟨by rfl, ?_⟩) (by assumption) ?_
                rotate_left
                · intro w' hSw; (try dsimp only at hSw); go_simp; (try with_reducible rfl)
                try simp only [Act.put, List.setIfInBounds_toArray, List.set_cons_zero, List.set_cons_succ]
                refine wpAnyH_take (i := 10) (v := ?_) (by simp only [List.getElem?_toArray, List.getElem?_cons_succ, List.getElem?_cons_zero]; rfl) (by kernel_rfl) (by kernel_rfl) (by kernel_rfl) (by intro _ _ _ h; exact h) (Or.inl ⟨by rfl, ?_⟩) (by assumption) ?_
                rotate_left
                · intro w' hSw; (try dsimp only at hSw); go_simp; (try with_reducible rfl)
                try simp only [Act.put, List.setIfInBounds_toArray, List.set_cons_zero, List.set_cons_succ]
                refine wpAnyH_take (i := 11) (v := ?_) (by simp only [List.getElem?_toArray, List.getElem?_cons_succ, List.getElem?_cons_zero]; rfl) (by kernel_rfl) (by kernel_rfl) (by kernel_rfl) (by intro _ _ _ h; exact h) (Or.inl ⟨by rfl, ?_⟩) (by assumption) ?_
                rotate_left
                · intro w' hSw; (try dsimp only at hSw); go_simp; (try with_reducible rfl)
                try simp only [Act.put, List.setIfInBounds_toArray, List.set_cons_zero, List.set_cons_succ]
                refine wpAnyH_take (i := 12) (v := ?_) (by simp only [List.getElem?_toArray, List.getElem?_cons_succ, List.getElem?_cons_zero]; rfl) (by kernel_rfl) (by kernel_rfl) (by kernel_rfl) (by intro _ _ _ h; exact h) (Or.inl ⟨by rfl, ?_⟩) (by assumption) ?_
                rotate_left
                · intro w' hSw; (try dsimp only at hSw); go_simp; (try with_reducible rfl)
                try simp only [Act.put, List.setIfInBounds_toArray, List.set_cons_zero, List.set_cons_succ]
                refine wpAnyH_done (by kernel_rfl) ?_ _
                clear hHeld
                have q8 : w6.cell? ⟨ob, 8, none⟩ = some (.slice lo lens.length lcap) := by simpa using hC6.out.c8
                go_wp2_with fail
                have h45 := kept45 (some ⟨g, 0, none⟩) (lens.length + 64) c8 lo lens.length lcap lens w6 (by rw [lentW_len]) rfl (by omega) hE6.out hL6.out.hl
                refine h45.mono ?_
                clear h45
                rintro e w7 ⟨rfl, q, rfl⟩
                have hb7 := below_drewN' (Below.refl w6.heap.size w6) q
                have hH7 := hid (hH6.out.below hb7)
                have hB7 := hid (hB6.out.trans (hb7.mono hB6.out.size))
                have hO47 := hid (own_mono hO46.out hb7 (Nat.le_refl _))
                have hO57 := hid (own_mono hO56.out hb7 (Nat.le_refl _))
                have hO67 := hid (own_mono hO6.out hb7 (Nat.le_refl _))
                clear hb7 q8
                obtain ⟨ao4, cc4, hv4, -⟩ := own_any_shape hO47.out
                obtain ⟨ao5, cc5, hv5, -⟩ := own_any_shape hO57.out
                obtain ⟨ao6, cc6, hv6, -⟩ := own_any_shape hO67.out
                subst hv4 hv5 hv6
                obtain ⟨P, hP⟩ : ∃ P, P = (List.range lens.length).flatMap fun i => [posL first lens i, lens.getD i 0] := ⟨_, rfl⟩
                have hPl : Hid (lens.length * 2 = P.length) := hP ▸ pairs_len2 _ _ _
                have hPP : Hid (pairsV (spanF first lens) (spanG lens) lens.length = P.map (Value.int .u32)) := hP ▸ pairs_map _ _ _
                rw [hPP.out] at hO47 hO57 hO67
                clear hP
                go_wp2_with (first | (at_builtin; refine wpList_append_str rfl _ _ 74 rfl w.heap.size 53 53 (.slice none 0 0) 1 24 2 Try.underlying74 (by kernel_rfl) rfl (by decide) _ (S.flatMap Trip.got).length _ [_, _] (0, 0) hH7.out.ownK rfl (by simp [Value.oneCell']) (by rw [got_len]; have := hSl.out; unfold maxLen; omega) (by rw [got_len]; have := hSl.out; omega) hB7.out.size rfl rfl ?_; intro va' wg hA1; have hA1' := hid hA1; have hsg := hid (Nat.le_trans hB7.out.size hA1.grown.size); have hWo := hid (hH7.out.onW hA1); clear hA1) | (at_builtin; go_must (refine wpList_append_str rfl _ _ 74 rfl w.heap.size 53 53 (.slice none 0 0) 1 24 2 Try.underlying74 (by kernel_rfl) rfl (by decide) _ (S.flatMap Trip.want).length _ [_, _] (0, 0) hWo.out rfl (by simp [Value.oneCell']) (by rw [want_len]; have := hSl.out; unfold maxLen; omega) (by rw [want_len]; have := hSl.out; omega) hsg.out rfl rfl ?_); intro vb' ww hA2))
                have hH9 := hid (hH3.out.pushS hH7.out ⟨⟨.slice ao5 lens.length cc5, 59, 2, lens.length, P.map (Value.int .u32)⟩, ⟨.slice ao6 lens.length cc6, 59, 2, lens.length, P.map (Value.int .u32)⟩, ⟨.slice ao4 lens.length cc4, 59, 2, lens.length, P.map (Value.int .u32)⟩, P⟩ ⟨⟨rfl, rfl, hPl.out, hnl, rfl⟩, ⟨rfl, rfl, hPl.out, hnl, rfl⟩, ⟨rfl, rfl, hPl.out, hnl, rfl⟩⟩ hB3.out.size (own_base hO57.out hs4.out) (own_base hO67.out (Nat.le_trans hs4.out hs5.out)) hO47.out a12.out (RowS.apart_symm (a := ⟨_, 59, 2, 0, []⟩) (b := ⟨_, 59, 2, 0, []⟩) a13.out) (RowS.apart_symm (a := ⟨_, 59, 2, 0, []⟩) (b := ⟨_, 59, 2, 0, []⟩) a23.out) hA1'.out hA2)
                have hB9 := hid ((hB7.out.grown hA1'.out.grown hB7.out.size (fun q hq => (hH7.out.ownK.lt q hq).1)).grown hA2.grown hsg.out (fun q hq => (hWo.out.lt q hq).1))
                have hSl' : Hid ((S ++ ([⟨⟨.slice ao5 lens.length cc5, 59, 2, lens.length, P.map (Value.int .u32)⟩, ⟨.slice ao6 lens.length cc6, 59, 2, lens.length, P.map (Value.int .u32)⟩, ⟨.slice ao4 lens.length cc4, 59, 2, lens.length, P.map (Value.int .u32)⟩, P⟩] : List Trip)).length ≤ k + 1) := by have := hSl.out; show (S ++ ([⟨⟨.slice ao5 lens.length cc5, 59, 2, lens.length, P.map (Value.int .u32)⟩, ⟨.slice ao6 lens.length cc6, 59, 2, lens.length, P.map (Value.int .u32)⟩, ⟨.slice ao4 lens.length cc4, 59, 2, lens.length, P.map (Value.int .u32)⟩, P⟩] : List Trip)).length ≤ k + 1; rw [List.length_append, List.length_singleton]; omega
                have hS' : Hid (S ++ ([⟨⟨.slice ao5 lens.length cc5, 59, 2, lens.length, P.map (Value.int .u32)⟩, ⟨.slice ao6 lens.length cc6, 59, 2, lens.length, P.map (Value.int .u32)⟩, ⟨.slice ao4 lens.length cc4, 59, 2, lens.length, P.map (Value.int .u32)⟩, P⟩] : List Trip) = [] → va' = .slice none 0 0) := fun h => absurd h (by simp)
                clear hA1' hA2 hWo hsg
                go_roundw
                case rel => exact ⟨_, T, k + 1, _, _, _, _, rfl, rfl, rfl, rfl, by go_num, by omega, hSl'.out, Nat.le_succ_of_le hTl.out, hS'.out, hT.out, hH9.out, hB9.out⟩
                case measure => simp [intOf]; omega
              · skip
                have hLe := hid hle
                clear hle
                go_wp2_with fail
                rw [← hwa, ← hob]
                clear hwa hob g0 g1 g2 g3 g4 g5 g6 g7 g8 g9
                have h43 := lent43 lo lens.length lcap lens wa rfl (by have := hLa.out.nl; dsimp only at this; omega) hLa.out.hl
                refine h43.mono ?_
                clear h43
                rintro e w3 ⟨v3, rfl, ho3, hb3⟩
                obtain ⟨g, c8, hv3, -, -, hnc, -⟩ := own_shape ho3 (by omega)
                subst hv3
                have hC3 := hid (hCa.out.mono hb3)
                have hL3 := hid (hLa.out.mono hb3)
                have hH3 := hid (hHa.out.below hb3)
                have hB3 := hid (hBa.out.trans (hb3.mono hBa.out.size))
                have hs3 := hid (hb3.size)
                have hE3 : Hid (Ints .u32 w3 (some ⟨g, 0, none⟩) (lentW lens)) := by
                  obtain ⟨ao', c', hv, hI, -⟩ := ints_of_own ho3 (fun x hx => by
                    rcases List.mem_append.1 hx with h1 | h1
                    · exact hL3.out.hl.wf x h1
                    · obtain ⟨i, _, rfl⟩ := List.mem_map.1 h1
                      exact wf_u32.2 (mU_bd _ _))
                  simp only [Value.slice.injEq] at hv
                  obtain ⟨rfl, -, -⟩ := hv
                  exact hI
                have hF3 : Hid (Ints .u32 w3 (some ⟨g, 0, none⟩) lens) := by
                  have := hE3.out.take lens.length
                  unfold lentW at this
                  rwa [List.take_left] at this
                have hnl : lens.length ≤ 1048576 := hL3.out.nl
                have hx1 : (0 : Int) ≤ (lens.length : Int) := by omega
                have hx2 : (lens.length : Int) ≤ (c8 : Int) := by omega
                clear ho3 hb3
                have q7 : w3.cell? ⟨ob, 7, none⟩ = some (.int .u32 first) := by simpa using hC3.out.c7
                have q8 : w3.cell? ⟨ob, 8, none⟩ = some (.slice lo lens.length lcap) := by simpa using hC3.out.c8
                go_wp2_with fail
                have h44 := lay44 first lo lens.length lcap lens w3 rfl hnl hL3.out.wf hL3.out.hl
                refine h44.mono ?_
                clear h44 q7 q8
                rintro e w4 ⟨hcase, hb4⟩
                obtain rfl := (hcase.resolve_left (fun h => by have := h.1; have := hLe.out; omega)).2
                clear hcase
                have hC4 := hid (hC3.out.mono hb4)
                have hL4 := hid (hL3.out.mono hb4)
                have hH4 := hid (hH3.out.below hb4)
                have hB4 := hid (hB3.out.trans (hb4.mono hB3.out.size))
                have hs4 := hid (hb4.size)
                have hE4 := hid (hE3.out.mono hb4)
                have hF4 := hid (hF3.out.mono hb4)
                clear hb4
                go_wp2_with fail
                have hS0 : Hid (w4.drew.cell? ⟨ob, 7, none⟩ = some (.int .u32 first) ∧ w4.drew.cell? ⟨ob, 8, none⟩ = some (.slice lo lens.length lcap)) := ⟨by simpa using hC4.out.c7, by simpa using hC4.out.c8⟩
                refine wp_region_held_drew (S := fun W => W.cell? ⟨ob, 7, none⟩ = some (.int .u32 first) ∧ W.cell? ⟨ob, 8, none⟩ = some (.slice lo lens.length lcap)) (by kernel_rfl) hS0.out (fun hHeld => ?_)
                refine wpAnyH_take (i := 0) (v := ?_) (by simp only [List.getElem?_toArray, List.getElem?_cons_succ, List.getElem?_cons_zero]; rfl) (by kernel_rfl) (by kernel_rfl) (by kernel_rfl) (by intro _ _ _ h; exact h) (Or.inl ⟨by rfl, ?_⟩) (by assumption) ?_
                rotate_left
                · intro w' hSw; (try dsimp only at hSw); go_simp; (try with_reducible rfl)
                try simp only [Act.put, List.setIfInBounds_toArray, List.set_cons_zero, List.set_cons_succ]
                refine wpAnyH_take (i := 1) (v := ?_) (by simp only [List.getElem?_toArray, List.getElem?_cons_succ, List.getElem?_cons_zero]; rfl) (by kernel_rfl) (by kernel_rfl) (by kernel_rfl) (by intro _ _ _ h; exact h) (Or.inl ⟨by rfl, ?_⟩) (by assumption) ?_
                rotate_left
                · intro w' hSw; (try dsimp only at hSw); go_simp; (try with_reducible rfl)
                try simp only [Act.put, List.setIfInBounds_toArray, List.set_cons_zero, List.set_cons_succ]
                refine wpAnyH_take (i := 2) (v := ?_) (by simp only [List.getElem?_toArray, List.getElem?_cons_succ, List.getElem?_cons_zero]; rfl) (by kernel_rfl) (by kernel_rfl) (by kernel_rfl) (by intro _ _ _ h; exact h) (Or.inl ⟨by rfl, ?_⟩) (by assumption) ?_
                rotate_left
                · intro w' hSw; (try dsimp only at hSw); go_simp; (try with_reducible rfl)
                try simp only [Act.put, List.setIfInBounds_toArray, List.set_cons_zero, List.set_cons_succ]
                refine wpAnyH_take (i := 3) (v := ?_) (by simp only [List.getElem?_toArray, List.getElem?_cons_succ, List.getElem?_cons_zero]; rfl) (by kernel_rfl) (by kernel_rfl) (by kernel_rfl) (by intro _ _ _ h; exact h) (Or.inl ⟨by rfl, ?_⟩) (by assumption) ?_
                rotate_left
                · intro w' hSw; (try dsimp only at hSw); go_simp; (try with_reducible rfl)
                try simp only [Act.put, List.setIfInBounds_toArray, List.set_cons_zero, List.set_cons_succ]
                refine wpAnyH_take (i := 4) (v := ?_) (by simp only [List.getElem?_toArray, List.getElem?_cons_succ, List.getElem?_cons_zero]; rfl) (by kernel_rfl) (by kernel_rfl) (by kernel_rfl) (by intro _ _ _ h; exact h) (Or.inl ⟨by rfl, ?_⟩) (by assumption) ?_
                rotate_left
                · intro w' hSw; (try dsimp only at hSw); go_simp; (try with_reducible rfl)
                try simp only [Act.put, List.setIfInBounds_toArray, List.set_cons_zero, List.set_cons_succ]
                refine wpAnyH_take (i := 5) (v := ?_) (by simp only [List.getElem?_toArray, List.getElem?_cons_succ, List.getElem?_cons_zero]; rfl) (by kernel_rfl) (by kernel_rfl) (by kernel_rfl) (by intro _ _ _ h; exact h) (Or.inl ⟨by rfl, ?_⟩) (by assumption) ?_
                rotate_left
                · intro w' hSw; (try dsimp only at hSw); go_simp; (try with_reducible rfl)
                try simp only [Act.put, List.setIfInBounds_toArray, List.set_cons_zero, List.set_cons_succ]
                refine wpAnyH_take (i := 6) (v := ?_) (by simp only [List.getElem?_toArray, List.getElem?_cons_succ, List.getElem?_cons_zero]; rfl) (by kernel_rfl) (by kernel_rfl) (by kernel_rfl) (by intro _ _ _ h; exact h) (Or.inl ⟨by rfl, ?_⟩) (by assumption) ?_
                rotate_left
                · intro w' hSw; (try dsimp only at hSw); go_simp; (try with_reducible rfl)
                try simp only [Act.put, List.setIfInBounds_toArray, List.set_cons_zero, List.set_cons_succ]
                refine wpAnyH_ready (rs := [7]) (by kernel_rfl) (by simp) ?_
                refine AllReadyH.cons (by simp only [List.getElem?_toArray, List.getElem?_cons_succ, List.getElem?_cons_zero]; rfl) (fun K hK => ?_) AllReadyH.nil
                go_simp
                go_at_call 31
                have h99 := lay31 first (some ⟨g, 0, none⟩) lens.length c8 lens w4.drew rfl hnl hL4.out.wf (hF4.out.mono ((Below.refl _ _).drew))
                refine h99.mono ?_
                clear h99
                rintro e w5 ⟨hcase, hb5'⟩
                have hb5 : Below w4.heap.size w4 w5 := ((Below.refl _ w4).drew).trans hb5'
                clear hb5'
                obtain rfl := (hcase.resolve_left (fun h => by have := h.1; have := hLe.out; omega)).2
                clear hcase
                have hC5 := hid (hC4.out.mono hb5)
                have hL5 := hid (hL4.out.mono hb5)
                have hH5 := hid (hH4.out.below hb5)
                have hB5 := hid (hB4.out.trans (hb5.mono hB4.out.size))
                have hs5 := hid (hb5.size)
                have hE5 := hid (hE4.out.mono hb5)
                have hF5 := hid (hF4.out.mono hb5)
                have hk : w5.cell? ⟨ob, 7, none⟩ = some (.int .u32 first) ∧ w5.cell? ⟨ob, 8, none⟩ = some (.slice lo lens.length lcap) := ⟨by simpa using hC5.out.c7, by simpa using hC5.out.c8⟩
                clear hb5
                clear hHeld hS0
                go_wp2_with fail
                refine hK.out _ _ hk (fun hHeld => ?_)
                clear hK K hk
                try simp only [Act.put, List.setIfInBounds_toArray, List.set_cons_zero, List.set_cons_succ]
                refine wpAnyH_take (i := 8) (v := ?_) (by simp only [List.getElem?_toArray, List.getElem?_cons_succ, List.getElem?_cons_zero]; rfl) (by kernel_rfl) (by kernel_rfl) (by kernel_rfl) (by intro _ _ _ h; exact h) (Or.inl ⟨by rfl, ?_⟩) (by assumption) ?_
                rotate_left
                · intro w' hSw; (try dsimp only at hSw); go_simp; (try with_reducible rfl)
                try simp only [Act.put, List.setIfInBounds_toArray, List.set_cons_zero, List.set_cons_succ]
                refine wpAnyH_take (i := 9) (v := ?_) (by simp only [List.getElem?_toArray, List.getElem?_cons_succ, List.getElem?_cons_zero]; rfl) (by kernel_rfl) (by kernel_rfl) (by kernel_rfl) (by intro _ _ _ h; exact h) (Or.inl ⟨by rfl, ?_⟩) (by assumption) ?_
                rotate_left
                · intro w' hSw; (try dsimp only at hSw); go_simp; (try with_reducible rfl)
                try simp only [Act.put, List.setIfInBounds_toArray, List.set_cons_zero, List.set_cons_succ]
                refine wpAnyH_take (i := 10) (v := ?_) (by simp only [List.getElem?_toArray, List.getElem?_cons_succ, List.getElem?_cons_zero]; rfl) (by kernel_rfl) (by kernel_rfl) (by kernel_rfl) (by intro _ _ _ h; exact h) (Or.inl ⟨by rfl, ?_⟩) (by assumption) ?_
                rotate_left
                · intro w' hSw; (try dsimp only at hSw); go_simp; (try with_reducible rfl)
                try simp only [Act.put, List.setIfInBounds_toArray, List.set_cons_zero, List.set_cons_succ]
                refine wpAnyH_take (i := 11) (v := ?_) (by simp only [List.getElem?_toArray, List.getElem?_cons_succ, List.getElem?_cons_zero]; rfl) (by kernel_rfl) (by kernel_rfl) (by kernel_rfl) (by intro _ _ _ h; exact h) (Or.inl ⟨by rfl, ?_⟩) (by assumption) ?_
                rotate_left
                · intro w' hSw; (try dsimp only at hSw); go_simp; (try with_reducible rfl)
                try simp only [Act.put, List.setIfInBounds_toArray, List.set_cons_zero, List.set_cons_succ]
                refine wpAnyH_take (i := 12) (v := ?_) (by simp only [List.getElem?_toArray, List.getElem?_cons_succ, List.getElem?_cons_zero]; rfl) (by kernel_rfl) (by kernel_rfl) (by kernel_rfl) (by intro _ _ _ h; exact h) (Or.inl ⟨by rfl, ?_⟩) (by assumption) ?_
                rotate_left
                · intro w' hSw; (try dsimp only at hSw); go_simp; (try with_reducible rfl)
                try simp only [Act.put, List.setIfInBounds_toArray, List.set_cons_zero, List.set_cons_succ]
                refine wpAnyH_done (by kernel_rfl) ?_ _
                clear hHeld
                go_wp2_with fail
                have hS0 : Hid (w5.drew.cell? ⟨ob, 7, none⟩ = some (.int .u32 first) ∧ w5.drew.cell? ⟨ob, 8, none⟩ = some (.slice lo lens.length lcap)) := ⟨by simpa using hC5.out.c7, by simpa using hC5.out.c8⟩
                refine wp_region_held_drew (S := fun W => W.cell? ⟨ob, 7, none⟩ = some (.int .u32 first) ∧ W.cell? ⟨ob, 8, none⟩ = some (.slice lo lens.length lcap)) (by kernel_rfl) hS0.out (fun hHeld => ?_)
                refine wpAnyH_take (i := 0) (v := ?_) (by simp only [List.getElem?_toArray, List.getElem?_cons_succ, List.getElem?_cons_zero]; rfl) (by kernel_rfl) (by kernel_rfl) (by kernel_rfl) (by intro _ _ _ h; exact h) (Or.inl ⟨by rfl, ?_⟩) (by assumption) ?_
                rotate_left
                · intro w' hSw; (try dsimp only at hSw); go_simp; (try with_reducible rfl)
                try simp only [Act.put, List.setIfInBounds_toArray, List.set_cons_zero, List.set_cons_succ]
                refine wpAnyH_take (i := 1) (v := ?_) (by simp only [List.getElem?_toArray, List.getElem?_cons_succ, List.getElem?_cons_zero]; rfl) (by kernel_rfl) (by kernel_rfl) (by kernel_rfl) (by intro _ _ _ h; exact h) (Or.inl ⟨by rfl, ?_⟩) (by assumption) ?_
                rotate_left
                · intro w' hSw; (try dsimp only at hSw); go_simp; (try with_reducible rfl)
                try simp only [Act.put, List.setIfInBounds_toArray, List.set_cons_zero, List.set_cons_succ]
                refine wpAnyH_take (i := 2) (v := ?_) (by simp only [List.getElem?_toArray, List.getElem?_cons_succ, List.getElem?_cons_zero]; rfl) (by kernel_rfl) (by kernel_rfl) (by kernel_rfl) (by intro _ _ _ h; exact h) (Or.inl ⟨by rfl, ?_⟩) (by assumption) ?_
                rotate_left
                · intro w' hSw; (try dsimp only at hSw); go_simp; (try with_reducible rfl)
                try simp only [Act.put, List.setIfInBounds_toArray, List.set_cons_zero, List.set_cons_succ]
                refine wpAnyH_take (i := 3) (v := ?_) (by simp only [List.getElem?_toArray, List.getElem?_cons_succ, List.getElem?_cons_zero]; rfl) (by kernel_rfl) (by kernel_rfl) (by kernel_rfl) (by intro _ _ _ h; exact h) (Or.inl ⟨by rfl, ?_⟩) (by assumption) ?_
                rotate_left
                · intro w' hSw; (try dsimp only at hSw); go_simp; (try with_reducible rfl)
                try simp only [Act.put, List.setIfInBounds_toArray, List.set_cons_zero, List.set_cons_succ]
                refine wpAnyH_take (i := 4) (v := ?_) (by simp only [List.getElem?_toArray, List.getElem?_cons_succ, List.getElem?_cons_zero]; rfl) (by kernel_rfl) (by kernel_rfl) (by kernel_rfl) (by intro _ _ _ h; exact h) (Or.inl ⟨by rfl, ?_⟩) (by assumption) ?_
                rotate_left
                · intro w' hSw; (try dsimp only at hSw); go_simp; (try with_reducible rfl)
                try simp only [Act.put, List.setIfInBounds_toArray, List.set_cons_zero, List.set_cons_succ]
                refine wpAnyH_take (i := 5) (v := ?_) (by simp only [List.getElem?_toArray, List.getElem?_cons_succ, List.getElem?_cons_zero]; rfl) (by kernel_rfl) (by kernel_rfl) (by kernel_rfl) (by intro _ _ _ h; exact h) (Or.inl ⟨by rfl, ?_⟩) (by assumption) ?_
                rotate_left
                · intro w' hSw; (try dsimp only at hSw); go_simp; (try with_reducible rfl)
                try simp only [Act.put, List.setIfInBounds_toArray, List.set_cons_zero, List.set_cons_succ]
                refine wpAnyH_take (i := 6) (v := ?_) (by simp only [List.getElem?_toArray, List.getElem?_cons_succ, List.getElem?_cons_zero]; rfl) (by kernel_rfl) (by kernel_rfl) (by kernel_rfl) (by intro _ _ _ h; exact h) (Or.inl ⟨by rfl, ?_⟩) (by assumption) ?_
                rotate_left
                · intro w' hSw; (try dsimp only at hSw); go_simp; (try with_reducible rfl)
                try simp only [Act.put, List.setIfInBounds_toArray, List.set_cons_zero, List.set_cons_succ]
                refine wpAnyH_ready (rs := [7]) (by kernel_rfl) (by simp) ?_
                refine AllReadyH.cons (by simp only [List.getElem?_toArray, List.getElem?_cons_succ, List.getElem?_cons_zero]; rfl) (fun K hK => ?_) AllReadyH.nil
                go_simp
                go_at_call 31
                have h99 := lay31 first (some ⟨g, 0, none⟩) lens.length c8 lens w5.drew rfl hnl hL5.out.wf (hF5.out.mono ((Below.refl _ _).drew))
                refine h99.mono ?_
                clear h99
                rintro e w6 ⟨hcase, hb6'⟩
                have hb6 : Below w5.heap.size w5 w6 := ((Below.refl _ w5).drew).trans hb6'
                clear hb6'
                obtain rfl := (hcase.resolve_left (fun h => by have := h.1; have := hLe.out; omega)).2
                clear hcase
                have hC6 := hid (hC5.out.mono hb6)
                have hL6 := hid (hL5.out.mono hb6)
                have hH6 := hid (hH5.out.below hb6)
                have hB6 := hid (hB5.out.trans (hb6.mono hB5.out.size))
                have hs6 := hid (hb6.size)
                have hE6 := hid (hE5.out.mono hb6)
                have hF6 := hid (hF5.out.mono hb6)
                have hk : w6.cell? ⟨ob, 7, none⟩ = some (.int .u32 first) ∧ w6.cell? ⟨ob, 8, none⟩ = some (.slice lo lens.length lcap) := ⟨by simpa using hC6.out.c7, by simpa using hC6.out.c8⟩
                clear hb6
                clear hHeld hS0
                go_wp2_with fail
                refine hK.out _ _ hk (fun hHeld => ?_)
                clear hK K hk
                try simp only [Act.put, List.setIfInBounds_toArray, List.set_cons_zero, List.set_cons_succ]
                refine wpAnyH_take (i := 8) (v := ?_) (by simp only [List.getElem?_toArray, List.getElem?_cons_succ, List.getElem?_cons_zero]; rfl) (by kernel_rfl) (by kernel_rfl) (by kernel_rfl) (by intro _ _ _ h; exact h) (Or.inl ⟨by rfl, ?_⟩) (by assumption) ?_
                rotate_left
                · intro w' hSw; (try dsimp only at hSw); go_simp; (try with_reducible rfl)
                try simp only [Act.put, List.setIfInBounds_toArray, List.set_cons_zero, List.set_cons_succ]
                refine wpAnyH_take (i := 9) (v := ?_) (by simp only [List.getElem?_toArray, List.getElem?_cons_succ, List.getElem?_cons_zero]; rfl) (by kernel_rfl) (by kernel_rfl) (by kernel_rfl) (by intro _ _ _ h; exact h) (Or.inl ⟨by rfl, ?_⟩) (by assumption) ?_
                rotate_left
                · intro w' hSw; (try dsimp only at hSw); go_simp; (try with_reducible rfl)
                try simp only [Act.put, List.setIfInBounds_toArray, List.set_cons_zero, List.set_cons_succ]
                refine wpAnyH_take (i := 10) (v := ?_) (by simp only [List.getElem?_toArray, List.getElem?_cons_succ, List.getElem?_cons_zero]; rfl) (by kernel_rfl) (by kernel_rfl) (by kernel_rfl) (by intro _ _ _ h; exact h) (Or.inl ⟨by rfl, ?_⟩) (by assumption) ?_
                rotate_left
                · intro w' hSw; (try dsimp only at hSw); go_simp; (try with_reducible rfl)
                try simp only [Act.put, List.setIfInBounds_toArray, List.set_cons_zero, List.set_cons_succ]
                refine wpAnyH_take (i := 11) (v := ?_) (by simp only [List.getElem?_toArray, List.getElem?_cons_succ, List.getElem?_cons_zero]; rfl) (by kernel_rfl) (by kernel_rfl) (by kernel_rfl) (by intro _ _ _ h; exact h) (Or.inl ⟨by rfl, ?_⟩) (by assumption) ?_
                rotate_left
                · intro w' hSw; (try dsimp only at hSw); go_simp; (try with_reducible rfl)
                try simp only [Act.put, List.setIfInBounds_toArray, List.set_cons_zero, List.set_cons_succ]
                refine wpAnyH_take (i := 12) (v := ?_) (by simp only [List.getElem?_toArray, List.getElem?_cons_succ, List.getElem?_cons_zero]; rfl) (by kernel_rfl) (by kernel_rfl) (by kernel_rfl) (by intro _ _ _ h; exact h) (Or.inl ⟨by rfl, ?_⟩) (by assumption) ?_
                rotate_left
                · intro w' hSw; (try dsimp only at hSw); go_simp; (try with_reducible rfl)
                try simp only [Act.put, List.setIfInBounds_toArray, List.set_cons_zero, List.set_cons_succ]
                refine wpAnyH_done (by kernel_rfl) ?_ _
                clear hHeld
                have q8 : w6.cell? ⟨ob, 8, none⟩ = some (.slice lo lens.length lcap) := by simpa using hC6.out.c8
                go_wp2_with fail
                have h45 := kept45 (some ⟨g, 0, none⟩) (lens.length + 64) c8 lo lens.length lcap lens w6 (by rw [lentW_len]) rfl (by omega) hE6.out hL6.out.hl
                refine h45.mono ?_
                clear h45
                rintro e w7 ⟨rfl, q, rfl⟩
                have hb7 := below_drewN' (Below.refl w6.heap.size w6) q
                have hH7 := hid (hH6.out.below hb7)
                have hB7 := hid (hB6.out.trans (hb7.mono hB6.out.size))
                clear hb7 q8
                go_wp2_with (first | (at_builtin; refine wpList_append_str rfl _ _ 74 rfl w.heap.size 53 53 (.slice none 0 0) 1 24 2 Try.underlying74 (by kernel_rfl) rfl (by decide) _ (S.flatMap Trip.got).length _ [_, _] (0, 0) hH7.out.ownK rfl (by simp [Value.oneCell']) (by rw [got_len]; have := hSl.out; unfold maxLen; omega) (by rw [got_len]; have := hSl.out; omega) hB7.out.size rfl rfl ?_; intro va' wg hA1; have hA1' := hid hA1; have hsg := hid (Nat.le_trans hB7.out.size hA1.grown.size); have hWo := hid (hH7.out.onW hA1); clear hA1) | (at_builtin; go_must (refine wpList_append_str rfl _ _ 74 rfl w.heap.size 53 53 (.slice none 0 0) 1 24 2 Try.underlying74 (by kernel_rfl) rfl (by decide) _ (S.flatMap Trip.want).length _ [_, _] (0, 0) hWo.out rfl (by simp [Value.oneCell']) (by rw [want_len]; have := hSl.out; unfold maxLen; omega) (by rw [want_len]; have := hSl.out; omega) hsg.out rfl rfl ?_); intro vb' ww hA2))
                have hH9 := hid (hH3.out.pushS hH7.out ⟨⟨.slice none 0 0, 59, 2, 0, []⟩, ⟨.slice none 0 0, 59, 2, 0, []⟩, ⟨.slice none 0 0, 59, 2, 0, []⟩, []⟩ ⟨⟨rfl, rfl, rfl, by decide, rfl⟩, ⟨rfl, rfl, rfl, by decide, rfl⟩, ⟨rfl, rfl, rfl, by decide, rfl⟩⟩ hB3.out.size (World.ownsRow_nil _ _ 59 2) (World.ownsRow_nil _ _ 59 2) (World.ownsRow_nil _ _ 59 2) (.inl rfl) (.inl rfl) (.inl rfl) hA1'.out hA2)
                have hB9 := hid ((hB7.out.grown hA1'.out.grown hB7.out.size (fun q hq => (hH7.out.ownK.lt q hq).1)).grown hA2.grown hsg.out (fun q hq => (hWo.out.lt q hq).1))
                have hSl' : Hid ((S ++ ([⟨⟨.slice none 0 0, 59, 2, 0, []⟩, ⟨.slice none 0 0, 59, 2, 0, []⟩, ⟨.slice none 0 0, 59, 2, 0, []⟩, []⟩] : List Trip)).length ≤ k + 1) := by have := hSl.out; show (S ++ ([⟨⟨.slice none 0 0, 59, 2, 0, []⟩, ⟨.slice none 0 0, 59, 2, 0, []⟩, ⟨.slice none 0 0, 59, 2, 0, []⟩, []⟩] : List Trip)).length ≤ k + 1; rw [List.length_append, List.length_singleton]; omega
                have hS' : Hid (S ++ ([⟨⟨.slice none 0 0, 59, 2, 0, []⟩, ⟨.slice none 0 0, 59, 2, 0, []⟩, ⟨.slice none 0 0, 59, 2, 0, []⟩, []⟩] : List Trip) = [] → va' = .slice none 0 0) := fun h => absurd h (by simp)
                clear hA1' hA2 hWo hsg
                go_roundw
                case rel => exact ⟨_, T, k + 1, _, _, _, _, rfl, rfl, rfl, rfl, by go_num, by omega, hSl'.out, Nat.le_succ_of_le hTl.out, hS'.out, hT.out, hH9.out, hB9.out⟩
                case measure => simp [intOf]; omega
            · have hk3 : (call == 3) = false := beq_eq_false_iff_ne.2 h3
              clear h3
              by_cases hle : a + al ≤ (bytes.length : Int)
              · skip
                have hLe := hid hle
                clear hle
                go_wp2_with fail
                rw [← hwa, ← hob]
                clear hwa hob g0 g1 g2 g3 g4 g5 g6 g7 g8 g9
                have h18 := lent_any bo bytes.length bcap bytes wa rfl (by have := hLa.out.nb; dsimp only at this; omega) hLa.out.hb
                refine h18.mono ?_
                clear h18
                rintro e w3 ⟨v3, rfl, ho3, hb3⟩
                obtain ⟨g, c8, hv3, -, -, hnc, -⟩ := own_shape ho3 (by omega)
                subst hv3
                have hC3 := hid (hCa.out.mono hb3)
                have hL3 := hid (hLa.out.mono hb3)
                have hH3 : Hid (Both w3 w.heap.size vk vw S vc vp T [⟨.slice (some ⟨g, 0, none⟩) (bytes.length + 64) c8, 5, 1, bytes.length + 64, (lentL bytes).map (Value.int .u8)⟩]) := hHa.out.lent hb3 _ ho3 hBa.out.size
                have hB3 := hid (hBa.out.trans (hb3.mono hBa.out.size))
                have hs3 := hid (hb3.size)
                have hE3 : Hid (Ints .u8 w3 (some ⟨g, 0, none⟩) (lentL bytes)) := by
                  obtain ⟨ao', c', hv, hI, -⟩ := ints_of_own ho3 (fun x hx => by
                    rcases List.mem_append.1 hx with h1 | h1
                    · exact hL3.out.hb.wf x h1
                    · obtain ⟨i, _, rfl⟩ := List.mem_map.1 h1
                      exact wf_u8.2 (markB_bd _ _))
                  simp only [Value.slice.injEq] at hv
                  obtain ⟨rfl, -, -⟩ := hv
                  exact hI
                have hF3 : Hid (Ints .u8 w3 (some ⟨g, 0, none⟩) bytes) := by
                  have := hE3.out.take bytes.length
                  unfold lentL at this
                  rwa [List.take_left] at this
                have hnl : bytes.length ≤ 1048576 := hL3.out.nb
                have hx1 : (0 : Int) ≤ (bytes.length : Int) := by omega
                have hx2 : (bytes.length : Int) ≤ (c8 : Int) := by omega
                have hwa := hid hL3.out.wa
                have hwal := hid hL3.out.wal
                dsimp only at hwa hwal
                clear ho3 hb3
                have q1 : w3.cell? ⟨ob, 1, none⟩ = some (.int .u32 a) := by simpa using hC3.out.c1
                have q2 : w3.cell? ⟨ob, 2, none⟩ = some (.int .u32 al) := by simpa using hC3.out.c2
                have q9 : w3.cell? ⟨ob, 9, none⟩ = some (.slice bo bytes.length bcap) := by simpa using hC3.out.c9
                go_wp2_with fail
                obtain ⟨na, hna⟩ : ∃ na : Nat, a = na := ⟨a.toNat, by have := hwa.out; omega⟩
                obtain ⟨nq, hnq⟩ : ∃ nq : Nat, al = nq := ⟨al.toNat, by have := hwal.out; omega⟩
                have hle2 : na + nq ≤ bytes.length := by have := hLe.out; omega
                have hNa := hid hna
                have hNq := hid hnq
                clear hna hnq
                have h46 := cut46 bo bytes.length bcap bytes na nq w3 rfl (by omega) hL3.out.hb hle2
                have h47 := hid (fun (W : World) (h : Ints .u8 W (some ⟨g, 0, none⟩) bytes) => cut47 g c8 bytes na nq W (by omega) (by omega) h hle2)
                rw [← hNa.out, ← hNq.out] at h46 h47
                have hPl := hid (show nq = ((bytes.drop na).take nq).length from by rw [List.length_take, List.length_drop]; omega)
                have hPb : Hid (Byt ((bytes.drop na).take nq)) := fun x hx => byt_of_ints hL3.out.hb x (List.mem_of_mem_drop (List.mem_of_mem_take hx))
                obtain ⟨P, hP⟩ : ∃ P, P = (bytes.drop na).take nq := ⟨_, rfl⟩
                rw [← hP] at h46 h47 hPl hPb
                have hnqb : nq ≤ 100000000 := by omega
                clear hP hNa hNq hle2
                refine h46.mono ?_
                clear h46 q1 q2 q9
                rintro e w4 ⟨v4, rfl, ho4, hb4⟩
                have hO4 := hid ho4
                clear ho4
                have hC4 := hid (hC3.out.mono hb4)
                have hL4 := hid (hL3.out.mono hb4)
                have hH4 := hid (hH3.out.below hb4)
                have hB4 := hid (hB3.out.trans (hb4.mono hB3.out.size))
                have hs4 := hid (hb4.size)
                have hE4 := hid (hE3.out.mono hb4)
                have hF4 := hid (hF3.out.mono hb4)
                clear hb4
                go_wp2_with fail
                have hS0 : Hid (w4.drew.cell? ⟨ob, 1, none⟩ = some (.int .u32 a) ∧ w4.drew.cell? ⟨ob, 2, none⟩ = some (.int .u32 al) ∧ w4.drew.cell? ⟨ob, 9, none⟩ = some (.slice bo bytes.length bcap)) := ⟨by simpa using hC4.out.c1, by simpa using hC4.out.c2, by simpa using hC4.out.c9⟩
                refine wp_region_held_drew (S := fun W => W.cell? ⟨ob, 1, none⟩ = some (.int .u32 a) ∧ W.cell? ⟨ob, 2, none⟩ = some (.int .u32 al) ∧ W.cell? ⟨ob, 9, none⟩ = some (.slice bo bytes.length bcap)) (by kernel_rfl) hS0.out (fun hHeld => ?_)
                refine wpAnyH_take (i := 0) (v := ?_) (by simp only [List.getElem?_toArray, List.getElem?_cons_succ, List.getElem?_cons_zero]; rfl) (by kernel_rfl) (by kernel_rfl) (by kernel_rfl) (by intro _ _ _ h; exact h) (Or.inl ⟨by rfl, ?_⟩) (by assumption) ?_
                rotate_left
                · intro w' hSw; (try dsimp only at hSw); go_simp; (try with_reducible rfl)
                try simp only [Act.put, List.setIfInBounds_toArray, List.set_cons_zero, List.set_cons_succ]
                refine wpAnyH_take (i := 1) (v := ?_) (by simp only [List.getElem?_toArray, List.getElem?_cons_succ, List.getElem?_cons_zero]; rfl) (by kernel_rfl) (by kernel_rfl) (by kernel_rfl) (by intro _ _ _ h; exact h) (Or.inl ⟨by rfl, ?_⟩) (by assumption) ?_
                rotate_left
                · intro w' hSw; (try dsimp only at hSw); go_simp; (try with_reducible rfl)
                try simp only [Act.put, List.setIfInBounds_toArray, List.set_cons_zero, List.set_cons_succ]
                refine wpAnyH_take (i := 2) (v := ?_) (by simp only [List.getElem?_toArray, List.getElem?_cons_succ, List.getElem?_cons_zero]; rfl) (by kernel_rfl) (by kernel_rfl) (by kernel_rfl) (by intro _ _ _ h; exact h) (Or.inl ⟨by rfl, ?_⟩) (by assumption) ?_
                rotate_left
                · intro w' hSw; (try dsimp only at hSw); go_simp; (try with_reducible rfl)
                try simp only [Act.put, List.setIfInBounds_toArray, List.set_cons_zero, List.set_cons_succ]
                refine wpAnyH_take (i := 3) (v := ?_) (by simp only [List.getElem?_toArray, List.getElem?_cons_succ, List.getElem?_cons_zero]; rfl) (by kernel_rfl) (by kernel_rfl) (by kernel_rfl) (by intro _ _ _ h; exact h) (Or.inl ⟨by rfl, ?_⟩) (by assumption) ?_
                rotate_left
                · intro w' hSw; (try dsimp only at hSw); go_simp; (try with_reducible rfl)
                try simp only [Act.put, List.setIfInBounds_toArray, List.set_cons_zero, List.set_cons_succ]
                refine wpAnyH_take (i := 4) (v := ?_) (by simp only [List.getElem?_toArray, List.getElem?_cons_succ, List.getElem?_cons_zero]; rfl) (by kernel_rfl) (by kernel_rfl) (by kernel_rfl) (by intro _ _ _ h; exact h) (Or.inl ⟨by rfl, ?_⟩) (by assumption) ?_
                rotate_left
                · intro w' hSw; (try dsimp only at hSw); go_simp; (try with_reducible rfl)
                try simp only [Act.put, List.setIfInBounds_toArray, List.set_cons_zero, List.set_cons_succ]
                refine wpAnyH_take (i := 5) (v := ?_) (by simp only [List.getElem?_toArray, List.getElem?_cons_succ, List.getElem?_cons_zero]; rfl) (by kernel_rfl) (by kernel_rfl) (by kernel_rfl) (by intro _ _ _ h; exact h) (Or.inl ⟨by rfl, ?_⟩) (by assumption) ?_
                rotate_left
                · intro w' hSw; (try dsimp only at hSw); go_simp; (try with_reducible rfl)
                try simp only [Act.put, List.setIfInBounds_toArray, List.set_cons_zero, List.set_cons_succ]
                refine wpAnyH_take (i := 6) (v := ?_) (by simp only [List.getElem?_toArray, List.getElem?_cons_succ, List.getElem?_cons_zero]; rfl) (by kernel_rfl) (by kernel_rfl) (by kernel_rfl) (by intro _ _ _ h; exact h) (Or.inl ⟨by rfl, ?_⟩) (by assumption) ?_
                rotate_left
                · intro w' hSw; (try dsimp only at hSw); go_simp; (try with_reducible rfl)
                try simp only [Act.put, List.setIfInBounds_toArray, List.set_cons_zero, List.set_cons_succ]
                refine wpAnyH_ready (rs := [7]) (by kernel_rfl) (by simp) ?_
                refine AllReadyH.cons (by simp only [List.getElem?_toArray, List.getElem?_cons_succ, List.getElem?_cons_zero]; rfl) (fun K hK => ?_) AllReadyH.nil
                go_simp
                go_at_call 47
                have h99 := h47.out w4.drew (hF4.out.mono ((Below.refl _ _).drew))
                refine h99.mono ?_
                clear h99
                rintro e w5 ⟨v5, rfl, ho5, hg5⟩
                have hO5 := hid ho5
                clear ho5
                have hb5 : Below w4.heap.size w4 w5 := ((Below.refl _ w4).drew).trans (grown_below hg5)
                clear hg5
                have hC5 := hid (hC4.out.mono hb5)
                have hL5 := hid (hL4.out.mono hb5)
                have hH5 := hid (hH4.out.below hb5)
                have hB5 := hid (hB4.out.trans (hb5.mono hB4.out.size))
                have hs5 := hid (hb5.size)
                have hE5 := hid (hE4.out.mono hb5)
                have hF5 := hid (hF4.out.mono hb5)
                have hO45 := hid (own_mono hO4.out hb5 (Nat.le_refl _))
                have a13 := hid (own_apart hO4.out hO5.out (Nat.le_refl _))
                have hk : w5.cell? ⟨ob, 1, none⟩ = some (.int .u32 a) ∧ w5.cell? ⟨ob, 2, none⟩ = some (.int .u32 al) ∧ w5.cell? ⟨ob, 9, none⟩ = some (.slice bo bytes.length bcap) := ⟨by simpa using hC5.out.c1, by simpa using hC5.out.c2, by simpa using hC5.out.c9⟩
                clear hb5
                clear hHeld hS0
                go_wp2_with fail
                refine hK.out _ _ hk (fun hHeld => ?_)
                clear hK K hk
                try simp only [Act.put, List.setIfInBounds_toArray, List.set_cons_zero, List.set_cons_succ]
                refine wpAnyH_take (i := 8) (v := ?_) (by simp only [List.getElem?_toArray, List.getElem?_cons_succ, List.getElem?_cons_zero]; rfl) (by kernel_rfl) (by kernel_rfl) (by kernel_rfl) (by intro _ _ _ h; exact h) (Or.inl ⟨by rfl, ?_⟩) (by assumption) ?_
                rotate_left
                · intro w' hSw; (try dsimp only at hSw); go_simp; (try with_reducible rfl)
                try simp only [Act.put, List.setIfInBounds_toArray, List.set_cons_zero, List.set_cons_succ]
                refine wpAnyH_take (i := 9) (v := ?_) (by simp only [List.getElem?_toArray, List.getElem?_cons_succ, List.getElem?_cons_zero]; rfl) (by kernel_rfl) (by kernel_rfl) (by kernel_rfl) (by intro _ _ _ h; exact h) (Or.inl ⟨by rfl, ?_⟩) (by assumption) ?_
                rotate_left
                · intro w' hSw; (try dsimp only at hSw); go_simp; (try with_reducible rfl)
                try simp only [Act.put, List.setIfInBounds_toArray, List.set_cons_zero, List.set_cons_succ]
                refine wpAnyH_take (i := 10) (v := ?_) (by simp only [List.getElem?_toArray, List.getElem?_cons_succ, List.getElem?_cons_zero]; rfl) (by kernel_rfl) (by kernel_rfl) (by kernel_rfl) (by intro _ _ _ h; exact h) (Or.inl ⟨by rfl, ?_⟩) (by assumption) ?_
                rotate_left
                · intro w' hSw; (try dsimp only at hSw); go_simp; (try with_reducible rfl)
                try simp only [Act.put, List.setIfInBounds_toArray, List.set_cons_zero, List.set_cons_succ]
                refine wpAnyH_take (i := 11) (v := ?_) (by simp only [List.getElem?_toArray, List.getElem?_cons_succ, List.getElem?_cons_zero]; rfl) (by kernel_rfl) (by kernel_rfl) (by kernel_rfl) (by intro _ _ _ h; exact h) (Or.inl ⟨by rfl, ?_⟩) (by assumption) ?_
                rotate_left
                · intro w' hSw; (try dsimp only at hSw); go_simp; (try with_reducible rfl)
                try simp only [Act.put, List.setIfInBounds_toArray, List.set_cons_zero, List.set_cons_succ]
                refine wpAnyH_take (i := 12) (v := ?_) (by simp only [List.getElem?_toArray, List.getElem?_cons_succ, List.getElem?_cons_zero]; rfl) (by kernel_rfl) (by kernel_rfl) (by kernel_rfl) (by intro _ _ _ h; exact h) (Or.inl ⟨by rfl, ?_⟩) (by assumption) ?_
                rotate_left
                · intro w' hSw; (try dsimp only at hSw); go_simp; (try with_reducible rfl)
                try simp only [Act.put, List.setIfInBounds_toArray, List.set_cons_zero, List.set_cons_succ]
                refine wpAnyH_done (by kernel_rfl) ?_ _
                clear hHeld
                go_wp2_with fail
                have hS0 : Hid (w5.drew.cell? ⟨ob, 1, none⟩ = some (.int .u32 a) ∧ w5.drew.cell? ⟨ob, 2, none⟩ = some (.int .u32 al) ∧ w5.drew.cell? ⟨ob, 9, none⟩ = some (.slice bo bytes.length bcap)) := ⟨by simpa using hC5.out.c1, by simpa using hC5.out.c2, by simpa using hC5.out.c9⟩
                refine wp_region_held_drew (S := fun W => W.cell? ⟨ob, 1, none⟩ = some (.int .u32 a) ∧ W.cell? ⟨ob, 2, none⟩ = some (.int .u32 al) ∧ W.cell? ⟨ob, 9, none⟩ = some (.slice bo bytes.length bcap)) (by kernel_rfl) hS0.out (fun hHeld => ?_)
                refine wpAnyH_take (i := 0) (v := ?_) (by simp only [List.getElem?_toArray, List.getElem?_cons_succ, List.getElem?_cons_zero]; rfl) (by kernel_rfl) (by kernel_rfl) (by kernel_rfl) (by intro _ _ _ h; exact h) (Or.inl ⟨by rfl, ?_⟩) (by assumption) ?_
                rotate_left
                · intro w' hSw; (try dsimp only at hSw); go_simp; (try with_reducible rfl)
                try simp only [Act.put, List.setIfInBounds_toArray, List.set_cons_zero, List.set_cons_succ]
                refine wpAnyH_take (i := 1) (v := ?_) (by simp only [List.getElem?_toArray, List.getElem?_cons_succ, List.getElem?_cons_zero]; rfl) (by kernel_rfl) (by kernel_rfl) (by kernel_rfl) (by intro _ _ _ h; exact h) (Or.inl ⟨by rfl, ?_⟩) (by assumption) ?_
                rotate_left
                · intro w' hSw; (try dsimp only at hSw); go_simp; (try with_reducible rfl)
                try simp only [Act.put, List.setIfInBounds_toArray, List.set_cons_zero, List.set_cons_succ]
                refine wpAnyH_take (i := 2) (v := ?_) (by simp only [List.getElem?_toArray, List.getElem?_cons_succ, List.getElem?_cons_zero]; rfl) (by kernel_rfl) (by kernel_rfl) (by kernel_rfl) (by intro _ _ _ h; exact h) (Or.inl ⟨by rfl, ?_⟩) (by assumption) ?_
                rotate_left
                · intro w' hSw; (try dsimp only at hSw); go_simp; (try with_reducible rfl)
                try simp only [Act.put, List.setIfInBounds_toArray, List.set_cons_zero, List.set_cons_succ]
                refine wpAnyH_take (i := 3) (v := ?_) (by simp only [List.getElem?_toArray, List.getElem?_cons_succ, List.getElem?_cons_zero]; rfl) (by kernel_rfl) (by kernel_rfl) (by kernel_rfl) (by intro _ _ _ h; exact h) (Or.inl ⟨by rfl, ?_⟩) (by assumption) ?_
                rotate_left
                · intro w' hSw; (try dsimp only at hSw); go_simp; (try with_reducible rfl)
                try simp only [Act.put, List.setIfInBounds_toArray, List.set_cons_zero, List.set_cons_succ]
                refine wpAnyH_take (i := 4) (v := ?_) (by simp only [List.getElem?_toArray, List.getElem?_cons_succ, List.getElem?_cons_zero]; rfl) (by kernel_rfl) (by kernel_rfl) (by kernel_rfl) (by intro _ _ _ h; exact h) (Or.inl ⟨by rfl, ?_⟩) (by assumption) ?_
                rotate_left
                · intro w' hSw; (try dsimp only at hSw); go_simp; (try with_reducible rfl)
                try simp only [Act.put, List.setIfInBounds_toArray, List.set_cons_zero, List.set_cons_succ]
                refine wpAnyH_take (i := 5) (v := ?_) (by simp only [List.getElem?_toArray, List.getElem?_cons_succ, List.getElem?_cons_zero]; rfl) (by kernel_rfl) (by kernel_rfl) (by kernel_rfl) (by intro _ _ _ h; exact h) (Or.inl ⟨by rfl, ?_⟩) (by assumption) ?_
                rotate_left
                · intro w' hSw; (try dsimp only at hSw); go_simp; (try with_reducible rfl)
                try simp only [Act.put, List.setIfInBounds_toArray, List.set_cons_zero, List.set_cons_succ]
                refine wpAnyH_take (i := 6) (v := ?_) (by simp only [List.getElem?_toArray, List.getElem?_cons_succ, List.getElem?_cons_zero]; rfl) (by kernel_rfl) (by kernel_rfl) (by kernel_rfl) (by intro _ _ _ h; exact h) (Or.inl ⟨by rfl, ?_⟩) (by assumption) ?_
                rotate_left
                · intro w' hSw; (try dsimp only at hSw); go_simp; (try with_reducible rfl)
                try simp only [Act.put, List.setIfInBounds_toArray, List.set_cons_zero, List.set_cons_succ]
                refine wpAnyH_ready (rs := [7]) (by kernel_rfl) (by simp) ?_
                refine AllReadyH.cons (by simp only [List.getElem?_toArray, List.getElem?_cons_succ, List.getElem?_cons_zero]; rfl) (fun K hK => ?_) AllReadyH.nil
                go_simp
                go_at_call 47
                have h99 := h47.out w5.drew (hF5.out.mono ((Below.refl _ _).drew))
                refine h99.mono ?_
                clear h99
                rintro e w6 ⟨v6, rfl, ho6, hg6⟩
                have hO6 := hid ho6
                clear ho6
                have hb6 : Below w5.heap.size w5 w6 := ((Below.refl _ w5).drew).trans (grown_below hg6)
                clear hg6
                have hC6 := hid (hC5.out.mono hb6)
                have hL6 := hid (hL5.out.mono hb6)
                have hH6 := hid (hH5.out.below hb6)
                have hB6 := hid (hB5.out.trans (hb6.mono hB5.out.size))
                have hs6 := hid (hb6.size)
                have hE6 := hid (hE5.out.mono hb6)
                have hF6 := hid (hF5.out.mono hb6)
                have hO46 := hid (own_mono hO45.out hb6 (Nat.le_refl _))
                have hO56 := hid (own_mono hO5.out hb6 (Nat.le_refl _))
                have a12 := hid (own_apart hO5.out hO6.out (Nat.le_refl _))
                have a23 := hid (own_apart hO4.out hO6.out hs5.out)
                have hk : w6.cell? ⟨ob, 1, none⟩ = some (.int .u32 a) ∧ w6.cell? ⟨ob, 2, none⟩ = some (.int .u32 al) ∧ w6.cell? ⟨ob, 9, none⟩ = some (.slice bo bytes.length bcap) := ⟨by simpa using hC6.out.c1, by simpa using hC6.out.c2, by simpa using hC6.out.c9⟩
                clear hb6
                clear hHeld hS0
                go_wp2_with fail
                refine hK.out _ _ hk (fun hHeld => ?_)
                clear hK K hk
                try simp only [Act.put, List.setIfInBounds_toArray, List.set_cons_zero, List.set_cons_succ]
                refine wpAnyH_take (i := 8) (v := ?_) (by simp only [List.getElem?_toArray, List.getElem?_cons_succ, List.getElem?_cons_zero]; rfl) (by kernel_rfl) (by kernel_rfl) (by kernel_rfl) (by intro _ _ _ h; exact h) (Or.inl ⟨by rfl, ?_⟩) (by assumption) ?_
                rotate_left
                · intro w' hSw; (try dsimp only at hSw); go_simp; (try with_reducible rfl)
                try simp only [Act.put, List.setIfInBounds_toArray, List.set_cons_zero, List.set_cons_succ]
                refine wpAnyH_take (i := 9) (v := ?_) (by simp only [List.getElem?_toArray, List.getElem?_cons_succ, List.getElem?_cons_zero]; rfl) (by kernel_rfl) (by kernel_rfl) (by kernel_rfl) (by intro _ _ _ h; exact h) (Or.inl ⟨by rfl, ?_⟩) (by assumption) ?_
                rotate_left
                · intro w' hSw; (try dsimp only at hSw); go_simp; (try with_reducible rfl)
                try simp only [Act.put, List.setIfInBounds_toArray, List.set_cons_zero, List.set_cons_succ]
                refine wpAnyH_take (i := 10) (v := ?_) (by simp only [List.getElem?_toArray, List.getElem?_cons_succ, List.getElem?_cons_zero]; rfl) (by kernel_rfl) (by kernel_rfl) (by kernel_rfl) (by intro _ _ _ h; exact h) (Or.inl ⟨by rfl, ?_⟩) (by assumption) ?_
                rotate_left
                · intro w' hSw; (try dsimp only at hSw); go_simp; (try with_reducible rfl)
                try simp only [Act.put, List.setIfInBounds_toArray, List.set_cons_zero, List.set_cons_succ]
                refine wpAnyH_take (i := 11) (v := ?_) (by simp only [List.getElem?_toArray, List.getElem?_cons_succ, List.getElem?_cons_zero]; rfl) (by kernel_rfl) (by kernel_rfl) (by kernel_rfl) (by intro _ _ _ h; exact h) (Or.inl ⟨by rfl, ?_⟩) (by assumption) ?_
                rotate_left
                · intro w' hSw; (try dsimp only at hSw); go_simp; (try with_reducible rfl)
                try simp only [Act.put, List.setIfInBounds_toArray, List.set_cons_zero, List.set_cons_succ]
                refine wpAnyH_take (i := 12) (v := ?_) (by simp only [List.getElem?_toArray, List.getElem?_cons_succ, List.getElem?_cons_zero]; rfl) (by kernel_rfl) (by kernel_rfl) (by kernel_rfl) (by intro _ _ _ h; exact h) (Or.inl ⟨by rfl, ?_⟩) (by assumption) ?_
                rotate_left
                · intro w' hSw; (try dsimp only at hSw); go_simp; (try with_reducible rfl)
                try simp only [Act.put, List.setIfInBounds_toArray, List.set_cons_zero, List.set_cons_succ]
                refine wpAnyH_done (by kernel_rfl) ?_ _
                clear hHeld
                have q9 : w6.cell? ⟨ob, 9, none⟩ = some (.slice bo bytes.length bcap) := by simpa using hC6.out.c9
                go_wp2_with fail
                have h20 := kept_any (some ⟨g, 0, none⟩) (bytes.length + 64) c8 bo bytes.length bcap bytes w6 (by rw [lentL_len]) rfl (by omega) hE6.out hL6.out.hb
                refine h20.mono ?_
                clear h20
                rintro e w7 ⟨rfl, q, rfl⟩
                have hb7 := below_drewN' (Below.refl w6.heap.size w6) q
                have hH7 := hid (hH6.out.below hb7)
                have hB7 := hid (hB6.out.trans (hb7.mono hB6.out.size))
                have hO47 := hid (own_mono hO46.out hb7 (Nat.le_refl _))
                have hO57 := hid (own_mono hO56.out hb7 (Nat.le_refl _))
                have hO67 := hid (own_mono hO6.out hb7 (Nat.le_refl _))
                clear hb7 q9
                obtain ⟨ao4, cc4, hv4, -⟩ := own_any_shape hO47.out
                obtain ⟨ao5, cc5, hv5, -⟩ := own_any_shape hO57.out
                obtain ⟨ao6, cc6, hv6, -⟩ := own_any_shape hO67.out
                subst hv4 hv5 hv6
                go_wp2_with (first | (at_builtin; refine wpList_append_str rfl _ _ 63 rfl w.heap.size 23 23 (.slice none 0 0) 1 24 2 Try.underlying63 (by kernel_rfl) rfl (by decide) _ (T.flatMap Trip.got).length _ [_, _] (0, 0) hH7.out.ownC rfl (by simp [Value.oneCell']) (by rw [got_len]; have := hTl.out; unfold maxLen; omega) (by rw [got_len]; have := hTl.out; omega) hB7.out.size rfl rfl ?_; intro va' wg hA1; have hA1' := hid hA1; have hsg := hid (Nat.le_trans hB7.out.size hA1.grown.size); have hWo := hid (hH7.out.onP hA1); clear hA1) | (at_builtin; go_must (refine wpList_append_str rfl _ _ 63 rfl w.heap.size 23 23 (.slice none 0 0) 1 24 2 Try.underlying63 (by kernel_rfl) rfl (by decide) _ (T.flatMap Trip.want).length _ [_, _] (0, 0) hWo.out rfl (by simp [Value.oneCell']) (by rw [want_len]; have := hTl.out; unfold maxLen; omega) (by rw [want_len]; have := hTl.out; omega) hsg.out rfl rfl ?_); intro vb' ww hA2))
                have hH9 := hid (hH3.out.pushT hH7.out ⟨⟨.slice ao5 nq cc5, 5, 1, nq, P.map (Value.int .u8)⟩, ⟨.slice ao6 nq cc6, 5, 1, nq, P.map (Value.int .u8)⟩, ⟨.slice ao4 nq cc4, 5, 1, nq, P.map (Value.int .u8)⟩, P⟩ ⟨⟨rfl, rfl, hPl.out, hnqb, rfl⟩, ⟨rfl, rfl, hPl.out, hnqb, rfl⟩, ⟨rfl, rfl, hPl.out, hnqb, rfl⟩, hPb.out⟩ hB3.out.size (own_base hO57.out hs4.out) (own_base hO67.out (Nat.le_trans hs4.out hs5.out)) hO47.out a12.out (RowS.apart_symm (a := ⟨_, 5, 1, 0, []⟩) (b := ⟨_, 5, 1, 0, []⟩) a13.out) (RowS.apart_symm (a := ⟨_, 5, 1, 0, []⟩) (b := ⟨_, 5, 1, 0, []⟩) a23.out) hA1'.out hA2)
                have hB9 := hid ((hB7.out.grown hA1'.out.grown hB7.out.size (fun q hq => (hH7.out.ownC.lt q hq).1)).grown hA2.grown hsg.out (fun q hq => (hWo.out.lt q hq).1))
                have hTl' : Hid ((T ++ ([⟨⟨.slice ao5 nq cc5, 5, 1, nq, P.map (Value.int .u8)⟩, ⟨.slice ao6 nq cc6, 5, 1, nq, P.map (Value.int .u8)⟩, ⟨.slice ao4 nq cc4, 5, 1, nq, P.map (Value.int .u8)⟩, P⟩] : List Trip)).length ≤ k + 1) := by have := hTl.out; show (T ++ ([⟨⟨.slice ao5 nq cc5, 5, 1, nq, P.map (Value.int .u8)⟩, ⟨.slice ao6 nq cc6, 5, 1, nq, P.map (Value.int .u8)⟩, ⟨.slice ao4 nq cc4, 5, 1, nq, P.map (Value.int .u8)⟩, P⟩] : List Trip)).length ≤ k + 1; rw [List.length_append, List.length_singleton]; omega
                have hT' : Hid (T ++ ([⟨⟨.slice ao5 nq cc5, 5, 1, nq, P.map (Value.int .u8)⟩, ⟨.slice ao6 nq cc6, 5, 1, nq, P.map (Value.int .u8)⟩, ⟨.slice ao4 nq cc4, 5, 1, nq, P.map (Value.int .u8)⟩, P⟩] : List Trip) = [] → va' = .slice none 0 0) := fun h => absurd h (by simp)
                clear hA1' hA2 hWo hsg
                have h21 := over_any g (bytes.length + 64) c8 w.heap.size _ ww hH9.out.row (by omega)
                refine h21.mono ?_
                clear h21
                rintro e wo ⟨rfl, -, hgo⟩
                have hHo := hid (hH9.out.over hgo)
                have hBo := hid (hB9.out.grown hgo hB9.out.size (fun q hq => (hH9.out.row.lt q hq).1))
                clear hgo
                go_wp2_with fail
                go_roundw
                case rel => exact ⟨S, _, k + 1, _, _, _, _, rfl, rfl, rfl, rfl, by go_num, by omega, Nat.le_succ_of_le hSl.out, hTl'.out, hS.out, hT'.out, hHo.out, hBo.out⟩
                case measure => simp [intOf]; omega
              · skip
                have hLe := hid hle
                clear hle
                go_wp2_with fail
                rw [← hwa, ← hob]
                clear hwa hob g0 g1 g2 g3 g4 g5 g6 g7 g8 g9
                have h18 := lent_any bo bytes.length bcap bytes wa rfl (by have := hLa.out.nb; dsimp only at this; omega) hLa.out.hb
                refine h18.mono ?_
                clear h18
                rintro e w3 ⟨v3, rfl, ho3, hb3⟩
                obtain ⟨g, c8, hv3, -, -, hnc, -⟩ := own_shape ho3 (by omega)
                subst hv3
                have hC3 := hid (hCa.out.mono hb3)
                have hL3 := hid (hLa.out.mono hb3)
                have hH3 : Hid (Both w3 w.heap.size vk vw S vc vp T [⟨.slice (some ⟨g, 0, none⟩) (bytes.length + 64) c8, 5, 1, bytes.length + 64, (lentL bytes).map (Value.int .u8)⟩]) := hHa.out.lent hb3 _ ho3 hBa.out.size
                have hB3 := hid (hBa.out.trans (hb3.mono hBa.out.size))
                have hs3 := hid (hb3.size)
                have hE3 : Hid (Ints .u8 w3 (some ⟨g, 0, none⟩) (lentL bytes)) := by
                  obtain ⟨ao', c', hv, hI, -⟩ := ints_of_own ho3 (fun x hx => by
                    rcases List.mem_append.1 hx with h1 | h1
                    · exact hL3.out.hb.wf x h1
                    · obtain ⟨i, _, rfl⟩ := List.mem_map.1 h1
                      exact wf_u8.2 (markB_bd _ _))
                  simp only [Value.slice.injEq] at hv
                  obtain ⟨rfl, -, -⟩ := hv
                  exact hI
                have hF3 : Hid (Ints .u8 w3 (some ⟨g, 0, none⟩) bytes) := by
                  have := hE3.out.take bytes.length
                  unfold lentL at this
                  rwa [List.take_left] at this
                have hnl : bytes.length ≤ 1048576 := hL3.out.nb
                have hx1 : (0 : Int) ≤ (bytes.length : Int) := by omega
                have hx2 : (bytes.length : Int) ≤ (c8 : Int) := by omega
                have hwa := hid hL3.out.wa
                have hwal := hid hL3.out.wal
                dsimp only at hwa hwal
                clear ho3 hb3
                have q1 : w3.cell? ⟨ob, 1, none⟩ = some (.int .u32 a) := by simpa using hC3.out.c1
                have q2 : w3.cell? ⟨ob, 2, none⟩ = some (.int .u32 al) := by simpa using hC3.out.c2
                have q9 : w3.cell? ⟨ob, 9, none⟩ = some (.slice bo bytes.length bcap) := by simpa using hC3.out.c9
                go_wp2_with fail
                have h46 := cutNo46 bo bytes.length bcap a al w3 (by omega) hwa.out hwal.out (by have := hLe.out; omega)
                have h47 := hid (fun (W : World) => cutNo47 (some ⟨g, 0, none⟩) bytes.length c8 a al W (by omega) hwa.out hwal.out (by have := hLe.out; omega))
                refine h46.mono ?_
                clear h46 q1 q2 q9
                rintro e w4 ⟨rfl, hg4⟩
                have hb4 := grown_below hg4
                clear hg4
                have hC4 := hid (hC3.out.mono hb4)
                have hL4 := hid (hL3.out.mono hb4)
                have hH4 := hid (hH3.out.below hb4)
                have hB4 := hid (hB3.out.trans (hb4.mono hB3.out.size))
                have hs4 := hid (hb4.size)
                have hE4 := hid (hE3.out.mono hb4)
                have hF4 := hid (hF3.out.mono hb4)
                clear hb4
                go_wp2_with fail
                have hS0 : Hid (w4.drew.cell? ⟨ob, 1, none⟩ = some (.int .u32 a) ∧ w4.drew.cell? ⟨ob, 2, none⟩ = some (.int .u32 al) ∧ w4.drew.cell? ⟨ob, 9, none⟩ = some (.slice bo bytes.length bcap)) := ⟨by simpa using hC4.out.c1, by simpa using hC4.out.c2, by simpa using hC4.out.c9⟩
                refine wp_region_held_drew (S := fun W => W.cell? ⟨ob, 1, none⟩ = some (.int .u32 a) ∧ W.cell? ⟨ob, 2, none⟩ = some (.int .u32 al) ∧ W.cell? ⟨ob, 9, none⟩ = some (.slice bo bytes.length bcap)) (by kernel_rfl) hS0.out (fun hHeld => ?_)
                refine wpAnyH_take (i := 0) (v := ?_) (by simp only [List.getElem?_toArray, List.getElem?_cons_succ, List.getElem?_cons_zero]; rfl) (by kernel_rfl) (by kernel_rfl) (by kernel_rfl) (by intro _ _ _ h; exact h) (Or.inl ⟨by rfl, ?_⟩) (by assumption) ?_
                rotate_left
                · intro w' hSw; (try dsimp only at hSw); go_simp; (try with_reducible rfl)
                try simp only [Act.put, List.setIfInBounds_toArray, List.set_cons_zero, List.set_cons_succ]
                refine wpAnyH_take (i := 1) (v := ?_) (by simp only [List.getElem?_toArray, List.getElem?_cons_succ, List.getElem?_cons_zero]; rfl) (by kernel_rfl) (by kernel_rfl) (by kernel_rfl) (by intro _ _ _ h; exact h) (Or.inl ⟨by rfl, ?_⟩) (by assumption) ?_
                rotate_left
                · intro w' hSw; (try dsimp only at hSw); go_simp; (try with_reducible rfl)
                try simp only [Act.put, List.setIfInBounds_toArray, List.set_cons_zero, List.set_cons_succ]
                refine wpAnyH_take (i := 2) (v := ?_) (by simp only [List.getElem?_toArray, List.getElem?_cons_succ, List.getElem?_cons_zero]; rfl) (by kernel_rfl) (by kernel_rfl) (by kernel_rfl) (by intro _ _ _ h; exact h) (Or.inl ⟨by rfl, ?_⟩) (by assumption) ?_
                rotate_left
                · intro w' hSw; (try dsimp only at hSw); go_simp; (try with_reducible rfl)
                try simp only [Act.put, List.setIfInBounds_toArray, List.set_cons_zero, List.set_cons_succ]
                refine wpAnyH_take (i := 3) (v := ?_) (by simp only [List.getElem?_toArray, List.getElem?_cons_succ, List.getElem?_cons_zero]; rfl) (by kernel_rfl) (by kernel_rfl) (by kernel_rfl) (by intro _ _ _ h; exact h) (Or.inl ⟨by rfl, ?_⟩) (by assumption) ?_
                rotate_left
                · intro w' hSw; (try dsimp only at hSw); go_simp; (try with_reducible rfl)
                try simp only [Act.put, List.setIfInBounds_toArray, List.set_cons_zero, List.set_cons_succ]
                refine wpAnyH_take (i := 4) (v := ?_) (by simp only [List.getElem?_toArray, List.getElem?_cons_succ, List.getElem?_cons_zero]; rfl) (by kernel_rfl) (by kernel_rfl) (by kernel_rfl) (by intro _ _ _ h; exact h) (Or.inl ⟨by rfl, ?_⟩) (by assumption) ?_
                rotate_left
                · intro w' hSw; (try dsimp only at hSw); go_simp; (try with_reducible rfl)
                try simp only [Act.put, List.setIfInBounds_toArray, List.set_cons_zero, List.set_cons_succ]
                refine wpAnyH_take (i := 5) (v := ?_) (by simp only [List.getElem?_toArray, List.getElem?_cons_succ, List.getElem?_cons_zero]; rfl) (by kernel_rfl) (by kernel_rfl) (by kernel_rfl) (by intro _ _ _ h; exact h) (Or.inl ⟨by rfl, ?_⟩) (by assumption) ?_
                rotate_left
                · intro w' hSw; (try dsimp only at hSw); go_simp; (try with_reducible rfl)
                try simp only [Act.put, List.setIfInBounds_toArray, List.set_cons_zero, List.set_cons_succ]
                refine wpAnyH_take (i := 6) (v := ?_) (by simp only [List.getElem?_toArray, List.getElem?_cons_succ, List.getElem?_cons_zero]; rfl) (by kernel_rfl) (by kernel_rfl) (by kernel_rfl) (by intro _ _ _ h; exact h) (Or.inl ⟨by rfl, ?_⟩) (by assumption) ?_
                rotate_left
                · intro w' hSw; (try dsimp only at hSw); go_simp; (try with_reducible rfl)
                try simp only [Act.put, List.setIfInBounds_toArray, List.set_cons_zero, List.set_cons_succ]
                refine wpAnyH_ready (rs := [7]) (by kernel_rfl) (by simp) ?_
                refine AllReadyH.cons (by simp only [List.getElem?_toArray, List.getElem?_cons_succ, List.getElem?_cons_zero]; rfl) (fun K hK => ?_) AllReadyH.nil
                go_simp
                go_at_call 47
                have h99 := h47.out w4.drew
                refine h99.mono ?_
                clear h99
                rintro e w5 ⟨rfl, hg5⟩
                have hb5 : Below w4.heap.size w4 w5 := ((Below.refl _ w4).drew).trans (grown_below hg5)
                clear hg5
                have hC5 := hid (hC4.out.mono hb5)
                have hL5 := hid (hL4.out.mono hb5)
                have hH5 := hid (hH4.out.below hb5)
                have hB5 := hid (hB4.out.trans (hb5.mono hB4.out.size))
                have hs5 := hid (hb5.size)
                have hE5 := hid (hE4.out.mono hb5)
                have hF5 := hid (hF4.out.mono hb5)
                have hk : w5.cell? ⟨ob, 1, none⟩ = some (.int .u32 a) ∧ w5.cell? ⟨ob, 2, none⟩ = some (.int .u32 al) ∧ w5.cell? ⟨ob, 9, none⟩ = some (.slice bo bytes.length bcap) := ⟨by simpa using hC5.out.c1, by simpa using hC5.out.c2, by simpa using hC5.out.c9⟩
                clear hb5
                clear hHeld hS0
                go_wp2_with fail
                refine hK.out _ _ hk (fun hHeld => ?_)
                clear hK K hk
                try simp only [Act.put, List.setIfInBounds_toArray, List.set_cons_zero, List.set_cons_succ]
                refine wpAnyH_take (i := 8) (v := ?_) (by simp only [List.getElem?_toArray, List.getElem?_cons_succ, List.getElem?_cons_zero]; rfl) (by kernel_rfl) (by kernel_rfl) (by kernel_rfl) (by intro _ _ _ h; exact h) (Or.inl ⟨by rfl, ?_⟩) (by assumption) ?_
                rotate_left
                · intro w' hSw; (try dsimp only at hSw); go_simp; (try with_reducible rfl)
                try simp only [Act.put, List.setIfInBounds_toArray, List.set_cons_zero, List.set_cons_succ]
                refine wpAnyH_take (i := 9) (v := ?_) (by simp only [List.getElem?_toArray, List.getElem?_cons_succ, List.getElem?_cons_zero]; rfl) (by kernel_rfl) (by kernel_rfl) (by kernel_rfl) (by intro _ _ _ h; exact h) (Or.inl ⟨by rfl, ?_⟩) (by assumption) ?_
                rotate_left
                · intro w' hSw; (try dsimp only at hSw); go_simp; (try with_reducible rfl)
                try simp only [Act.put, List.setIfInBounds_toArray, List.set_cons_zero, List.set_cons_succ]
                refine wpAnyH_take (i := 10) (v := ?_) (by simp only [List.getElem?_toArray, List.getElem?_cons_succ, List.getElem?_cons_zero]; rfl) (by kernel_rfl) (by kernel_rfl) (by kernel_rfl) (by intro _ _ _ h; exact h) (Or.inl ⟨by rfl, ?_⟩) (by assumption) ?_
                rotate_left
                · intro w' hSw; (try dsimp only at hSw); go_simp; (try with_reducible rfl)
                try simp only [Act.put, List.setIfInBounds_toArray, List.set_cons_zero, List.set_cons_succ]
                refine wpAnyH_take (i := 11) (v := ?_) (by simp only [List.getElem?_toArray, List.getElem?_cons_succ, List.getElem?_cons_zero]; rfl) (by kernel_rfl) (by kernel_rfl) (by kernel_rfl) (by intro _ _ _ h; exact h) (Or.inl ⟨by rfl, ?_⟩) (by assumption) ?_
                rotate_left
                · intro w' hSw; (try dsimp only at hSw); go_simp; (try with_reducible rfl)
                try simp only [Act.put, List.setIfInBounds_toArray, List.set_cons_zero, List.set_cons_succ]
                refine wpAnyH_take (i := 12) (v := ?_) (by simp only [List.getElem?_toArray, List.getElem?_cons_succ, List.getElem?_cons_zero]; rfl) (by kernel_rfl) (by kernel_rfl) (by kernel_rfl) (by intro _ _ _ h; exact h) (Or.inl ⟨by rfl, ?_⟩) (by assumption) ?_
                rotate_left
                · intro w' hSw; (try dsimp only at hSw); go_simp; (try with_reducible rfl)
                try simp only [Act.put, List.setIfInBounds_toArray, List.set_cons_zero, List.set_cons_succ]
                refine wpAnyH_done (by kernel_rfl) ?_ _
                clear hHeld
                go_wp2_with fail
                have hS0 : Hid (w5.drew.cell? ⟨ob, 1, none⟩ = some (.int .u32 a) ∧ w5.drew.cell? ⟨ob, 2, none⟩ = some (.int .u32 al) ∧ w5.drew.cell? ⟨ob, 9, none⟩ = some (.slice bo bytes.length bcap)) := ⟨by simpa using hC5.out.c1, by simpa using hC5.out.c2, by simpa using hC5.out.c9⟩
                refine wp_region_held_drew (S := fun W => W.cell? ⟨ob, 1, none⟩ = some (.int .u32 a) ∧ W.cell? ⟨ob, 2, none⟩ = some (.int .u32 al) ∧ W.cell? ⟨ob, 9, none⟩ = some (.slice bo bytes.length bcap)) (by kernel_rfl) hS0.out (fun hHeld => ?_)
                refine wpAnyH_take (i := 0) (v := ?_) (by simp only [List.getElem?_toArray, List.getElem?_cons_succ, List.getElem?_cons_zero]; rfl) (by kernel_rfl) (by kernel_rfl) (by kernel_rfl) (by intro _ _ _ h; exact h) (Or.inl ⟨by rfl, ?_⟩) (by assumption) ?_
                rotate_left
                · intro w' hSw; (try dsimp only at hSw); go_simp; (try with_reducible rfl)
                try simp only [Act.put, List.setIfInBounds_toArray, List.set_cons_zero, List.set_cons_succ]
                refine wpAnyH_take (i := 1) (v := ?_) (by simp only [List.getElem?_toArray, List.getElem?_cons_succ, List.getElem?_cons_zero]; rfl) (by kernel_rfl) (by kernel_rfl) (by kernel_rfl) (by intro _ _ _ h; exact h) (Or.inl ⟨by rfl, ?_⟩) (by assumption) ?_
                rotate_left
                · intro w' hSw; (try dsimp only at hSw); go_simp; (try with_reducible rfl)
                try simp only [Act.put, List.setIfInBounds_toArray, List.set_cons_zero, List.set_cons_succ]
                refine wpAnyH_take (i := 2) (v := ?_) (by simp only [List.getElem?_toArray, List.getElem?_cons_succ, List.getElem?_cons_zero]; rfl) (by kernel_rfl) (by kernel_rfl) (by kernel_rfl) (by intro _ _ _ h; exact h) (Or.inl ⟨by rfl, ?_⟩) (by assumption) ?_
                rotate_left
                · intro w' hSw; (try dsimp only at hSw); go_simp; (try with_reducible rfl)
                try simp only [Act.put, List.setIfInBounds_toArray, List.set_cons_zero, List.set_cons_succ]
                refine wpAnyH_take (i := 3) (v := ?_) (by simp only [List.getElem?_toArray, List.getElem?_cons_succ, List.getElem?_cons_zero]; rfl) (by kernel_rfl) (by kernel_rfl) (by kernel_rfl) (by intro _ _ _ h; exact h) (Or.inl ⟨by rfl, ?_⟩) (by assumption) ?_
                rotate_left
                · intro w' hSw; (try dsimp only at hSw); go_simp; (try with_reducible rfl)
                try simp only [Act.put, List.setIfInBounds_toArray, List.set_cons_zero, List.set_cons_succ]
                refine wpAnyH_take (i := 4) (v := ?_) (by simp only [List.getElem?_toArray, List.getElem?_cons_succ, List.getElem?_cons_zero]; rfl) (by kernel_rfl) (by kernel_rfl) (by kernel_rfl) (by intro _ _ _ h; exact h) (Or.inl ⟨by rfl, ?_⟩) (by assumption) ?_
                rotate_left
                · intro w' hSw; (try dsimp only at hSw); go_simp; (try with_reducible rfl)
                try simp only [Act.put, List.setIfInBounds_toArray, List.set_cons_zero, List.set_cons_succ]
                refine wpAnyH_take (i := 5) (v := ?_) (by simp only [List.getElem?_toArray, List.getElem?_cons_succ, List.getElem?_cons_zero]; rfl) (by kernel_rfl) (by kernel_rfl) (by kernel_rfl) (by intro _ _ _ h; exact h) (Or.inl ⟨by rfl, ?_⟩) (by assumption) ?_
                rotate_left
                · intro w' hSw; (try dsimp only at hSw); go_simp; (try with_reducible rfl)
                try simp only [Act.put, List.setIfInBounds_toArray, List.set_cons_zero, List.set_cons_succ]
                refine wpAnyH_take (i := 6) (v := ?_) (by simp only [List.getElem?_toArray, List.getElem?_cons_succ, List.getElem?_cons_zero]; rfl) (by kernel_rfl) (by kernel_rfl) (by kernel_rfl) (by intro _ _ _ h; exact h) (Or.inl ⟨by rfl, ?_⟩) (by assumption) ?_
                rotate_left
                · intro w' hSw; (try dsimp only at hSw); go_simp; (try with_reducible rfl)
                try simp only [Act.put, List.setIfInBounds_toArray, List.set_cons_zero, List.set_cons_succ]
                refine wpAnyH_ready (rs := [7]) (by kernel_rfl) (by simp) ?_
                refine AllReadyH.cons (by simp only [List.getElem?_toArray, List.getElem?_cons_succ, List.getElem?_cons_zero]; rfl) (fun K hK => ?_) AllReadyH.nil
                go_simp
                go_at_call 47
                have h99 := h47.out w5.drew
                refine h99.mono ?_
                clear h99
                rintro e w6 ⟨rfl, hg6⟩
                have hb6 : Below w5.heap.size w5 w6 := ((Below.refl _ w5).drew).trans (grown_below hg6)
                clear hg6
                have hC6 := hid (hC5.out.mono hb6)
                have hL6 := hid (hL5.out.mono hb6)
                have hH6 := hid (hH5.out.below hb6)
                have hB6 := hid (hB5.out.trans (hb6.mono hB5.out.size))
                have hs6 := hid (hb6.size)
                have hE6 := hid (hE5.out.mono hb6)
                have hF6 := hid (hF5.out.mono hb6)
                have hk : w6.cell? ⟨ob, 1, none⟩ = some (.int .u32 a) ∧ w6.cell? ⟨ob, 2, none⟩ = some (.int .u32 al) ∧ w6.cell? ⟨ob, 9, none⟩ = some (.slice bo bytes.length bcap) := ⟨by simpa using hC6.out.c1, by simpa using hC6.out.c2, by simpa using hC6.out.c9⟩
                clear hb6
                clear hHeld hS0
                go_wp2_with fail
                refine hK.out _ _ hk (fun hHeld => ?_)
                clear hK K hk
                try simp only [Act.put, List.setIfInBounds_toArray, List.set_cons_zero, List.set_cons_succ]
                refine wpAnyH_take (i := 8) (v := ?_) (by simp only [List.getElem?_toArray, List.getElem?_cons_succ, List.getElem?_cons_zero]; rfl) (by kernel_rfl) (by kernel_rfl) (by kernel_rfl) (by intro _ _ _ h; exact h) (Or.inl ⟨by rfl, ?_⟩) (by assumption) ?_
                rotate_left
                · intro w' hSw; (try dsimp only at hSw); go_simp; (try with_reducible rfl)
                try simp only [Act.put, List.setIfInBounds_toArray, List.set_cons_zero, List.set_cons_succ]
                refine wpAnyH_take (i := 9) (v := ?_) (by simp only [List.getElem?_toArray, List.getElem?_cons_succ, List.getElem?_cons_zero]; rfl) (by kernel_rfl) (by kernel_rfl) (by kernel_rfl) (by intro _ _ _ h; exact h) (Or.inl ⟨by rfl, ?_⟩) (by assumption) ?_
                rotate_left
                · intro w' hSw; (try dsimp only at hSw); go_simp; (try with_reducible rfl)
                try simp only [Act.put, List.setIfInBounds_toArray, List.set_cons_zero, List.set_cons_succ]
                refine wpAnyH_take (i := 10) (v := ?_) (by simp only [List.getElem?_toArray, List.getElem?_cons_succ, List.getElem?_cons_zero]; rfl) (by kernel_rfl) (by kernel_rfl) (by kernel_rfl) (by intro _ _ _ h; exact h) (Or.inl ⟨by rfl, ?_⟩) (by assumption) ?_
                rotate_left
                · intro w' hSw; (try dsimp only at hSw); go_simp; (try with_reducible rfl)
                try simp only [Act.put, List.setIfInBounds_toArray, List.set_cons_zero, List.set_cons_succ]
                refine wpAnyH_take (i := 11) (v := ?_) (by simp only [List.getElem?_toArray, List.getElem?_cons_succ, List.getElem?_cons_zero]; rfl) (by kernel_rfl) (by kernel_rfl) (by kernel_rfl) (by intro _ _ _ h; exact h) (Or.inl ⟨by rfl, ?_⟩) (by assumption) ?_
                rotate_left
                · intro w' hSw; (try dsimp only at hSw); go_simp; (try with_reducible rfl)
                try simp only [Act.put, List.setIfInBounds_toArray, List.set_cons_zero, List.set_cons_succ]
                refine wpAnyH_take (i := 12) (v := ?_) (by simp only [List.getElem?_toArray, List.getElem?_cons_succ, List.getElem?_cons_zero]; rfl) (by kernel_rfl) (by kernel_rfl) (by kernel_rfl) (by intro _ _ _ h; exact h) (Or.inl ⟨by rfl, ?_⟩) (by assumption) ?_
                rotate_left
                · intro w' hSw; (try dsimp only at hSw); go_simp; (try with_reducible rfl)
                try simp only [Act.put, List.setIfInBounds_toArray, List.set_cons_zero, List.set_cons_succ]
                refine wpAnyH_done (by kernel_rfl) ?_ _
                clear hHeld
                have q9 : w6.cell? ⟨ob, 9, none⟩ = some (.slice bo bytes.length bcap) := by simpa using hC6.out.c9
                go_wp2_with fail
                have h20 := kept_any (some ⟨g, 0, none⟩) (bytes.length + 64) c8 bo bytes.length bcap bytes w6 (by rw [lentL_len]) rfl (by omega) hE6.out hL6.out.hb
                refine h20.mono ?_
                clear h20
                rintro e w7 ⟨rfl, q, rfl⟩
                have hb7 := below_drewN' (Below.refl w6.heap.size w6) q
                have hH7 := hid (hH6.out.below hb7)
                have hB7 := hid (hB6.out.trans (hb7.mono hB6.out.size))
                clear hb7 q9
                go_wp2_with (first | (at_builtin; refine wpList_append_str rfl _ _ 63 rfl w.heap.size 23 23 (.slice none 0 0) 1 24 2 Try.underlying63 (by kernel_rfl) rfl (by decide) _ (T.flatMap Trip.got).length _ [_, _] (0, 0) hH7.out.ownC rfl (by simp [Value.oneCell']) (by rw [got_len]; have := hTl.out; unfold maxLen; omega) (by rw [got_len]; have := hTl.out; omega) hB7.out.size rfl rfl ?_; intro va' wg hA1; have hA1' := hid hA1; have hsg := hid (Nat.le_trans hB7.out.size hA1.grown.size); have hWo := hid (hH7.out.onP hA1); clear hA1) | (at_builtin; go_must (refine wpList_append_str rfl _ _ 63 rfl w.heap.size 23 23 (.slice none 0 0) 1 24 2 Try.underlying63 (by kernel_rfl) rfl (by decide) _ (T.flatMap Trip.want).length _ [_, _] (0, 0) hWo.out rfl (by simp [Value.oneCell']) (by rw [want_len]; have := hTl.out; unfold maxLen; omega) (by rw [want_len]; have := hTl.out; omega) hsg.out rfl rfl ?_); intro vb' ww hA2))
                have hH9 := hid (hH3.out.pushT hH7.out ⟨⟨.slice none 0 0, 5, 1, 0, []⟩, ⟨.slice none 0 0, 5, 1, 0, []⟩, ⟨.slice none 0 0, 5, 1, 0, []⟩, []⟩ ⟨⟨rfl, rfl, rfl, by decide, rfl⟩, ⟨rfl, rfl, rfl, by decide, rfl⟩, ⟨rfl, rfl, rfl, by decide, rfl⟩, fun b hb => by cases hb⟩ hB3.out.size (World.ownsRow_nil _ _ 5 1) (World.ownsRow_nil _ _ 5 1) (World.ownsRow_nil _ _ 5 1) (.inl rfl) (.inl rfl) (.inl rfl) hA1'.out hA2)
                have hB9 := hid ((hB7.out.grown hA1'.out.grown hB7.out.size (fun q hq => (hH7.out.ownC.lt q hq).1)).grown hA2.grown hsg.out (fun q hq => (hWo.out.lt q hq).1))
                have hTl' : Hid ((T ++ ([⟨⟨.slice none 0 0, 5, 1, 0, []⟩, ⟨.slice none 0 0, 5, 1, 0, []⟩, ⟨.slice none 0 0, 5, 1, 0, []⟩, []⟩] : List Trip)).length ≤ k + 1) := by have := hTl.out; show (T ++ ([⟨⟨.slice none 0 0, 5, 1, 0, []⟩, ⟨.slice none 0 0, 5, 1, 0, []⟩, ⟨.slice none 0 0, 5, 1, 0, []⟩, []⟩] : List Trip)).length ≤ k + 1; rw [List.length_append, List.length_singleton]; omega
                have hT' : Hid (T ++ ([⟨⟨.slice none 0 0, 5, 1, 0, []⟩, ⟨.slice none 0 0, 5, 1, 0, []⟩, ⟨.slice none 0 0, 5, 1, 0, []⟩, []⟩] : List Trip) = [] → va' = .slice none 0 0) := fun h => absurd h (by simp)
                clear hA1' hA2 hWo hsg
                have h21 := over_any g (bytes.length + 64) c8 w.heap.size _ ww hH9.out.row (by omega)
                refine h21.mono ?_
                clear h21
                rintro e wo ⟨rfl, -, hgo⟩
                have hHo := hid (hH9.out.over hgo)
                have hBo := hid (hB9.out.grown hgo hB9.out.size (fun q hq => (hH9.out.row.lt q hq).1))
                clear hgo
                go_wp2_with fail
                go_roundw
                case rel => exact ⟨S, _, k + 1, _, _, _, _, rfl, rfl, rfl, rfl, by go_num, by omega, Nat.le_succ_of_le hSl.out, hTl'.out, hS.out, hT'.out, hHo.out, hBo.out⟩
                case measure => simp [intOf]; omega
    · skip
      obtain rfl : k = rows.length := by omega
      by_cases hSe : S = []
      · have hv := hS.out hSe
        subst hv
        have hBf := hid hB.out
        have hHf := hid hH.out.held
        clear hH hS hSe
        go_wp2_with fail
        refine wp_loop_rounds 1 ?_
        rw [rounds_succ]
        go_wp2_with fail
        refine (apart49_nil _).mono ?_
        rintro e w' ⟨rfl, rfl⟩
        have hTe0 := hT.out
        by_cases hTe : T = []
        · have hv := hTe0 hTe
          subst hv
          clear hTe0
          go_wp2_with fail
          refine (keep_nil _ vp).mono ?_
          rintro e w' ⟨rfl, rfl⟩
          go_wp2_with fail
          go_ret
          exact ⟨rfl, hBf.out⟩
        · have hTe' := hid hTe
          clear hTe hTe0
          go_wp2_with fail
          refine (hHf.out.final hTe'.out hBf.out.size (by have := hTl.out; omega)).mono ?_
          rintro e w' ⟨rfl, hbl⟩
          have hB' := hid (hBf.out.trans hbl)
          clear hbl
          go_wp2_with fail
          go_ret
          exact ⟨rfl, hB'.out⟩
      · have hSp : 0 < S.length := List.length_pos_iff.2 hSe
        obtain ⟨lb, cap1, hv1, -⟩ := own_shape hH.out.ownK (by rw [got_len]; omega)
        obtain ⟨mb, cap2, hv2, -⟩ := own_shape hH.out.ownW (by rw [want_len]; omega)
        rw [got_len] at hv1
        rw [want_len] at hv2
        subst hv1 hv2
        have hSe' := hid hSe
        have hSle := hSl.out
        clear hSe hS hlt
        go_wp2_with fail
        go_loopw [23] (fun i wr => ∃ j : Nat, j ≤ 2 * S.length ∧ i = .int .i64 j ∧ Both wr w.heap.size (.slice (some ⟨lb, 0, none⟩) (2 * S.length) cap1) (.slice (some ⟨mb, 0, none⟩) (2 * S.length) cap2) S vc vp T [] ∧ Below w.heap.size w wr) (fun i _ => 2 * S.length - (intOf i).toNat)
        case atStart => exact ⟨0, Nat.zero_le _, rfl, hH.out, hB.out⟩
        case round =>
          clear hH hB
          obtain ⟨j, hj, rfl, hh, hb⟩ := hrel
          have hH := hid hh
          have hB := hid hb
          clear hh hb
          by_cases hlt : j < 2 * S.length
          · have hd := (Below.refl wr.heap.size wr).drew
            have hHd := hid (hH.out.below hd)
            have hBd := hid (hB.out.trans (hd.mono hB.out.size))
            obtain ⟨a1, a2, n, c1, c2, h1, h2, h48⟩ := hHd.out.readS j hlt
            rw [Nat.zero_add] at h1 h2
            have h48' := hid h48
            have hi1 : (0 : Int) ≤ (j : Int) := by omega
            have hi2 : (j : Int) < 2 * (S.length : Int) := by omega
            have hS0 : Hid ((Both wr.drew w.heap.size (.slice (some ⟨lb, 0, none⟩) (2 * S.length) cap1) (.slice (some ⟨mb, 0, none⟩) (2 * S.length) cap2) S vc vp T [] ∧ Below w.heap.size w wr.drew) ∧ wr.drew.cell? ⟨lb, j, none⟩ = some (.slice a1 n c1) ∧ wr.drew.cell? ⟨mb, j, none⟩ = some (.slice a2 n c2)) := ⟨⟨hHd.out, hBd.out⟩, h1, h2⟩
            have hStep : Hid (∀ q, (Both (wr.drew.drewN q) w.heap.size (.slice (some ⟨lb, 0, none⟩) (2 * S.length) cap1) (.slice (some ⟨mb, 0, none⟩) (2 * S.length) cap2) S vc vp T [] ∧ Below w.heap.size w (wr.drew.drewN q)) ∧ (wr.drew.drewN q).cell? ⟨lb, j, none⟩ = some (.slice a1 n c1) ∧ (wr.drew.drewN q).cell? ⟨mb, j, none⟩ = some (.slice a2 n c2)) := fun q => by
              have hq := below_drewN' (Below.refl wr.drew.heap.size wr.drew) q
              exact ⟨⟨hHd.out.below hq, hBd.out.trans (hq.mono hBd.out.size)⟩, by simpa using h1, by simpa using h2⟩
            clear h1 h2 h48 hd hHd hBd
            go_wp2_with fail
            refine wp_region_held_drew (S := fun W => (Both W w.heap.size (.slice (some ⟨lb, 0, none⟩) (2 * S.length) cap1) (.slice (some ⟨mb, 0, none⟩) (2 * S.length) cap2) S vc vp T [] ∧ Below w.heap.size w W) ∧ W.cell? ⟨lb, j, none⟩ = some (.slice a1 n c1) ∧ W.cell? ⟨mb, j, none⟩ = some (.slice a2 n c2)) (by kernel_rfl) hS0.out (fun hHeld => ?_)
            refine wpAnyH_take (i := 0) (v := ?_) (by simp only [List.getElem?_toArray, List.getElem?_cons_succ, List.getElem?_cons_zero]; rfl) (by kernel_rfl) (by kernel_rfl) (by kernel_rfl) (by intro _ _ _ h; exact h) (Or.inl ⟨by rfl, ?_⟩) (by assumption) ?_
            rotate_left
            · intro w' hSw; (try dsimp only at hSw); go_simp; (try with_reducible rfl)
            try simp only [Act.put, List.setIfInBounds_toArray, List.set_cons_zero, List.set_cons_succ]
            refine wpAnyH_take (i := 1) (v := ?_) (by simp only [List.getElem?_toArray, List.getElem?_cons_succ, List.getElem?_cons_zero]; rfl) (by kernel_rfl) (by kernel_rfl) (by kernel_rfl) (by intro _ _ _ h; exact h) (Or.inl ⟨by rfl, ?_⟩) (by assumption) ?_
            rotate_left
            · intro w' hSw; (try dsimp only at hSw); go_simp; (try with_reducible rfl)
            try simp only [Act.put, List.setIfInBounds_toArray, List.set_cons_zero, List.set_cons_succ]
            refine wpAnyH_take (i := 2) (v := ?_) (by simp only [List.getElem?_toArray, List.getElem?_cons_succ, List.getElem?_cons_zero]; rfl) (by kernel_rfl) (by kernel_rfl) (by kernel_rfl) (by intro _ _ _ h; exact h) (Or.inl ⟨by rfl, ?_⟩) (by assumption) ?_
            rotate_left
            · intro w' hSw; (try dsimp only at hSw); go_simp; (try with_reducible rfl)
            try simp only [Act.put, List.setIfInBounds_toArray, List.set_cons_zero, List.set_cons_succ]
            refine wpAnyH_take (i := 3) (v := ?_) (by simp only [List.getElem?_toArray, List.getElem?_cons_succ, List.getElem?_cons_zero]; rfl) (by kernel_rfl) (by kernel_rfl) (by kernel_rfl) (by intro _ _ _ h; exact h) (Or.inl ⟨by rfl, ?_⟩) (by assumption) ?_
            rotate_left
            · intro w' hSw; (try dsimp only at hSw); go_simp; (try with_reducible rfl)
            try simp only [Act.put, List.setIfInBounds_toArray, List.set_cons_zero, List.set_cons_succ]
            refine wpAnyH_take (i := 4) (v := ?_) (by simp only [List.getElem?_toArray, List.getElem?_cons_succ, List.getElem?_cons_zero]; rfl) (by kernel_rfl) (by kernel_rfl) (by kernel_rfl) (by intro _ _ _ h; exact h) (Or.inl ⟨by rfl, ?_⟩) (by assumption) ?_
            rotate_left
            · intro w' hSw; (try dsimp only at hSw); go_simp; (try with_reducible rfl)
            try simp only [Act.put, List.setIfInBounds_toArray, List.set_cons_zero, List.set_cons_succ]
            refine wpAnyH_take (i := 5) (v := ?_) (by simp only [List.getElem?_toArray, List.getElem?_cons_succ, List.getElem?_cons_zero]; rfl) (by kernel_rfl) (by kernel_rfl) (by kernel_rfl) (by intro _ _ _ h; exact h) (Or.inl ⟨by rfl, ?_⟩) (by assumption) ?_
            rotate_left
            · intro w' hSw; (try dsimp only at hSw); go_simp; (try with_reducible rfl)
            try simp only [Act.put, List.setIfInBounds_toArray, List.set_cons_zero, List.set_cons_succ]
            refine wpAnyH_take (i := 6) (v := ?_) (by simp only [List.getElem?_toArray, List.getElem?_cons_succ, List.getElem?_cons_zero]; rfl) (by kernel_rfl) (by kernel_rfl) (by kernel_rfl) (by intro _ _ _ h; exact h) (Or.inl ⟨by rfl, ?_⟩) (by assumption) ?_
            rotate_left
            · intro w' hSw; (try dsimp only at hSw); go_simp; (try with_reducible rfl)
            try simp only [Act.put, List.setIfInBounds_toArray, List.set_cons_zero, List.set_cons_succ]
            refine wpAnyH_take (i := 7) (v := ?_) (by simp only [List.getElem?_toArray, List.getElem?_cons_succ, List.getElem?_cons_zero]; rfl) (by kernel_rfl) (by kernel_rfl) (by kernel_rfl) (by intro _ _ _ h; exact h) (Or.inl ⟨by rfl, ?_⟩) (by assumption) ?_
            rotate_left
            · intro w' hSw; (try dsimp only at hSw); go_simp; (try with_reducible rfl)
            try simp only [Act.put, List.setIfInBounds_toArray, List.set_cons_zero, List.set_cons_succ]
            refine wpAnyH_ready (rs := [8]) (by kernel_rfl) (by simp) ?_
            refine AllReadyH.cons (by simp only [List.getElem?_toArray, List.getElem?_cons_succ, List.getElem?_cons_zero]; rfl) (fun K hK => ?_) AllReadyH.nil
            go_simp
            go_at_call 48
            refine h48'.out.mono ?_
            rintro e w5 ⟨rfl, q, hq5⟩
            have hk := hStep.out q
            rw [← hq5] at hk
            clear hHeld hq5
            go_wp2_with fail
            refine hK.out _ _ hk (fun hHeld => ?_)
            clear hK K hk
            try simp only [Act.put, List.setIfInBounds_toArray, List.set_cons_zero, List.set_cons_succ]
            refine wpAnyH_take (i := 9) (v := ?_) (by simp only [List.getElem?_toArray, List.getElem?_cons_succ, List.getElem?_cons_zero]; rfl) (by kernel_rfl) (by kernel_rfl) (by kernel_rfl) (by intro _ _ _ h; exact h) (Or.inl ⟨by rfl, ?_⟩) (by assumption) ?_
            rotate_left
            · intro w' hSw; (try dsimp only at hSw); go_simp; (try with_reducible rfl)
            try simp only [Act.put, List.setIfInBounds_toArray, List.set_cons_zero, List.set_cons_succ]
            refine wpAnyH_done (by kernel_rfl) ?_ _
            go_wp2_with fail
            go_roundw
            case rel => exact ⟨j + 1, by omega, by go_num, hHeld.1.1, hHeld.1.2⟩
            case measure => simp [intOf]; omega
          · obtain rfl : j = 2 * S.length := by omega
            go_wp2_with fail
            have h49 := hH.out.finalS hSe'.out hB.out.size (by have := hSl.out; omega)
            refine h49.mono ?_
            clear h49
            rintro e w5 ⟨rfl, hb5, hh5⟩
            have hBf := hid (hB.out.trans hb5)
            have hHf := hid hh5
            clear hb5 hh5 hH hB
            have hTe0 := hT.out
            by_cases hTe : T = []
            · have hv := hTe0 hTe
              subst hv
              clear hTe0
              go_wp2_with fail
              refine (keep_nil _ vp).mono ?_
              rintro e w' ⟨rfl, rfl⟩
              go_wp2_with fail
              go_ret
              exact ⟨rfl, hBf.out⟩
            · have hTe' := hid hTe
              clear hTe hTe0
              go_wp2_with fail
              refine (hHf.out.final hTe'.out hBf.out.size (by have := hTl.out; omega)).mono ?_
              rintro e w' ⟨rfl, hbl⟩
              have hB' := hid (hBf.out.trans hbl)
              clear hbl
              go_wp2_with fail
              go_ret
              exact ⟨rfl, hB'.out⟩
end Go.Proofs.Ytdhicfolchpmhaa

namespace Go.Proofs.Ytdhicfolchpmhaa
open Go.ChangeShapes Go.WideShapes Go.ChangeAt Go.RowKit
set_option linter.unusedVariables false
set_option linter.unusedSimpArgs false

set_option maxHeartbeats 1000000 in
set_option maxRecDepth 100000 in
theorem spans_empty (w : World) (ao : Option Addr) (cap : Nat) :
    Calls Try.prog 11 #[.slice ao 0 cap] w fun e w' => e = .returned (.bool true) ∧ Below w.heap.size w w' := by
  go_enter Try.func11, Try.ntmps11
  go_wp2_with fail
  refine (lives_any _).mono ?_
  rintro e w1 ⟨rfl, hb1⟩
  have hB1 := hid hb1
  clear hb1
  go_wp2_with fail
  refine (within33 10 5 15 _ (by omega) (by omega) (by omega)).mono ?_
  rintro e w2 ⟨rfl, hg2⟩
  have hB2 := hid (hB1.out.grown hg2 hB1.out.size (fun q hq => by simp at hq))
  clear hg2 hB1
  go_wp2_with fail
  refine wp_loop_rounds 1 ?_
  rw [rounds_succ]
  go_wp2_with fail
  refine wp_loop_rounds 1 ?_
  rw [rounds_succ]
  go_wp2_with fail
  refine (apart49_nil _).mono ?_
  rintro e w' ⟨rfl, rfl⟩
  go_wp2_with fail
  refine (keep_nil _ _).mono ?_
  rintro e w' ⟨rfl, rfl⟩
  go_wp2_with fail
  go_ret
  exact ⟨rfl, hB2.out⟩

set_option maxRecDepth 100000 in
theorem spans_top (w : World) {H : Type} {enc : TypeId × Value → H} {base : Nat} {p : List MemPlace} (v : Value) (d : DataW H) (hval : Value.okWide Try.prog w .any base 73 v) (h : DataW.Trod enc Try.prog w 0 (fun _ => true) true 73 v d p)
    (hw : Rows.uptoBulk d ≤ 1048576) :
    Calls Try.prog 11 #[v] w fun e w' => e = .returned (.bool true) ∧ Below w.heap.size w w' := by
  obtain ⟨a, len, cap, rfl, hr⟩ := spans_open w v d hval h hw
  rcases hr with rfl | ⟨b, off, rows, rfl, hlen, hbig, hok⟩
  · exact spans_empty w a cap
  · exact spans_walk w b off len cap rows hlen.symm hbig hok
end Go.Proofs.Ytdhicfolchpmhaa
