/- Walks: LittleLies. -/
import Derived.Test.YtdhicfolchpmhaaLiesB
import Derived.Test.YtdhicfolchpmhaaLawS
import Derived.Test.YtdhicfolchpmhaaKitD
namespace Go.Proofs.Ytdhicfolchpmhaa
open Go.RowKit
set_option linter.unusedVariables false
set_option linter.unusedSimpArgs false

theorem once {G : Prop} (F : Value → World → Prop) {X : Value → World → Prop} (h1 : (∀ v w, F v w → X v w) → G) (h2 : ∀ v w, F v w → X v w) : G := h1 h2

set_option maxHeartbeats 1000000 in
theorem lies_walk (w : World) (first : Int) (wf : (Lit.int .u32 first).wf = true) (ao : Option Addr) (cap : Nat) (l : List Int) (hi : Ints .u32 w ao l) (hcap : l.length ≤ cap) (hmax : cap ≤ maxLen) (hB : cap ≤ 1048576) :
    Calls Try.prog 9 #[.int .u32 first, .slice ao l.length cap] w fun e w' => e = .returned (.bool true) ∧ Below w.heap.size w w' := by
  have hf := wf_u32.1 wf
  have hI := hid hi
  have hL := hid (lens_of_ints hi)
  have hl : l.length ≤ 1048576 := by omega
  obtain ⟨b, off, hao, hcell⟩ := hi.at
  have hC := hid hcell.out
  have hP := hid (posL_bd first l hf hL.out)
  have hA := hid (posL_all first l)
  have hZ := hid (posL_zero first l)
  clear hi hcell wf hmax hcap
  have hwf : IntKind.u64.wrap first = first := by rw [IntKind.wrap_u64]; omega
  go_enter Try.func9, Try.ntmps9
  go_wp2_with fail
  refine (lives_any _).mono ?_
  rintro e w1 ⟨rfl, hb1⟩
  have hB1 := hid hb1
  have hI1 := hid (hI.out.mono hb1)
  clear hb1
  go_wp2_with fail
  have h31 := lay31 first ao l.length cap l w1 rfl hl hf hI1.out
  refine h31.mono ?_
  clear h31
  rintro e w2 ⟨hcase, hb2⟩
  have hB2 := hid (hB1.out.trans (hb2.mono hB1.out.size))
  clear hb2
  rcases hcase with ⟨hle, v, rfl, ho⟩ | ⟨hgt, rfl⟩
  · have hLe := hid hle
    have hO := hid ho
    obtain ⟨vo, c, hv, hvo⟩ := own_any_shape ho
    have hlc : l.length ≤ c := by
      by_cases h : l.length = 0
      · omega
      · obtain ⟨g', c', hv', _, _, hn, _⟩ := own_shape ho (by omega)
        rw [hv] at hv'
        simp only [Value.slice.injEq] at hv'
        omega
    subst hv
    clear hle ho
    go_wp2_with fail
    clear hwf
    go_loopw [7, 8] (fun p i wr => ∃ k : Nat, k ≤ l.length ∧ p = .int .u64 (posL first l k) ∧ i = .int .i64 k ∧ w2 = wr) (fun _ i _ => l.length - (intOf i).toNat)
    case atStart => exact ⟨0, Nat.zero_le _, by rw [hZ.out], rfl, rfl⟩
    case round =>
      obtain ⟨k, hk, rfl, rfl, rfl⟩ := hrel
      by_cases hlt : k < l.length
      · rcases hao with h0 | rfl
        · omega
        have hx := hL.out.at k hlt
        have hp0 := hP.out k hk
        have hsuc := hid (posL_succ first l k hlt)
        have hc : w2.cell? ⟨b, off + k, none⟩ = some (.int .u32 (l.getD k 0)) := (hB2.out.cell (World.block_lt_of_cell? w _ (hC.out k hlt))).trans (hC.out k hlt)
        obtain ⟨p, hpp⟩ : ∃ p, p = posL first l k := ⟨_, rfl⟩
        obtain ⟨x, hxx⟩ : ∃ x, x = l.getD k 0 := ⟨_, rfl⟩
        rw [← hpp] at hp0 hsuc ⊢
        rw [← hxx] at hc hx hsuc
        clear hpp hxx
        have hw2 : IntKind.u64.wrap x = x := by rw [IntKind.wrap_u64]; omega
        have hw3 : IntKind.u64.wrap (p + x) = p + x := by rw [IntKind.wrap_u64]; omega
        go_wp2_with fail
        go_roundw
        case rel => exact ⟨k + 1, by omega, by rw [hsuc.out], by go_num, trivial⟩
        case measure => simp [intOf]; omega
      · obtain rfl : k = l.length := by omega
        rw [hA.out]
        have hle := hLe.out
        have htot : 0 ≤ first + tot l := by have := (hP.out l.length (Nat.le_refl _)).1; rw [hA.out] at this; exact this
        have hcells := hid (fun i (hi : i < l.length) (g : Nat) (hg : vo = some ⟨g, 0, none⟩) => by
          have h1 := hO.out
          rw [hg] at h1
          have h2 := pairsV_get (spanF first l) (spanG l) l.length i hi
          exact And.intro ((h1.cellAt (i * 2) (by omega)).trans h2.1) ((h1.cellAt (i * 2 + 1) (by omega)).trans h2.2))
        have hmono := hid (fun i (hi : i < l.length) => show posL first l i + l.getD i 0 ≤ posL first l l.length from by rw [← posL_succ first l i hi]; exact posL_mono first l hL.out l.length (i + 1) (by omega) (Nat.le_refl _))
        rw [hA.out] at hmono
        have hpb := hid (fun i (hi : i < l.length) => And.intro (hP.out i (by omega)).1 (Int.le_trans (posL_mono first l hL.out l.length i (by omega) (Nat.le_refl _)) (by rw [hA.out]; exact hLe.out)))
        have hS := hid (posL_succ first l)
        have hMo := hid (posL_mono first l hL.out)
        obtain ⟨S, hS0⟩ : ∃ S, S = first + tot l := ⟨_, rfl⟩
        rw [← hS0] at hle htot hmono ⊢
        clear hS0
        have hw : IntKind.u32.wrap S = S := by rw [IntKind.wrap_u32]; omega
        have hng : (4294967295 < S) = False := eq_false (by omega)
        have hHle := hid hle
        have hHtot := hid htot
        clear hle htot hLe hP hA hZ
        obtain ⟨g, hg⟩ : ∃ g, l.length = 0 ∨ vo = some ⟨g, 0, none⟩ := by
          rcases hvo with h | ⟨g, h⟩
          · exact ⟨0, .inl h⟩
          · exact ⟨g, .inr h⟩
        have h32 := hid (apart32 vo g l.length c hg (fun i => posL first l i) (fun i => l.getD i 0) w2 hl hlc (fun i hi => by
          rcases hg with h0 | h0
          · omega
          · exact hcells.out i hi g h0) (fun i hi => hpb.out i hi) (fun i hi => hL.out.at i hi) (fun i j hj hi => by
          show posL first l j + l.getD j 0 ≤ posL first l i
          rw [← hS.out j (by omega)]
          exact hMo.out i (j + 1) (by omega) (by omega)))
        clear hvo
        go_wp2_with fail
        refine h32.out.mono ?_
        clear h32
        rintro e w3 ⟨rfl, hg3⟩
        have hG3 := hid hg3
        clear hg3
        go_wp2_with fail
        go_loopw [12] (fun i wr => ∃ k : Nat, k ≤ l.length ∧ i = .int .i64 k ∧ w2.grownBy wr none) (fun i _ => l.length - (intOf i).toNat)
        case atStart => exact ⟨0, Nat.zero_le _, rfl, hG3.out⟩
        case round =>
          clear hG3 hk
          obtain ⟨k, hk, rfl, hgr⟩ := hrel
          have hG := hid hgr
          clear hgr
          by_cases hlt2 : k < l.length
          · rcases hao with h0 | rfl
            · omega
            rcases hg with h0 | rfl
            · omega
            have hx := hid (hL.out.at k hlt2)
            have hpk := hid (hpb.out k hlt2)
            have hmk := hid (hmono.out k hlt2)
            have hc0 : wr.cell? ⟨b, off + k, none⟩ = some (.int .u32 (l.getD k 0)) := hG.out.cell ((hB2.out.cell (World.block_lt_of_cell? w _ (hC.out k hlt2))).trans (hC.out k hlt2)) (by simp)
            have hc1 : wr.cell? ⟨g, k * 2, none⟩ = some (.int .u32 (posL first l k)) := hG.out.cell (hcells.out k hlt2 g rfl).1 (by simp)
            have hc2 : wr.cell? ⟨g, k * 2 + 1, none⟩ = some (.int .u32 (l.getD k 0)) := hG.out.cell (hcells.out k hlt2 g rfl).2 (by simp)
            generalize posL first l k = p at *
            generalize l.getD k 0 = x at *
            have hxx : (x != x) = false := bne_self_eq_false x
            have hk0 : (0 : Int) ≤ k := Int.natCast_nonneg k
            have hk1 : (k : Int) < (l.length : Int) := by omega
            have h33 := hid (fun (W : World) (h : wr.grownBy W none ∧ W.cell? ⟨b, off + k, none⟩ = some (.int .u32 x) ∧ W.cell? ⟨g, k * 2, none⟩ = some (.int .u32 p) ∧ W.cell? ⟨g, k * 2 + 1, none⟩ = some (.int .u32 x)) => (show Calls Try.prog 33 #[.agg #[.int .u32 p, .int .u32 x], .int .u32 S] W fun e w' => e = .returned (.bool true) ∧ (wr.grownBy w' none ∧ w'.cell? ⟨b, off + k, none⟩ = some (.int .u32 x) ∧ w'.cell? ⟨g, k * 2, none⟩ = some (.int .u32 p) ∧ w'.cell? ⟨g, k * 2 + 1, none⟩ = some (.int .u32 x)) from (within33 p x S W hpk.out hx.out ⟨hHtot.out, hHle.out⟩).mono (fun e w' h2 => ⟨by rw [h2.1, decide_eq_true hmk.out], grown_trans h.1 h2.2, h2.2.cell h.2.1 (by simp), h2.2.cell h.2.2.1 (by simp), h2.2.cell h.2.2.2 (by simp)⟩)))
            have hd := hid (grownBy_drew' wr none)
            go_wp2_with fail
            refine wp_region_held_drew (S := (fun w' => wr.grownBy w' none ∧ w'.cell? ⟨b, off + k, none⟩ = some (.int .u32 x) ∧ w'.cell? ⟨g, k * 2, none⟩ = some (.int .u32 p) ∧ w'.cell? ⟨g, k * 2 + 1, none⟩ = some (.int .u32 x))) (by kernel_rfl) ⟨hd.out, by simpa using hc0, by simpa using hc1, by simpa using hc2⟩ (fun hHeld => ?_)
            refine wpAnyH_take (i := 0) (v := ?_) (by simp only [List.getElem?_toArray, List.getElem?_cons_succ, List.getElem?_cons_zero]; rfl) (by kernel_rfl) (by kernel_rfl) (by kernel_rfl) (by intro _ _ _ h; exact h) (Or.inl ⟨by rfl, ?_⟩) (by assumption) ?_
            rotate_left
            · intro w' hSw; (try dsimp only at hSw); go_simp; (try with_reducible rfl)
            try simp only [Act.put, List.setIfInBounds_toArray, List.set_cons_zero, List.set_cons_succ]
            refine wpAnyH_take (i := 1) (v := ?_) (by simp only [List.getElem?_toArray, List.getElem?_cons_succ, List.getElem?_cons_zero]; rfl) (by kernel_rfl) (by kernel_rfl) (by kernel_rfl) (by intro _ _ _ h; exact h) (Or.inl ⟨by rfl, ?_⟩) (by assumption) ?_
            rotate_left
            · intro w' hSw; (try dsimp only at hSw); go_simp; (try with_reducible rfl)
            try simp only [Act.put, List.setIfInBounds_toArray, List.set_cons_zero, List.set_cons_succ]
            refine wpAnyH_take (i := 2) (v := ?_) (by simp only [List.getElem?_toArray, List.getElem?_cons_succ, List.getElem?_cons_zero]; rfl) (by kernel_rfl) (by kernel_rfl) (by kernel_rfl) (by intro _ _ _ h; exact h) (Or.inl ⟨by rfl, ?_⟩) (by assumption) ?_
            rotate_left
            · intro w' hSw; (try dsimp only at hSw); go_simp; (try with_reducible rfl)
            try simp only [Act.put, List.setIfInBounds_toArray, List.set_cons_zero, List.set_cons_succ]
            refine wpAnyH_take (i := 3) (v := ?_) (by simp only [List.getElem?_toArray, List.getElem?_cons_succ, List.getElem?_cons_zero]; rfl) (by kernel_rfl) (by kernel_rfl) (by kernel_rfl) (by intro _ _ _ h; exact h) (Or.inl ⟨by rfl, ?_⟩) (by assumption) ?_
            rotate_left
            · intro w' hSw; (try dsimp only at hSw); go_simp; (try with_reducible rfl)
            try simp only [Act.put, List.setIfInBounds_toArray, List.set_cons_zero, List.set_cons_succ]
            refine wpAnyH_take (i := 4) (v := ?_) (by simp only [List.getElem?_toArray, List.getElem?_cons_succ, List.getElem?_cons_zero]; rfl) (by kernel_rfl) (by kernel_rfl) (by kernel_rfl) (by intro _ _ _ h; exact h) (Or.inl ⟨by rfl, ?_⟩) (by assumption) ?_
            rotate_left
            · intro w' hSw; (try dsimp only at hSw); go_simp; (try with_reducible rfl)
            try simp only [Act.put, List.setIfInBounds_toArray, List.set_cons_zero, List.set_cons_succ]
            refine wpAnyH_take (i := 5) (v := ?_) (by simp only [List.getElem?_toArray, List.getElem?_cons_succ, List.getElem?_cons_zero]; rfl) (by kernel_rfl) (by kernel_rfl) (by kernel_rfl) (by intro _ _ _ h; exact h) (Or.inl ⟨by rfl, ?_⟩) (by assumption) ?_
            rotate_left
            · intro w' hSw; (try dsimp only at hSw); go_simp; (try with_reducible rfl)
            try simp only [Act.put, List.setIfInBounds_toArray, List.set_cons_zero, List.set_cons_succ]
            refine wpAnyH_take (i := 6) (v := ?_) (by simp only [List.getElem?_toArray, List.getElem?_cons_succ, List.getElem?_cons_zero]; rfl) (by kernel_rfl) (by kernel_rfl) (by kernel_rfl) (by intro _ _ _ h; exact h) (Or.inl ⟨by rfl, ?_⟩) (by assumption) ?_
            rotate_left
            · intro w' hSw; (try dsimp only at hSw); go_simp; (try with_reducible rfl)
            try simp only [Act.put, List.setIfInBounds_toArray, List.set_cons_zero, List.set_cons_succ]
            refine wpAnyH_take (i := 7) (v := ?_) (by simp only [List.getElem?_toArray, List.getElem?_cons_succ, List.getElem?_cons_zero]; rfl) (by kernel_rfl) (by kernel_rfl) (by kernel_rfl) (by intro _ _ _ h; exact h) (Or.inl ⟨by rfl, ?_⟩) (by assumption) ?_
            rotate_left
            · intro w' hSw; (try dsimp only at hSw); go_simp; (try with_reducible rfl)
            try simp only [Act.put, List.setIfInBounds_toArray, List.set_cons_zero, List.set_cons_succ]
            refine wpAnyH_take (i := 8) (v := ?_) (by simp only [List.getElem?_toArray, List.getElem?_cons_succ, List.getElem?_cons_zero]; rfl) (by kernel_rfl) (by kernel_rfl) (by kernel_rfl) (by intro _ _ _ h; exact h) (Or.inl ⟨by rfl, ?_⟩) (by assumption) ?_
            rotate_left
            · intro w' hSw; (try dsimp only at hSw); go_simp; (try with_reducible rfl)
            try simp only [Act.put, List.setIfInBounds_toArray, List.set_cons_zero, List.set_cons_succ]
            refine wpAnyH_take (i := 9) (v := ?_) (by simp only [List.getElem?_toArray, List.getElem?_cons_succ, List.getElem?_cons_zero]; rfl) (by kernel_rfl) (by kernel_rfl) (by kernel_rfl) (by intro _ _ _ h; exact h) (Or.inl ⟨by rfl, ?_⟩) (by assumption) ?_
            rotate_left
            · intro w' hSw; (try dsimp only at hSw); go_simp; (try with_reducible rfl)
            try simp only [Act.put, List.setIfInBounds_toArray, List.set_cons_zero, List.set_cons_succ]
            refine wpAnyH_take (i := 10) (v := ?_) (by simp only [List.getElem?_toArray, List.getElem?_cons_succ, List.getElem?_cons_zero]; rfl) (by kernel_rfl) (by kernel_rfl) (by kernel_rfl) (by intro _ _ _ h; exact h) (Or.inl ⟨by rfl, ?_⟩) (by assumption) ?_
            rotate_left
            · intro w' hSw; (try dsimp only at hSw); go_simp; (try with_reducible rfl)
            try simp only [Act.put, List.setIfInBounds_toArray, List.set_cons_zero, List.set_cons_succ]
            refine wpAnyH_take (i := 11) (v := ?_) (by simp only [List.getElem?_toArray, List.getElem?_cons_succ, List.getElem?_cons_zero]; rfl) (by kernel_rfl) (by kernel_rfl) (by kernel_rfl) (by intro _ _ _ h; exact h) (Or.inl ⟨by rfl, ?_⟩) (by assumption) ?_
            rotate_left
            · intro w' hSw; (try dsimp only at hSw); go_simp; (try with_reducible rfl)
            try simp only [Act.put, List.setIfInBounds_toArray, List.set_cons_zero, List.set_cons_succ]
            refine wpAnyH_take (i := 12) (v := ?_) (by simp only [List.getElem?_toArray, List.getElem?_cons_succ, List.getElem?_cons_zero]; rfl) (by kernel_rfl) (by kernel_rfl) (by kernel_rfl) (by intro _ _ _ h; exact h) (Or.inl ⟨by rfl, ?_⟩) (by assumption) ?_
            rotate_left
            · intro w' hSw; (try dsimp only at hSw); go_simp; (try with_reducible rfl)
            try simp only [Act.put, List.setIfInBounds_toArray, List.set_cons_zero, List.set_cons_succ]
            refine wpAnyH_take (i := 13) (v := ?_) (by simp only [List.getElem?_toArray, List.getElem?_cons_succ, List.getElem?_cons_zero]; rfl) (by kernel_rfl) (by kernel_rfl) (by kernel_rfl) (by intro _ _ _ h; exact h) (Or.inl ⟨by rfl, ?_⟩) (by assumption) ?_
            rotate_left
            · intro w' hSw; (try dsimp only at hSw); go_simp; (try with_reducible rfl)
            try simp only [Act.put, List.setIfInBounds_toArray, List.set_cons_zero, List.set_cons_succ]
            refine wpAnyH_take (i := 14) (v := ?_) (by simp only [List.getElem?_toArray, List.getElem?_cons_succ, List.getElem?_cons_zero]; rfl) (by kernel_rfl) (by kernel_rfl) (by kernel_rfl) (by intro _ _ _ h; exact h) (Or.inl ⟨by rfl, ?_⟩) (by assumption) ?_
            rotate_left
            · intro w' hSw; (try dsimp only at hSw); go_simp; (try with_reducible rfl)
            try simp only [Act.put, List.setIfInBounds_toArray, List.set_cons_zero, List.set_cons_succ]
            refine wpAnyH_take (i := 15) (v := ?_) (by simp only [List.getElem?_toArray, List.getElem?_cons_succ, List.getElem?_cons_zero]; rfl) (by kernel_rfl) (by kernel_rfl) (by kernel_rfl) (by intro _ _ _ h; exact h) (Or.inl ⟨by rfl, ?_⟩) (by assumption) ?_
            rotate_left
            · intro w' hSw; (try dsimp only at hSw); go_simp; (try with_reducible rfl)
            try simp only [Act.put, List.setIfInBounds_toArray, List.set_cons_zero, List.set_cons_succ]
            refine wpAnyH_take (i := 16) (v := ?_) (by simp only [List.getElem?_toArray, List.getElem?_cons_succ, List.getElem?_cons_zero]; rfl) (by kernel_rfl) (by kernel_rfl) (by kernel_rfl) (by intro _ _ _ h; exact h) (Or.inl ⟨by rfl, ?_⟩) (by assumption) ?_
            rotate_left
            · intro w' hSw; (try dsimp only at hSw); go_simp; (try with_reducible rfl)
            try simp only [Act.put, List.setIfInBounds_toArray, List.set_cons_zero, List.set_cons_succ]
            refine wpAnyH_ready (rs := [17]) (by kernel_rfl) (by simp) ?_
            refine AllReadyH.cons (by simp only [List.getElem?_toArray, List.getElem?_cons_succ, List.getElem?_cons_zero]; rfl) (fun K hK => ?_) AllReadyH.nil
            go_simp
            go_at_call 33
            refine (h33.out _ hHeld).mono ?_
            rintro e w2 ⟨rfl, hk⟩
            clear hHeld
            go_wp2_with fail
            refine hK.out _ _ hk (fun hHeld => ?_)
            clear hK K hk
            try simp only [Act.put, List.setIfInBounds_toArray, List.set_cons_zero, List.set_cons_succ]
            refine wpAnyH_take (i := 18) (v := ?_) (by simp only [List.getElem?_toArray, List.getElem?_cons_succ, List.getElem?_cons_zero]; rfl) (by kernel_rfl) (by kernel_rfl) (by kernel_rfl) (by intro _ _ _ h; exact h) (Or.inl ⟨by rfl, ?_⟩) (by assumption) ?_
            rotate_left
            · intro w' hSw; (try dsimp only at hSw); go_simp; (try with_reducible rfl)
            try simp only [Act.put, List.setIfInBounds_toArray, List.set_cons_zero, List.set_cons_succ]
            refine wpAnyH_take (i := 19) (v := ?_) (by simp only [List.getElem?_toArray, List.getElem?_cons_succ, List.getElem?_cons_zero]; rfl) (by kernel_rfl) (by kernel_rfl) (by kernel_rfl) (by intro _ _ _ h; exact h) (Or.inl ⟨by rfl, ?_⟩) (by assumption) ?_
            rotate_left
            · intro w' hSw; (try dsimp only at hSw); go_simp; (try with_reducible rfl)
            try simp only [Act.put, List.setIfInBounds_toArray, List.set_cons_zero, List.set_cons_succ]
            refine wpAnyH_done (by kernel_rfl) ?_ _
            have hg5 := hHeld.1
            clear hHeld
            have hG5 := hid (grown_trans hG.out hg5)
            clear hg5
            go_wp2_with fail
            go_roundw
            case rel => exact ⟨k + 1, by omega, by go_num, hG5.out⟩
            case measure => simp [intOf]; omega
          · go_wp2_with fail
            go_ret
            exact ⟨rfl, hB2.out.grown hG.out hB2.out.size (fun q hq => by simp at hq)⟩
  · have hGt := hid hgt
    clear hgt
    go_wp2_with fail
    clear hwf
    go_loopw [7, 8] (fun p i wr => ∃ k : Nat, k ≤ l.length ∧ p = .int .u64 (posL first l k) ∧ i = .int .i64 k ∧ w2 = wr) (fun _ i _ => l.length - (intOf i).toNat)
    case atStart => exact ⟨0, Nat.zero_le _, by rw [hZ.out], rfl, rfl⟩
    case round =>
      obtain ⟨k, hk, rfl, rfl, rfl⟩ := hrel
      by_cases hlt : k < l.length
      · rcases hao with h0 | rfl
        · omega
        have hx := hL.out.at k hlt
        have hp0 := hP.out k hk
        have hsuc := hid (posL_succ first l k hlt)
        have hc : w2.cell? ⟨b, off + k, none⟩ = some (.int .u32 (l.getD k 0)) := (hB2.out.cell (World.block_lt_of_cell? w _ (hC.out k hlt))).trans (hC.out k hlt)
        obtain ⟨p, hpp⟩ : ∃ p, p = posL first l k := ⟨_, rfl⟩
        obtain ⟨x, hxx⟩ : ∃ x, x = l.getD k 0 := ⟨_, rfl⟩
        rw [← hpp] at hp0 hsuc ⊢
        rw [← hxx] at hc hx hsuc
        clear hpp hxx
        have hw2 : IntKind.u64.wrap x = x := by rw [IntKind.wrap_u64]; omega
        have hw3 : IntKind.u64.wrap (p + x) = p + x := by rw [IntKind.wrap_u64]; omega
        go_wp2_with fail
        go_roundw
        case rel => exact ⟨k + 1, by omega, by rw [hsuc.out], by go_num, trivial⟩
        case measure => simp [intOf]; omega
      · obtain rfl : k = l.length := by omega
        rw [hA.out]
        have hgt := hGt.out
        obtain ⟨S, hS0⟩ : ∃ S, S = first + tot l := ⟨_, rfl⟩
        rw [← hS0] at hgt ⊢
        clear hS0
        have hng : (4294967295 < S) = True := eq_true (by omega)
        clear hgt
        go_wp2_with fail
        go_ret
        exact ⟨rfl, hB2.out⟩

end Go.Proofs.Ytdhicfolchpmhaa
