/- Walks: LittleRuns. -/
import Derived.OwnWalk
import Derived.Test.YtdhicfolchpmhaaRunM
import Derived.Test.YtdhicfolchpmhaaRunU
import Derived.Test.YtdhicfolchpmhaaRunC
namespace Go.Proofs.Ytdhicfolchpmhaa
open Go.RowKit
set_option linter.unusedVariables false
set_option linter.unusedSimpArgs false

theorem sum_take (rows : List RunRow) (k : Nat) (h : k < rows.length) : ((rows.take (k + 1)).map (fun r => r.to_.length)).sum = ((rows.take k).map (fun r => r.to_.length)).sum + rows[k].to_.length := by
  rw [List.take_add_one, List.getElem?_eq_getElem h, List.map_append, List.sum_append]
  simp only [Option.toList_some, List.map_cons, List.map_nil, List.sum_cons, List.sum_nil]
  omega
theorem runs_okW {x y : List Int} {R : List RunW} (hm : R.map RunW.two = runsL x y) (hxy : x.length = y.length) (hl : x.length ≤ 100000000) (hy : Byt y) : okW R := by
  obtain ⟨a, b, c⟩ := runsL_facts hm hxy hl hy
  exact ⟨a, b, c⟩
theorem runs_le {x y : List Int} {R : List RunW} (hm : R.map RunW.two = runsL x y) : R.length ≤ x.length := by
  have h1 := congrArg List.length hm
  have h2 := runsD_len (fun i => x.getD i 0) (fun i => y.getD i 0) x.length
  rw [List.length_map] at h1
  unfold runsL at h1
  omega
theorem rnL_nil (w : World) (B : Nat) : Sep w B (rnL (.slice none 0 0) []) := ⟨fun i hi => by
  obtain rfl : i = 0 := by simpa [rnL] using hi
  exact World.ownsRow_nil w B 104 2, fun i j hi hj hij => by simp [rnL] at hi hj; omega⟩
theorem zl_llen (S : List RT) : (ZL S).length = 2 * S.length := by
  induction S with
  | nil => rfl
  | cons t S ih =>
    unfold ZL at ih ⊢
    simp only [List.flatMap_cons, List.length_append, ih, List.length_cons, List.length_nil]; omega
theorem take_flat {α : Type} (L : List (List α)) (i : Nat) (x : List α) (h : L[i]? = some x) : (L.take i).flatten.length + x.length ≤ L.flatten.length := by
  have h1 := List.take_append_drop (i + 1) L
  have h2 := congrArg (fun l => l.flatten.length) h1
  simp only [List.flatten_append, List.length_append] at h2
  rw [List.take_add_one, h] at h2
  simp only [List.flatten_append, List.length_append, Option.toList_some, List.flatten_cons, List.flatten_nil, List.append_nil] at h2
  omega
theorem rows_nil (w : World) (B : Nat) : Sep w B (RT.rows ⟨.slice none 0 0, .slice none 0 0, .slice none 0 0, [], [], []⟩) := ⟨fun i hi => by
  match i, hi with
  | 0, _ => exact World.ownsRow_nil w B 104 2
  | 1, _ => exact World.ownsRow_nil w B 104 2
  | 2, _ => exact World.ownsRow_nil w B 104 2, fun i j hi hj hij => .inl (by
  match i, hi with
  | 0, _ => rfl
  | 1, _ => rfl
  | 2, _ => rfl)⟩
theorem own_row_from {w : World} {B : Nat} {vl vm vc vp : Value} {S : List RT} {T : List Trip} {r r2 : RowS} (h : St w B vl vm S vc vp T [r, r2]) : w.ownsRow B r.e r.size r.v r.n r.xs := (Sep.pair.1 h.sep).1 r (by simp)
theorem Sep.rows3 {w0 w1 w : World} {B C D : Nat} {L3 L1 L2 : List RowS} (h3 : Sep w0 B L3) (h31 : Sep w1 B L3) (h3w : Sep w B L3) (h1 : Sep w1 C L1) (h1w : Sep w C L1) (h2 : Sep w D L2) (hC : w0.heap.size ≤ C) (hBC : B ≤ C) (hD : w1.heap.size ≤ D) (hBD : B ≤ D) : Sep w B (L3 ++ L1 ++ L2) := by
  have a : Sep w1 B (L3 ++ L1) := Sep.join h3 h31 h1 hC hBC
  have b : Sep w B (L3 ++ L1) := Sep.join h3 h3w h1w hC hBC
  exact Sep.join a b h2 hD hBD

set_option maxHeartbeats 4000000 in
set_option maxRecDepth 100000 in
theorem runs_walk (w : World) (b off len cap : Nat) (rows : List RunRow) (hlen : len = rows.length) (hbig : len ≤ 1048576) (hr : ∀ i, (h : i < rows.length) → (rows[i]).Cells w b (off + i * 4) ∧ (rows[i]).Lies w) (hsum : (rows.map (fun r => r.to_.length)).sum ≤ 1048576) :
    Calls Try.prog 12 #[.slice (some ⟨b, off, none⟩) len cap] w fun e w' => e = .returned (.bool true) ∧ Below w.heap.size w w' := by
  subst hlen
  have hR := hid hr
  have hSu := hid hsum
  have hST := hid (sum_take rows)
  clear hr hsum
  go_enter Try.func12, Try.ntmps12
  go_wp2_with fail
  refine (lives_any _).mono ?_
  rintro e w1 ⟨rfl, hb1⟩
  have hB1 := hid hb1
  clear hb1
  go_wp2_with fail
  go_loopw [3, 4, 5, 6, 7] (fun x1 x2 x3 x4 i wr => ∃ (S : List RT) (T : List Trip) (k : Nat) (vc vp vl vm : Value), vc = x1 ∧ vp = x2 ∧ vl = x3 ∧ vm = x4 ∧ i = .int .i64 k ∧ k ≤ rows.length ∧ S.length ≤ k ∧ T.length ≤ k ∧ (S = [] → vl = .slice none 0 0) ∧ (T = [] → vc = .slice none 0 0) ∧ (S.map (fun t => t.R1.length)).sum ≤ ((rows.take k).map (fun r => r.to_.length)).sum ∧ St wr w.heap.size vl vm S vc vp T [] ∧ Below w.heap.size w wr) (fun _ _ _ _ i _ => rows.length - (intOf i).toNat)
  case atStart => exact ⟨[], [], 0, _, _, _, _, rfl, rfl, rfl, rfl, rfl, Nat.zero_le _, Nat.le_refl _, Nat.le_refl _, fun _ => rfl, fun _ => rfl, by simp, St.start w1 _, hB1.out⟩
  case round =>
    clear hB1
    obtain ⟨S, T, k, vc, vp, vl, vm, rfl, rfl, rfl, rfl, rfl, hk, hSk, hTk, hS0, hT0, hsm, hh, hb⟩ := hrel
    have hH := hid hh
    have hB := hid hb
    have hS := hid hS0
    have hT := hid hT0
    have hSl := hid hSk
    have hTl := hid hTk
    have hSm := hid hsm
    clear hh hb hS0 hT0 hSk hTk hsm
    by_cases hlt : k < rows.length
    · have hrc := hid ((hR.out k hlt).1.mono hB.out)
      have hrl := hid ((hR.out k hlt).2.mono hB.out)
      have hr0 := hid ((hR.out k hlt).2)
      have hSk := hid (hST.out k hlt)
      generalize hrk : rows[k] = r at *
      clear hrk
      obtain ⟨mend, fo, fc, from_, to, tc, to_, ro, rc, R⟩ := r
      have g0 : wr.cell? ⟨b, off + k * 4, none⟩ = some (.bool mend) := hrc.out.c0
      have g1 : wr.cell? ⟨b, off + k * 4 + 1, none⟩ = some (.slice fo from_.length fc) := hrc.out.c1
      have g2 : wr.cell? ⟨b, off + k * 4 + 2, none⟩ = some (.slice to to_.length tc) := hrc.out.c2
      have g3 : wr.cell? ⟨b, off + k * 4 + 3, none⟩ = some (.slice ro R.length rc) := hrc.out.c3
      obtain ⟨wa, hwa⟩ : ∃ wa, wa = wr.alloc (.cells #[.bool mend, .slice fo from_.length fc, .slice to to_.length tc, .slice ro R.length rc] 92) := ⟨_, rfl⟩
      have hCa : Hid (RunRow.Cells wa wr.heap.size 0 ⟨mend, fo, fc, from_, to, tc, to_, ro, rc, R⟩) := by
        subst hwa
        exact ⟨by simp, by simp, by simp, by simp⟩
      have hba : Below wr.heap.size wr wa := hwa ▸ (Below.refl _ _).alloc (Nat.le_refl _) _
      have hLa := hid (hrl.out.mono hba)
      have hHa := hid (hH.out.below hba)
      have hBa := hid (hB.out.trans (hba.mono hB.out.size))
      have hla := hid (show wr.heap.size < wa.heap.size from World.block_lt_of_cell? wa _ hCa.out.c0)
      clear hba hrc hrl
      obtain ⟨ob, hob⟩ : ∃ ob, ob = wr.heap.size := ⟨_, rfl⟩
      rw [← hob] at hCa hla
      have hOb := hid hob
      go_wp2_with fail
      rw [← hwa, ← hob]
      clear hwa hob g0 g1 g2 g3
      have hnf : from_.length ≤ 1048576 := hLa.out.nf
      have hnt : to_.length ≤ 1048576 := hLa.out.nt
      have hnr : R.length ≤ 1048576 := hLa.out.nr
      have h18 := lent_any fo from_.length fc from_ wa rfl (by omega) hLa.out.hf
      refine h18.mono ?_
      clear h18
      rintro e w3 ⟨v3, rfl, ho3, hb3⟩
      obtain ⟨g, c8, hv3, -, -, hnc, -⟩ := own_shape ho3 (by omega)
      subst hv3
      obtain ⟨cg, hcg⟩ : ∃ cg, cg = c8 := ⟨_, rfl⟩
      subst hcg
      have hC3 := hid (hCa.out.mono hb3)
      have hL3 := hid (hLa.out.mono hb3)
      have hH3 : Hid (St w3 w.heap.size vl vm S vc vp T [⟨.slice (some ⟨g, 0, none⟩) (from_.length + 64) cg, 5, 1, from_.length + 64, (lentL from_).map (Value.int .u8)⟩]) := hHa.out.lent hb3 _ ho3 hBa.out.size
      have hB3 := hid (hBa.out.trans (hb3.mono hBa.out.size))
      have hEf : Hid (∀ W, W.ownsRow w.heap.size 5 1 (.slice (some ⟨g, 0, none⟩) (from_.length + 64) cg) (from_.length + 64) ((lentL from_).map (Value.int .u8)) → Ints .u8 W (some ⟨g, 0, none⟩) (lentL from_) ∧ Ints .u8 W (some ⟨g, 0, none⟩) from_) := fun W hW => by
        obtain ⟨ao', c', hv, hI, -⟩ := ints_of_own hW (fun x hx => by
          rcases List.mem_append.1 hx with h1 | h1
          · exact hL3.out.hf.wf x h1
          · obtain ⟨i, _, rfl⟩ := List.mem_map.1 h1
            exact wf_u8.2 (markB_bd _ _))
        simp only [Value.slice.injEq] at hv
        obtain ⟨rfl, -, -⟩ := hv
        have := hI.take from_.length
        unfold lentL at this
        rw [List.take_left] at this
        exact ⟨hI, this⟩
      have hs3 := hid (Nat.lt_of_lt_of_le hla.out hb3.size)
      clear ho3 hb3
      have hx1 : (0 : Int) ≤ (from_.length : Int) := by omega
      have hx2 : (from_.length : Int) ≤ (cg : Int) := by omega
      have q0 : w3.cell? ⟨ob, 0, none⟩ = some (.bool mend) := by simpa using hC3.out.c0
      cases mend
      · by_cases heq : from_.length = to_.length
        · skip
          have hEq := hid heq
          clear heq
          have q2 : w3.cell? ⟨ob, 2, none⟩ = some (.slice to to_.length tc) := by simpa using hC3.out.c2
          go_wp2_with fail
          have h18 := lent_any to to_.length tc to_ w3 rfl (by omega) hL3.out.ht
          refine h18.mono ?_
          clear h18 q0 q2
          rintro e w4 ⟨v4, rfl, ho4, hb4⟩
          obtain ⟨h, ch, hv4, -, -, hnh, -⟩ := own_shape ho4 (by omega)
          subst hv4
          have hC4 := hid (hC3.out.mono hb4)
          have hL4 := hid (hL3.out.mono hb4)
          have hH4 : Hid (St w4 w.heap.size vl vm S vc vp T [⟨.slice (some ⟨g, 0, none⟩) (from_.length + 64) cg, 5, 1, from_.length + 64, (lentL from_).map (Value.int .u8)⟩, ⟨.slice (some ⟨h, 0, none⟩) (to_.length + 64) ch, 5, 1, to_.length + 64, (lentL to_).map (Value.int .u8)⟩]) := hH3.out.lent hb4 _ ho4 hB3.out.size
          have hB4 := hid (hB3.out.trans (hb4.mono hB3.out.size))
          have hs4 := hid (hb4.size)
          have hEt : Hid (∀ W, W.ownsRow w.heap.size 5 1 (.slice (some ⟨h, 0, none⟩) (to_.length + 64) ch) (to_.length + 64) ((lentL to_).map (Value.int .u8)) → Ints .u8 W (some ⟨h, 0, none⟩) (lentL to_) ∧ Ints .u8 W (some ⟨h, 0, none⟩) to_) := fun W hW => by
            obtain ⟨ao', c', hv, hI, -⟩ := ints_of_own hW (fun x hx => by
              rcases List.mem_append.1 hx with h1 | h1
              · exact hL4.out.ht.wf x h1
              · obtain ⟨i, _, rfl⟩ := List.mem_map.1 h1
                exact wf_u8.2 (markB_bd _ _))
            simp only [Value.slice.injEq] at hv
            obtain ⟨rfl, -, -⟩ := hv
            have := hI.take to_.length
            unfold lentL at this
            rw [List.take_left] at this
            exact ⟨hI, this⟩
          have hHb := hid (show some ob ≠ some h from fun e => by have h1 := (ho4.lt h rfl).1; have h2 := hs3.out; simp only [Option.some.injEq] at e; omega)
          clear ho4 hb4
          have hy1 : (0 : Int) ≤ (to_.length : Int) := by omega
          have hy2 : (to_.length : Int) ≤ (ch : Int) := by omega
          have q1 : w4.cell? ⟨ob, 1, none⟩ = some (.slice fo from_.length fc) := by simpa using hC4.out.c1
          have q2 : w4.cell? ⟨ob, 2, none⟩ = some (.slice to to_.length tc) := by simpa using hC4.out.c2
          go_wp2_with fail
          have h54 := runs54 fo to from_.length fc tc from_ to_ w4 rfl hEq.out (by omega) hL4.out.hf hL4.out.ht
          rw [show Value.slice to from_.length tc = .slice to to_.length tc by rw [hEq.out]] at h54
          refine h54.mono ?_
          clear h54 q1 q2
          rintro e w5 ⟨v5, R5, rfl, hn5, hm5, hb5⟩
          have hN5 := hid hn5
          have hM5 := hid hm5
          clear hn5 hm5
          have hC5 := hid (hC4.out.mono hb5)
          have hL5 := hid (hL4.out.mono hb5)
          have hH5 := hid (hH4.out.below hb5)
          have hB5 := hid (hB4.out.trans (hb5.mono hB4.out.size))
          have hs5 := hid (hb5.size)
          clear hb5
          go_wp2_with fail
          have hS0 : Hid (w5.drew.cell? ⟨ob, 1, none⟩ = some (.slice fo from_.length fc) ∧ w5.drew.cell? ⟨ob, 2, none⟩ = some (.slice to to_.length tc)) := ⟨by simpa using hC5.out.c1, by simpa using hC5.out.c2⟩
          refine wp_region_held_drew (S := fun W => W.cell? ⟨ob, 1, none⟩ = some (.slice fo from_.length fc) ∧ W.cell? ⟨ob, 2, none⟩ = some (.slice to to_.length tc)) (by kernel_rfl) hS0.out (fun hHeld => ?_)
          refine wpAnyH_take (i := 0) (v := ?_) (by simp only [List.getElem?_toArray, List.getElem?_cons_succ, List.getElem?_cons_zero]; rfl) (by kernel_rfl) (by kernel_rfl) (by kernel_rfl) (by intro _ _ _ h; exact h) (Or.inl ⟨by rfl, ?_⟩) (by assumption) ?_
          rotate_left
          · intro w' hSw; (try dsimp only at hSw); go_simp; (try with_reducible rfl)
          try simp only [Act.put, List.setIfInBounds_toArray, List.set_cons_zero, List.set_cons_succ]
          refine wpAnyH_take (i := 1) (v := ?_) (by simp only [List.getElem?_toArray, List.getElem?_cons_succ, List.getElem?_cons_zero]; rfl) (by kernel_rfl) (by kernel_rfl) (by kernel_rfl) (by intro _ _ _ h; exact h) (Or.inl ⟨by rfl, ?_⟩) (by assumption) ?_
          rotate_left
          · intro w' hSw; (try dsimp only at hSw); go_simp; (try with_reducible rfl)
          try simp only [Act.put, List.setIfInBounds_toArray, List.set_cons_zero, List.set_cons_succ]
          refine wpAnyH_take (i := 2) (v := ?_) (by simp only [List.getElem?_toArray, List.getElem?_cons_succ, List.getElem?_cons_zero]; rfl) (by kernel_rfl) (by kernel_rfl) (by kernel_rfl) (by intro _ _ _ h; exact h) (Or.inl ⟨by rfl, ?_⟩) (by assumption) ?_
          rotate_left
          · intro w' hSw; (try dsimp only at hSw); go_simp; (try with_reducible rfl)
          try simp only [Act.put, List.setIfInBounds_toArray, List.set_cons_zero, List.set_cons_succ]
          refine wpAnyH_take (i := 3) (v := ?_) (by simp only [List.getElem?_toArray, List.getElem?_cons_succ, List.getElem?_cons_zero]; rfl) (by kernel_rfl) (by kernel_rfl) (by kernel_rfl) (by intro _ _ _ h; exact h) (Or.inl ⟨by rfl, ?_⟩) (by assumption) ?_
          rotate_left
          · intro w' hSw; (try dsimp only at hSw); go_simp; (try with_reducible rfl)
          try simp only [Act.put, List.setIfInBounds_toArray, List.set_cons_zero, List.set_cons_succ]
          refine wpAnyH_take (i := 4) (v := ?_) (by simp only [List.getElem?_toArray, List.getElem?_cons_succ, List.getElem?_cons_zero]; rfl) (by kernel_rfl) (by kernel_rfl) (by kernel_rfl) (by intro _ _ _ h; exact h) (Or.inl ⟨by rfl, ?_⟩) (by assumption) ?_
          rotate_left
          · intro w' hSw; (try dsimp only at hSw); go_simp; (try with_reducible rfl)
          try simp only [Act.put, List.setIfInBounds_toArray, List.set_cons_zero, List.set_cons_succ]
          refine wpAnyH_take (i := 5) (v := ?_) (by simp only [List.getElem?_toArray, List.getElem?_cons_succ, List.getElem?_cons_zero]; rfl) (by kernel_rfl) (by kernel_rfl) (by kernel_rfl) (by intro _ _ _ h; exact h) (Or.inl ⟨by rfl, ?_⟩) (by assumption) ?_
          rotate_left
          · intro w' hSw; (try dsimp only at hSw); go_simp; (try with_reducible rfl)
          try simp only [Act.put, List.setIfInBounds_toArray, List.set_cons_zero, List.set_cons_succ]
          refine wpAnyH_take (i := 6) (v := ?_) (by simp only [List.getElem?_toArray, List.getElem?_cons_succ, List.getElem?_cons_zero]; rfl) (by kernel_rfl) (by kernel_rfl) (by kernel_rfl) (by intro _ _ _ h; exact h) (Or.inl ⟨by rfl, ?_⟩) (by assumption) ?_
          rotate_left
          · intro w' hSw; (try dsimp only at hSw); go_simp; (try with_reducible rfl)
          try simp only [Act.put, List.setIfInBounds_toArray, List.set_cons_zero, List.set_cons_succ]
          refine wpAnyH_take (i := 7) (v := ?_) (by simp only [List.getElem?_toArray, List.getElem?_cons_succ, List.getElem?_cons_zero]; rfl) (by kernel_rfl) (by kernel_rfl) (by kernel_rfl) (by intro _ _ _ h; exact h) (Or.inl ⟨by rfl, ?_⟩) (by assumption) ?_
          rotate_left
          · intro w' hSw; (try dsimp only at hSw); go_simp; (try with_reducible rfl)
          try simp only [Act.put, List.setIfInBounds_toArray, List.set_cons_zero, List.set_cons_succ]
          refine wpAnyH_take (i := 8) (v := ?_) (by simp only [List.getElem?_toArray, List.getElem?_cons_succ, List.getElem?_cons_zero]; rfl) (by kernel_rfl) (by kernel_rfl) (by kernel_rfl) (by intro _ _ _ h; exact h) (Or.inl ⟨by rfl, ?_⟩) (by assumption) ?_
          rotate_left
          · intro w' hSw; (try dsimp only at hSw); go_simp; (try with_reducible rfl)
          try simp only [Act.put, List.setIfInBounds_toArray, List.set_cons_zero, List.set_cons_succ]
          refine wpAnyH_take (i := 9) (v := ?_) (by simp only [List.getElem?_toArray, List.getElem?_cons_succ, List.getElem?_cons_zero]; rfl) (by kernel_rfl) (by kernel_rfl) (by kernel_rfl) (by intro _ _ _ h; exact h) (Or.inl ⟨by rfl, ?_⟩) (by assumption) ?_
          rotate_left
          · intro w' hSw; (try dsimp only at hSw); go_simp; (try with_reducible rfl)
          try simp only [Act.put, List.setIfInBounds_toArray, List.set_cons_zero, List.set_cons_succ]
          have hI98 := (hEf.out w5.drew (own_row_from (hH5.out.below (Below.refl _ _).drew))).2
          have hI99 := (hEt.out w5.drew ((hH5.out.below (Below.refl _ _).drew).row (E := [_]))).2
          refine wpAnyH_ready (rs := [10]) (by kernel_rfl) (by simp) ?_
          refine AllReadyH.cons (by simp only [List.getElem?_toArray, List.getElem?_cons_succ, List.getElem?_cons_zero]; rfl) (fun K hK => ?_) AllReadyH.nil
          go_simp
          go_at_call 55
          have h99 := runs55 (some ⟨g, 0, none⟩) (some ⟨h, 0, none⟩) from_.length cg ch from_ to_ w5.drew rfl hEq.out (by omega) hI98 hI99
          rw [show Value.slice (some ⟨h, 0, none⟩) from_.length ch = .slice (some ⟨h, 0, none⟩) to_.length ch by rw [hEq.out]] at h99
          refine h99.mono ?_
          clear h99 hI98 hI99
          rintro e w6 ⟨v6, R6, rfl, hn6, hm6, hb6'⟩
          have hN6 := hid hn6
          have hM6 := hid hm6
          clear hn6 hm6
          have hb6 : Below w5.heap.size w5 w6 := ((Below.refl _ w5).drew).trans hb6'
          clear hb6'
          have hC6 := hid (hC5.out.mono hb6)
          have hL6 := hid (hL5.out.mono hb6)
          have hH6 := hid (hH5.out.below hb6)
          have hB6 := hid (hB5.out.trans (hb6.mono hB5.out.size))
          have hs6 := hid (hb6.size)
          have hN56 := hid (hN5.out.below hb6)
          have hk' : w6.cell? ⟨ob, 1, none⟩ = some (.slice fo from_.length fc) ∧ w6.cell? ⟨ob, 2, none⟩ = some (.slice to to_.length tc) := ⟨by simpa using hC6.out.c1, by simpa using hC6.out.c2⟩
          clear hb6
          clear hHeld hS0
          go_wp2_with fail
          refine hK.out _ _ hk' (fun hHeld => ?_)
          clear hK K hk'
          try simp only [Act.put, List.setIfInBounds_toArray, List.set_cons_zero, List.set_cons_succ]
          refine wpAnyH_take (i := 11) (v := ?_) (by simp only [List.getElem?_toArray, List.getElem?_cons_succ, List.getElem?_cons_zero]; rfl) (by kernel_rfl) (by kernel_rfl) (by kernel_rfl) (by intro _ _ _ h; exact h) (Or.inl ⟨by rfl, ?_⟩) (by assumption) ?_
          rotate_left
          · intro w' hSw; (try dsimp only at hSw); go_simp; (try with_reducible rfl)
          try simp only [Act.put, List.setIfInBounds_toArray, List.set_cons_zero, List.set_cons_succ]
          refine wpAnyH_take (i := 12) (v := ?_) (by simp only [List.getElem?_toArray, List.getElem?_cons_succ, List.getElem?_cons_zero]; rfl) (by kernel_rfl) (by kernel_rfl) (by kernel_rfl) (by intro _ _ _ h; exact h) (Or.inl ⟨by rfl, ?_⟩) (by assumption) ?_
          rotate_left
          · intro w' hSw; (try dsimp only at hSw); go_simp; (try with_reducible rfl)
          try simp only [Act.put, List.setIfInBounds_toArray, List.set_cons_zero, List.set_cons_succ]
          refine wpAnyH_take (i := 13) (v := ?_) (by simp only [List.getElem?_toArray, List.getElem?_cons_succ, List.getElem?_cons_zero]; rfl) (by kernel_rfl) (by kernel_rfl) (by kernel_rfl) (by intro _ _ _ h; exact h) (Or.inl ⟨by rfl, ?_⟩) (by assumption) ?_
          rotate_left
          · intro w' hSw; (try dsimp only at hSw); go_simp; (try with_reducible rfl)
          try simp only [Act.put, List.setIfInBounds_toArray, List.set_cons_zero, List.set_cons_succ]
          refine wpAnyH_take (i := 14) (v := ?_) (by simp only [List.getElem?_toArray, List.getElem?_cons_succ, List.getElem?_cons_zero]; rfl) (by kernel_rfl) (by kernel_rfl) (by kernel_rfl) (by intro _ _ _ h; exact h) (Or.inl ⟨by rfl, ?_⟩) (by assumption) ?_
          rotate_left
          · intro w' hSw; (try dsimp only at hSw); go_simp; (try with_reducible rfl)
          try simp only [Act.put, List.setIfInBounds_toArray, List.set_cons_zero, List.set_cons_succ]
          refine wpAnyH_take (i := 15) (v := ?_) (by simp only [List.getElem?_toArray, List.getElem?_cons_succ, List.getElem?_cons_zero]; rfl) (by kernel_rfl) (by kernel_rfl) (by kernel_rfl) (by intro _ _ _ h; exact h) (Or.inl ⟨by rfl, ?_⟩) (by assumption) ?_
          rotate_left
          · intro w' hSw; (try dsimp only at hSw); go_simp; (try with_reducible rfl)
          try simp only [Act.put, List.setIfInBounds_toArray, List.set_cons_zero, List.set_cons_succ]
          refine wpAnyH_done (by kernel_rfl) ?_ _
          clear hHeld
          go_wp2_with fail
          have hS0 : Hid (w6.drew.cell? ⟨ob, 1, none⟩ = some (.slice fo from_.length fc) ∧ w6.drew.cell? ⟨ob, 2, none⟩ = some (.slice to to_.length tc)) := ⟨by simpa using hC6.out.c1, by simpa using hC6.out.c2⟩
          refine wp_region_held_drew (S := fun W => W.cell? ⟨ob, 1, none⟩ = some (.slice fo from_.length fc) ∧ W.cell? ⟨ob, 2, none⟩ = some (.slice to to_.length tc)) (by kernel_rfl) hS0.out (fun hHeld => ?_)
          refine wpAnyH_take (i := 0) (v := ?_) (by simp only [List.getElem?_toArray, List.getElem?_cons_succ, List.getElem?_cons_zero]; rfl) (by kernel_rfl) (by kernel_rfl) (by kernel_rfl) (by intro _ _ _ h; exact h) (Or.inl ⟨by rfl, ?_⟩) (by assumption) ?_
          rotate_left
          · intro w' hSw; (try dsimp only at hSw); go_simp; (try with_reducible rfl)
          try simp only [Act.put, List.setIfInBounds_toArray, List.set_cons_zero, List.set_cons_succ]
          refine wpAnyH_take (i := 1) (v := ?_) (by simp only [List.getElem?_toArray, List.getElem?_cons_succ, List.getElem?_cons_zero]; rfl) (by kernel_rfl) (by kernel_rfl) (by kernel_rfl) (by intro _ _ _ h; exact h) (Or.inl ⟨by rfl, ?_⟩) (by assumption) ?_
          rotate_left
          · intro w' hSw; (try dsimp only at hSw); go_simp; (try with_reducible rfl)
          try simp only [Act.put, List.setIfInBounds_toArray, List.set_cons_zero, List.set_cons_succ]
          refine wpAnyH_take (i := 2) (v := ?_) (by simp only [List.getElem?_toArray, List.getElem?_cons_succ, List.getElem?_cons_zero]; rfl) (by kernel_rfl) (by kernel_rfl) (by kernel_rfl) (by intro _ _ _ h; exact h) (Or.inl ⟨by rfl, ?_⟩) (by assumption) ?_
          rotate_left
          · intro w' hSw; (try dsimp only at hSw); go_simp; (try with_reducible rfl)
          try simp only [Act.put, List.setIfInBounds_toArray, List.set_cons_zero, List.set_cons_succ]
          refine wpAnyH_take (i := 3) (v := ?_) (by simp only [List.getElem?_toArray, List.getElem?_cons_succ, List.getElem?_cons_zero]; rfl) (by kernel_rfl) (by kernel_rfl) (by kernel_rfl) (by intro _ _ _ h; exact h) (Or.inl ⟨by rfl, ?_⟩) (by assumption) ?_
          rotate_left
          · intro w' hSw; (try dsimp only at hSw); go_simp; (try with_reducible rfl)
          try simp only [Act.put, List.setIfInBounds_toArray, List.set_cons_zero, List.set_cons_succ]
          refine wpAnyH_take (i := 4) (v := ?_) (by simp only [List.getElem?_toArray, List.getElem?_cons_succ, List.getElem?_cons_zero]; rfl) (by kernel_rfl) (by kernel_rfl) (by kernel_rfl) (by intro _ _ _ h; exact h) (Or.inl ⟨by rfl, ?_⟩) (by assumption) ?_
          rotate_left
          · intro w' hSw; (try dsimp only at hSw); go_simp; (try with_reducible rfl)
          try simp only [Act.put, List.setIfInBounds_toArray, List.set_cons_zero, List.set_cons_succ]
          refine wpAnyH_take (i := 5) (v := ?_) (by simp only [List.getElem?_toArray, List.getElem?_cons_succ, List.getElem?_cons_zero]; rfl) (by kernel_rfl) (by kernel_rfl) (by kernel_rfl) (by intro _ _ _ h; exact h) (Or.inl ⟨by rfl, ?_⟩) (by assumption) ?_
          rotate_left
          · intro w' hSw; (try dsimp only at hSw); go_simp; (try with_reducible rfl)
          try simp only [Act.put, List.setIfInBounds_toArray, List.set_cons_zero, List.set_cons_succ]
          refine wpAnyH_take (i := 6) (v := ?_) (by simp only [List.getElem?_toArray, List.getElem?_cons_succ, List.getElem?_cons_zero]; rfl) (by kernel_rfl) (by kernel_rfl) (by kernel_rfl) (by intro _ _ _ h; exact h) (Or.inl ⟨by rfl, ?_⟩) (by assumption) ?_
          rotate_left
          · intro w' hSw; (try dsimp only at hSw); go_simp; (try with_reducible rfl)
          try simp only [Act.put, List.setIfInBounds_toArray, List.set_cons_zero, List.set_cons_succ]
          refine wpAnyH_take (i := 7) (v := ?_) (by simp only [List.getElem?_toArray, List.getElem?_cons_succ, List.getElem?_cons_zero]; rfl) (by kernel_rfl) (by kernel_rfl) (by kernel_rfl) (by intro _ _ _ h; exact h) (Or.inl ⟨by rfl, ?_⟩) (by assumption) ?_
          rotate_left
          · intro w' hSw; (try dsimp only at hSw); go_simp; (try with_reducible rfl)
          try simp only [Act.put, List.setIfInBounds_toArray, List.set_cons_zero, List.set_cons_succ]
          refine wpAnyH_take (i := 8) (v := ?_) (by simp only [List.getElem?_toArray, List.getElem?_cons_succ, List.getElem?_cons_zero]; rfl) (by kernel_rfl) (by kernel_rfl) (by kernel_rfl) (by intro _ _ _ h; exact h) (Or.inl ⟨by rfl, ?_⟩) (by assumption) ?_
          rotate_left
          · intro w' hSw; (try dsimp only at hSw); go_simp; (try with_reducible rfl)
          try simp only [Act.put, List.setIfInBounds_toArray, List.set_cons_zero, List.set_cons_succ]
          refine wpAnyH_take (i := 9) (v := ?_) (by simp only [List.getElem?_toArray, List.getElem?_cons_succ, List.getElem?_cons_zero]; rfl) (by kernel_rfl) (by kernel_rfl) (by kernel_rfl) (by intro _ _ _ h; exact h) (Or.inl ⟨by rfl, ?_⟩) (by assumption) ?_
          rotate_left
          · intro w' hSw; (try dsimp only at hSw); go_simp; (try with_reducible rfl)
          try simp only [Act.put, List.setIfInBounds_toArray, List.set_cons_zero, List.set_cons_succ]
          have hI98 := (hEf.out w6.drew (own_row_from (hH6.out.below (Below.refl _ _).drew))).2
          have hI99 := (hEt.out w6.drew ((hH6.out.below (Below.refl _ _).drew).row (E := [_]))).2
          refine wpAnyH_ready (rs := [10]) (by kernel_rfl) (by simp) ?_
          refine AllReadyH.cons (by simp only [List.getElem?_toArray, List.getElem?_cons_succ, List.getElem?_cons_zero]; rfl) (fun K hK => ?_) AllReadyH.nil
          go_simp
          go_at_call 55
          have h99 := runs55 (some ⟨g, 0, none⟩) (some ⟨h, 0, none⟩) from_.length cg ch from_ to_ w6.drew rfl hEq.out (by omega) hI98 hI99
          rw [show Value.slice (some ⟨h, 0, none⟩) from_.length ch = .slice (some ⟨h, 0, none⟩) to_.length ch by rw [hEq.out]] at h99
          refine h99.mono ?_
          clear h99 hI98 hI99
          rintro e w7 ⟨v7, R7, rfl, hn7, hm7, hb7'⟩
          have hN7 := hid hn7
          have hM7 := hid hm7
          clear hn7 hm7
          have hb7 : Below w6.heap.size w6 w7 := ((Below.refl _ w6).drew).trans hb7'
          clear hb7'
          have hC7 := hid (hC6.out.mono hb7)
          have hL7 := hid (hL6.out.mono hb7)
          have hH7 := hid (hH6.out.below hb7)
          have hB7 := hid (hB6.out.trans (hb7.mono hB6.out.size))
          have hs7 := hid (hb7.size)
          have hN57 := hid (hN56.out.below hb7)
          have hN67 := hid (hN6.out.below hb7)
          have hk' : w7.cell? ⟨ob, 1, none⟩ = some (.slice fo from_.length fc) ∧ w7.cell? ⟨ob, 2, none⟩ = some (.slice to to_.length tc) := ⟨by simpa using hC7.out.c1, by simpa using hC7.out.c2⟩
          clear hb7
          clear hHeld hS0
          go_wp2_with fail
          refine hK.out _ _ hk' (fun hHeld => ?_)
          clear hK K hk'
          try simp only [Act.put, List.setIfInBounds_toArray, List.set_cons_zero, List.set_cons_succ]
          refine wpAnyH_take (i := 11) (v := ?_) (by simp only [List.getElem?_toArray, List.getElem?_cons_succ, List.getElem?_cons_zero]; rfl) (by kernel_rfl) (by kernel_rfl) (by kernel_rfl) (by intro _ _ _ h; exact h) (Or.inl ⟨by rfl, ?_⟩) (by assumption) ?_
          rotate_left
          · intro w' hSw; (try dsimp only at hSw); go_simp; (try with_reducible rfl)
          try simp only [Act.put, List.setIfInBounds_toArray, List.set_cons_zero, List.set_cons_succ]
          refine wpAnyH_take (i := 12) (v := ?_) (by simp only [List.getElem?_toArray, List.getElem?_cons_succ, List.getElem?_cons_zero]; rfl) (by kernel_rfl) (by kernel_rfl) (by kernel_rfl) (by intro _ _ _ h; exact h) (Or.inl ⟨by rfl, ?_⟩) (by assumption) ?_
          rotate_left
          · intro w' hSw; (try dsimp only at hSw); go_simp; (try with_reducible rfl)
          try simp only [Act.put, List.setIfInBounds_toArray, List.set_cons_zero, List.set_cons_succ]
          refine wpAnyH_take (i := 13) (v := ?_) (by simp only [List.getElem?_toArray, List.getElem?_cons_succ, List.getElem?_cons_zero]; rfl) (by kernel_rfl) (by kernel_rfl) (by kernel_rfl) (by intro _ _ _ h; exact h) (Or.inl ⟨by rfl, ?_⟩) (by assumption) ?_
          rotate_left
          · intro w' hSw; (try dsimp only at hSw); go_simp; (try with_reducible rfl)
          try simp only [Act.put, List.setIfInBounds_toArray, List.set_cons_zero, List.set_cons_succ]
          refine wpAnyH_take (i := 14) (v := ?_) (by simp only [List.getElem?_toArray, List.getElem?_cons_succ, List.getElem?_cons_zero]; rfl) (by kernel_rfl) (by kernel_rfl) (by kernel_rfl) (by intro _ _ _ h; exact h) (Or.inl ⟨by rfl, ?_⟩) (by assumption) ?_
          rotate_left
          · intro w' hSw; (try dsimp only at hSw); go_simp; (try with_reducible rfl)
          try simp only [Act.put, List.setIfInBounds_toArray, List.set_cons_zero, List.set_cons_succ]
          refine wpAnyH_take (i := 15) (v := ?_) (by simp only [List.getElem?_toArray, List.getElem?_cons_succ, List.getElem?_cons_zero]; rfl) (by kernel_rfl) (by kernel_rfl) (by kernel_rfl) (by intro _ _ _ h; exact h) (Or.inl ⟨by rfl, ?_⟩) (by assumption) ?_
          rotate_left
          · intro w' hSw; (try dsimp only at hSw); go_simp; (try with_reducible rfl)
          try simp only [Act.put, List.setIfInBounds_toArray, List.set_cons_zero, List.set_cons_succ]
          refine wpAnyH_done (by kernel_rfl) ?_ _
          clear hHeld
          have q2 : w7.cell? ⟨ob, 2, none⟩ = some (.slice to to_.length tc) := by simpa using hC7.out.c2
          go_wp2_with fail
          have hEt7 := hEt.out w7 (hH7.out.row (E := [_]))
          have h20 := kept_any (some ⟨h, 0, none⟩) (to_.length + 64) ch to to_.length tc to_ w7 (by rw [lentL_len]) rfl (by omega) hEt7.1 hL7.out.ht
          refine h20.mono ?_
          clear h20 q2 hEt7
          rintro e w8 ⟨rfl, q, rfl⟩
          have hb8 := below_drewN' (Below.refl w7.heap.size w7) q
          have hH7' := hid (hH7.out.below hb8)
          have hC7' := hid (hC7.out.mono hb8)
          have hB7' := hid (hB7.out.trans (hb8.mono hB7.out.size))
          have hN5' := hid (hN57.out.below hb8)
          have hN6' := hid (hN67.out.below hb8)
          have hN7' := hid (hN7.out.below hb8)
          clear hb8 hH7 hC7 hB7
          generalize w7.drewN q = w8 at *
          have hH7 := hH7'
          have hC7 := hC7'
          have hB7 := hB7'
          have hYB := byt_of_ints hL4.out.ht
          have hk5 := hid (runs_okW hM5.out hEq.out (by omega) hYB)
          have hk6 := hid (runs_okW hM6.out hEq.out (by omega) hYB)
          have hk7 := hid (runs_okW hM7.out hEq.out (by omega) hYB)
          have hle6 := hid (Nat.le_trans (runs_le hM6.out) (Nat.le_of_eq hEq.out))
          have hSepN : Hid (Sep w8 w4.heap.size (RT.rows ⟨v6, v7, v5, R6, R7, R5⟩)) := Sep.rows3 hN5.out.toL hN56.out.toL hN5'.out.toL hN6.out.toL hN6'.out.toL hN7'.out.toL (Nat.le_refl _) hs5.out (Nat.le_refl _) (Nat.le_trans hs5.out hs6.out)
          obtain ⟨ao5, cc5, hv5, -⟩ := own_any_shape hN5'.out.own
          obtain ⟨ao6, cc6, hv6, -⟩ := own_any_shape hN6'.out.own
          obtain ⟨ao7, cc7, hv7, -⟩ := own_any_shape hN7'.out.own
          clear hYB
          subst hv5 hv6 hv7
          go_wp2_with (first | (at_builtin; refine wpList_append_str rfl _ _ 89 rfl w.heap.size 90 90 (.slice none 0 0) 1 24 2 Try.underlying89 (by kernel_rfl) rfl (by decide) _ (2 * S.length) _ [_, _] (0, 0) hH7.out.ownL rfl (by simp [Value.oneCell']) (by have := hSl.out; unfold maxLen; omega) (by have := hSl.out; omega) hB7.out.size rfl rfl ?_; intro va' wg hA1; have hA1' := hid hA1; have hsg := hid (Nat.le_trans hB7.out.size hA1.grown.size); have hWo := hid (hH7.out.onM hA1); clear hA1) | (at_builtin; go_must (refine wpList_append_str rfl _ _ 89 rfl w.heap.size 90 90 (.slice none 0 0) 1 24 2 Try.underlying89 (by kernel_rfl) rfl (by decide) _ (2 * S.length) _ [_, _] (0, 0) hWo.out rfl (by simp [Value.oneCell']) (by have := hSl.out; unfold maxLen; omega) (by have := hSl.out; omega) hsg.out rfl rfl ?_); intro vb' ww hA2; go_loud (have q1w : ww.cell? ⟨ob, 1, none⟩ = some (.slice fo from_.length fc) := hA2.grown.cell (hA1'.out.grown.cell (by simpa using hC7.out.c1) (fun e => absurd (show ob < wr.heap.size from (hH.out.ownL.lt _ e.symm).2) (by rw [hOb.out]; exact Nat.lt_irrefl _))) (fun e => absurd (show ob < wr.heap.size from (hH.out.ownM.lt _ e.symm).2) (by rw [hOb.out]; exact Nat.lt_irrefl _)))))
          have hH8 := hid (hH4.out.pushS hH7.out (⟨.slice ao6 R6.length cc6, .slice ao7 R7.length cc7, .slice ao5 R5.length cc5, R6, R7, R5⟩ : RT) ⟨hM6.out.trans hM5.out.symm, hM7.out.trans hM5.out.symm, hk6.out, hk7.out, hk5.out⟩ hB4.out.size hSepN.out hA1'.out hA2)
          have hB8 := hid ((hB7.out.grown hA1'.out.grown hB7.out.size (fun q hq => (hH7.out.ownL.lt q hq).1)).grown hA2.grown hsg.out (fun q hq => (hWo.out.lt q hq).1))
          have hSl' : Hid ((S ++ ([⟨.slice ao6 R6.length cc6, .slice ao7 R7.length cc7, .slice ao5 R5.length cc5, R6, R7, R5⟩] : List RT)).length ≤ k + 1) := by have := hSl.out; show (S ++ ([⟨.slice ao6 R6.length cc6, .slice ao7 R7.length cc7, .slice ao5 R5.length cc5, R6, R7, R5⟩] : List RT)).length ≤ k + 1; rw [List.length_append, List.length_singleton]; omega
          have hS' : Hid (S ++ ([⟨.slice ao6 R6.length cc6, .slice ao7 R7.length cc7, .slice ao5 R5.length cc5, R6, R7, R5⟩] : List RT) = [] → va' = .slice none 0 0) := fun h => absurd h (by simp)
          have hSm' : Hid (((S ++ ([⟨.slice ao6 R6.length cc6, .slice ao7 R7.length cc7, .slice ao5 R5.length cc5, R6, R7, R5⟩] : List RT)).map (fun t => t.R1.length)).sum ≤ ((rows.take (k + 1)).map (fun r => r.to_.length)).sum) := by
            have h1 := hSm.out
            have h2 := hle6.out
            rw [hSk.out]
            simp only [Hid, List.map_append, List.sum_append, List.map_cons, List.map_nil, List.sum_cons, List.sum_nil, List.length_nil] at h1 h2 ⊢
            omega
          have qow := hA1'.out
          clear qow hA1' hA2 hWo hsg
          have h21 := over_any h (to_.length + 64) ch w.heap.size _ ww (hH8.out.row (E := [_])) (by omega)
          refine h21.mono ?_
          clear h21
          rintro e ww2 ⟨rfl, -, hgo⟩
          have hH9' := hid (St.over (E := [_]) hH8.out hgo)
          have hB9' := hid (hB8.out.grown hgo hB8.out.size (fun q hq => ((hH8.out.row (E := [_])).lt q hq).1))
          have q1w' : ww2.cell? ⟨ob, 1, none⟩ = some (.slice fo from_.length fc) := hgo.cell q1w (fun e => hHb.out e)
          clear hgo q1w hH8 hB8
          have hH9 := hH9'
          have hB9 := hB9'
          have q1w := q1w'
          clear q1w'
          go_wp2_with fail
          have hLw := hid (hr0.out.mono hB9.out)
          have hEw := hid (hEf.out ww2 (hH9.out.row (E := [])))
          have h20 := kept_any (some ⟨g, 0, none⟩) (from_.length + 64) cg fo from_.length fc from_ ww2 (by rw [lentL_len]) rfl (by omega) hEw.out.1 hLw.out.hf
          refine h20.mono ?_
          clear h20
          rintro e wk ⟨rfl, qk, rfl⟩
          have hbk := below_drewN' (Below.refl ww2.heap.size ww2) qk
          have hHk := hid (hH9.out.below hbk)
          have hBk := hid (hB9.out.trans (hbk.mono hB9.out.size))
          clear hbk q1w hH9 hB9 hLw hEw
          generalize ww2.drewN qk = wk at *
          go_wp2_with fail
          have h21 := over_any g (from_.length + 64) cg w.heap.size _ wk (hHk.out.row (E := [])) (by omega)
          refine h21.mono ?_
          clear h21
          rintro e wo ⟨rfl, -, hgo⟩
          have hHo := hid (St.over (E := []) hHk.out hgo)
          have hBo := hid (hBk.out.grown hgo hBk.out.size (fun q hq => ((hHk.out.row (E := [])).lt q hq).1))
          clear hgo
          go_wp2_with fail
          go_roundw
          case rel => exact ⟨_, T, k + 1, _, _, _, _, rfl, rfl, rfl, rfl, by go_num, by omega, hSl'.out, Nat.le_succ_of_le hTl.out, hS'.out, hT.out, hSm'.out, hHo.out, hBo.out⟩
          case measure => simp [intOf]; omega
        · skip
          have hEq := hid heq
          have q2 : w3.cell? ⟨ob, 2, none⟩ = some (.slice to to_.length tc) := by simpa using hC3.out.c2
          go_wp2_with fail
          have h18 := lent_any to to_.length tc to_ w3 rfl (by omega) hL3.out.ht
          refine h18.mono ?_
          clear h18 q0 q2
          rintro e w4 ⟨v4, rfl, ho4, hb4⟩
          obtain ⟨h, ch, hv4, -, -, hnh, -⟩ := own_shape ho4 (by omega)
          subst hv4
          have hC4 := hid (hC3.out.mono hb4)
          have hL4 := hid (hL3.out.mono hb4)
          have hH4 : Hid (St w4 w.heap.size vl vm S vc vp T [⟨.slice (some ⟨g, 0, none⟩) (from_.length + 64) cg, 5, 1, from_.length + 64, (lentL from_).map (Value.int .u8)⟩, ⟨.slice (some ⟨h, 0, none⟩) (to_.length + 64) ch, 5, 1, to_.length + 64, (lentL to_).map (Value.int .u8)⟩]) := hH3.out.lent hb4 _ ho4 hB3.out.size
          have hB4 := hid (hB3.out.trans (hb4.mono hB3.out.size))
          have hs4 := hid (hb4.size)
          have hEt : Hid (∀ W, W.ownsRow w.heap.size 5 1 (.slice (some ⟨h, 0, none⟩) (to_.length + 64) ch) (to_.length + 64) ((lentL to_).map (Value.int .u8)) → Ints .u8 W (some ⟨h, 0, none⟩) (lentL to_) ∧ Ints .u8 W (some ⟨h, 0, none⟩) to_) := fun W hW => by
            obtain ⟨ao', c', hv, hI, -⟩ := ints_of_own hW (fun x hx => by
              rcases List.mem_append.1 hx with h1 | h1
              · exact hL4.out.ht.wf x h1
              · obtain ⟨i, _, rfl⟩ := List.mem_map.1 h1
                exact wf_u8.2 (markB_bd _ _))
            simp only [Value.slice.injEq] at hv
            obtain ⟨rfl, -, -⟩ := hv
            have := hI.take to_.length
            unfold lentL at this
            rw [List.take_left] at this
            exact ⟨hI, this⟩
          have hHb := hid (show some ob ≠ some h from fun e => by have h1 := (ho4.lt h rfl).1; have h2 := hs3.out; simp only [Option.some.injEq] at e; omega)
          clear ho4 hb4
          have hy1 : (0 : Int) ≤ (to_.length : Int) := by omega
          have hy2 : (to_.length : Int) ≤ (ch : Int) := by omega
          have q1 : w4.cell? ⟨ob, 1, none⟩ = some (.slice fo from_.length fc) := by simpa using hC4.out.c1
          have q2 : w4.cell? ⟨ob, 2, none⟩ = some (.slice to to_.length tc) := by simpa using hC4.out.c2
          go_wp2_with fail
          have h54 := runsNo54 fo to from_.length to_.length fc tc w4 heq
          refine h54.mono ?_
          clear h54 q1 q2
          rintro e w5 ⟨rfl, hw5⟩
          have hb5 : Below w4.heap.size w4 w5 := hw5 ▸ Below.refl _ _
          clear hw5
          have hC5 := hid (hC4.out.mono hb5)
          have hL5 := hid (hL4.out.mono hb5)
          have hH5 := hid (hH4.out.below hb5)
          have hB5 := hid (hB4.out.trans (hb5.mono hB4.out.size))
          have hs5 := hid (hb5.size)
          clear hb5
          clear heq
          go_wp2_with fail
          have hS0 : Hid (w5.drew.cell? ⟨ob, 1, none⟩ = some (.slice fo from_.length fc) ∧ w5.drew.cell? ⟨ob, 2, none⟩ = some (.slice to to_.length tc)) := ⟨by simpa using hC5.out.c1, by simpa using hC5.out.c2⟩
          refine wp_region_held_drew (S := fun W => W.cell? ⟨ob, 1, none⟩ = some (.slice fo from_.length fc) ∧ W.cell? ⟨ob, 2, none⟩ = some (.slice to to_.length tc)) (by kernel_rfl) hS0.out (fun hHeld => ?_)
          refine wpAnyH_take (i := 0) (v := ?_) (by simp only [List.getElem?_toArray, List.getElem?_cons_succ, List.getElem?_cons_zero]; rfl) (by kernel_rfl) (by kernel_rfl) (by kernel_rfl) (by intro _ _ _ h; exact h) (Or.inl ⟨by rfl, ?_⟩) (by assumption) ?_
          rotate_left
          · intro w' hSw; (try dsimp only at hSw); go_simp; (try with_reducible rfl)
          try simp only [Act.put, List.setIfInBounds_toArray, List.set_cons_zero, List.set_cons_succ]
          refine wpAnyH_take (i := 1) (v := ?_) (by simp only [List.getElem?_toArray, List.getElem?_cons_succ, List.getElem?_cons_zero]; rfl) (by kernel_rfl) (by kernel_rfl) (by kernel_rfl) (by intro _ _ _ h; exact h) (Or.inl ⟨by rfl, ?_⟩) (by assumption) ?_
          rotate_left
          · intro w' hSw; (try dsimp only at hSw); go_simp; (try with_reducible rfl)
          try simp only [Act.put, List.setIfInBounds_toArray, List.set_cons_zero, List.set_cons_succ]
          refine wpAnyH_take (i := 2) (v := ?_) (by simp only [List.getElem?_toArray, List.getElem?_cons_succ, List.getElem?_cons_zero]; rfl) (by kernel_rfl) (by kernel_rfl) (by kernel_rfl) (by intro _ _ _ h; exact h) (Or.inl ⟨by rfl, ?_⟩) (by assumption) ?_
          rotate_left
          · intro w' hSw; (try dsimp only at hSw); go_simp; (try with_reducible rfl)
          try simp only [Act.put, List.setIfInBounds_toArray, List.set_cons_zero, List.set_cons_succ]
          refine wpAnyH_take (i := 3) (v := ?_) (by simp only [List.getElem?_toArray, List.getElem?_cons_succ, List.getElem?_cons_zero]; rfl) (by kernel_rfl) (by kernel_rfl) (by kernel_rfl) (by intro _ _ _ h; exact h) (Or.inl ⟨by rfl, ?_⟩) (by assumption) ?_
          rotate_left
          · intro w' hSw; (try dsimp only at hSw); go_simp; (try with_reducible rfl)
          try simp only [Act.put, List.setIfInBounds_toArray, List.set_cons_zero, List.set_cons_succ]
          refine wpAnyH_take (i := 4) (v := ?_) (by simp only [List.getElem?_toArray, List.getElem?_cons_succ, List.getElem?_cons_zero]; rfl) (by kernel_rfl) (by kernel_rfl) (by kernel_rfl) (by intro _ _ _ h; exact h) (Or.inl ⟨by rfl, ?_⟩) (by assumption) ?_
          rotate_left
          · intro w' hSw; (try dsimp only at hSw); go_simp; (try with_reducible rfl)
          try simp only [Act.put, List.setIfInBounds_toArray, List.set_cons_zero, List.set_cons_succ]
          refine wpAnyH_take (i := 5) (v := ?_) (by simp only [List.getElem?_toArray, List.getElem?_cons_succ, List.getElem?_cons_zero]; rfl) (by kernel_rfl) (by kernel_rfl) (by kernel_rfl) (by intro _ _ _ h; exact h) (Or.inl ⟨by rfl, ?_⟩) (by assumption) ?_
          rotate_left
          · intro w' hSw; (try dsimp only at hSw); go_simp; (try with_reducible rfl)
          try simp only [Act.put, List.setIfInBounds_toArray, List.set_cons_zero, List.set_cons_succ]
          refine wpAnyH_take (i := 6) (v := ?_) (by simp only [List.getElem?_toArray, List.getElem?_cons_succ, List.getElem?_cons_zero]; rfl) (by kernel_rfl) (by kernel_rfl) (by kernel_rfl) (by intro _ _ _ h; exact h) (Or.inl ⟨by rfl, ?_⟩) (by assumption) ?_
          rotate_left
          · intro w' hSw; (try dsimp only at hSw); go_simp; (try with_reducible rfl)
          try simp only [Act.put, List.setIfInBounds_toArray, List.set_cons_zero, List.set_cons_succ]
          refine wpAnyH_take (i := 7) (v := ?_) (by simp only [List.getElem?_toArray, List.getElem?_cons_succ, List.getElem?_cons_zero]; rfl) (by kernel_rfl) (by kernel_rfl) (by kernel_rfl) (by intro _ _ _ h; exact h) (Or.inl ⟨by rfl, ?_⟩) (by assumption) ?_
          rotate_left
          · intro w' hSw; (try dsimp only at hSw); go_simp; (try with_reducible rfl)
          try simp only [Act.put, List.setIfInBounds_toArray, List.set_cons_zero, List.set_cons_succ]
          refine wpAnyH_take (i := 8) (v := ?_) (by simp only [List.getElem?_toArray, List.getElem?_cons_succ, List.getElem?_cons_zero]; rfl) (by kernel_rfl) (by kernel_rfl) (by kernel_rfl) (by intro _ _ _ h; exact h) (Or.inl ⟨by rfl, ?_⟩) (by assumption) ?_
          rotate_left
          · intro w' hSw; (try dsimp only at hSw); go_simp; (try with_reducible rfl)
          try simp only [Act.put, List.setIfInBounds_toArray, List.set_cons_zero, List.set_cons_succ]
          refine wpAnyH_take (i := 9) (v := ?_) (by simp only [List.getElem?_toArray, List.getElem?_cons_succ, List.getElem?_cons_zero]; rfl) (by kernel_rfl) (by kernel_rfl) (by kernel_rfl) (by intro _ _ _ h; exact h) (Or.inl ⟨by rfl, ?_⟩) (by assumption) ?_
          rotate_left
          · intro w' hSw; (try dsimp only at hSw); go_simp; (try with_reducible rfl)
          try simp only [Act.put, List.setIfInBounds_toArray, List.set_cons_zero, List.set_cons_succ]
          have hI98 := (hEf.out w5.drew (own_row_from (hH5.out.below (Below.refl _ _).drew))).2
          have hI99 := (hEt.out w5.drew ((hH5.out.below (Below.refl _ _).drew).row (E := [_]))).2
          refine wpAnyH_ready (rs := [10]) (by kernel_rfl) (by simp) ?_
          refine AllReadyH.cons (by simp only [List.getElem?_toArray, List.getElem?_cons_succ, List.getElem?_cons_zero]; rfl) (fun K hK => ?_) AllReadyH.nil
          go_simp
          go_at_call 55
          have h99 := runsNo55 (some ⟨g, 0, none⟩) (some ⟨h, 0, none⟩) from_.length to_.length cg ch w5.drew hEq.out
          refine h99.mono ?_
          clear h99 hI98 hI99
          rintro e w6 ⟨rfl, hw6⟩
          have hb6' : Below w5.drew.heap.size w5.drew w6 := hw6 ▸ Below.refl _ _
          clear hw6
          have hb6 : Below w5.heap.size w5 w6 := ((Below.refl _ w5).drew).trans hb6'
          clear hb6'
          have hC6 := hid (hC5.out.mono hb6)
          have hL6 := hid (hL5.out.mono hb6)
          have hH6 := hid (hH5.out.below hb6)
          have hB6 := hid (hB5.out.trans (hb6.mono hB5.out.size))
          have hs6 := hid (hb6.size)
          have hk' : w6.cell? ⟨ob, 1, none⟩ = some (.slice fo from_.length fc) ∧ w6.cell? ⟨ob, 2, none⟩ = some (.slice to to_.length tc) := ⟨by simpa using hC6.out.c1, by simpa using hC6.out.c2⟩
          clear hb6
          clear hHeld hS0
          go_wp2_with fail
          refine hK.out _ _ hk' (fun hHeld => ?_)
          clear hK K hk'
          try simp only [Act.put, List.setIfInBounds_toArray, List.set_cons_zero, List.set_cons_succ]
          refine wpAnyH_take (i := 11) (v := ?_) (by simp only [List.getElem?_toArray, List.getElem?_cons_succ, List.getElem?_cons_zero]; rfl) (by kernel_rfl) (by kernel_rfl) (by kernel_rfl) (by intro _ _ _ h; exact h) (Or.inl ⟨by rfl, ?_⟩) (by assumption) ?_
          rotate_left
          · intro w' hSw; (try dsimp only at hSw); go_simp; (try with_reducible rfl)
          try simp only [Act.put, List.setIfInBounds_toArray, List.set_cons_zero, List.set_cons_succ]
          refine wpAnyH_take (i := 12) (v := ?_) (by simp only [List.getElem?_toArray, List.getElem?_cons_succ, List.getElem?_cons_zero]; rfl) (by kernel_rfl) (by kernel_rfl) (by kernel_rfl) (by intro _ _ _ h; exact h) (Or.inl ⟨by rfl, ?_⟩) (by assumption) ?_
          rotate_left
          · intro w' hSw; (try dsimp only at hSw); go_simp; (try with_reducible rfl)
          try simp only [Act.put, List.setIfInBounds_toArray, List.set_cons_zero, List.set_cons_succ]
          refine wpAnyH_take (i := 13) (v := ?_) (by simp only [List.getElem?_toArray, List.getElem?_cons_succ, List.getElem?_cons_zero]; rfl) (by kernel_rfl) (by kernel_rfl) (by kernel_rfl) (by intro _ _ _ h; exact h) (Or.inl ⟨by rfl, ?_⟩) (by assumption) ?_
          rotate_left
          · intro w' hSw; (try dsimp only at hSw); go_simp; (try with_reducible rfl)
          try simp only [Act.put, List.setIfInBounds_toArray, List.set_cons_zero, List.set_cons_succ]
          refine wpAnyH_take (i := 14) (v := ?_) (by simp only [List.getElem?_toArray, List.getElem?_cons_succ, List.getElem?_cons_zero]; rfl) (by kernel_rfl) (by kernel_rfl) (by kernel_rfl) (by intro _ _ _ h; exact h) (Or.inl ⟨by rfl, ?_⟩) (by assumption) ?_
          rotate_left
          · intro w' hSw; (try dsimp only at hSw); go_simp; (try with_reducible rfl)
          try simp only [Act.put, List.setIfInBounds_toArray, List.set_cons_zero, List.set_cons_succ]
          refine wpAnyH_take (i := 15) (v := ?_) (by simp only [List.getElem?_toArray, List.getElem?_cons_succ, List.getElem?_cons_zero]; rfl) (by kernel_rfl) (by kernel_rfl) (by kernel_rfl) (by intro _ _ _ h; exact h) (Or.inl ⟨by rfl, ?_⟩) (by assumption) ?_
          rotate_left
          · intro w' hSw; (try dsimp only at hSw); go_simp; (try with_reducible rfl)
          try simp only [Act.put, List.setIfInBounds_toArray, List.set_cons_zero, List.set_cons_succ]
          refine wpAnyH_done (by kernel_rfl) ?_ _
          clear hHeld
          go_wp2_with fail
          have hS0 : Hid (w6.drew.cell? ⟨ob, 1, none⟩ = some (.slice fo from_.length fc) ∧ w6.drew.cell? ⟨ob, 2, none⟩ = some (.slice to to_.length tc)) := ⟨by simpa using hC6.out.c1, by simpa using hC6.out.c2⟩
          refine wp_region_held_drew (S := fun W => W.cell? ⟨ob, 1, none⟩ = some (.slice fo from_.length fc) ∧ W.cell? ⟨ob, 2, none⟩ = some (.slice to to_.length tc)) (by kernel_rfl) hS0.out (fun hHeld => ?_)
          refine wpAnyH_take (i := 0) (v := ?_) (by simp only [List.getElem?_toArray, List.getElem?_cons_succ, List.getElem?_cons_zero]; rfl) (by kernel_rfl) (by kernel_rfl) (by kernel_rfl) (by intro _ _ _ h; exact h) (Or.inl ⟨by rfl, ?_⟩) (by assumption) ?_
          rotate_left
          · intro w' hSw; (try dsimp only at hSw); go_simp; (try with_reducible rfl)
          try simp only [Act.put, List.setIfInBounds_toArray, List.set_cons_zero, List.set_cons_succ]
          refine wpAnyH_take (i := 1) (v := ?_) (by simp only [List.getElem?_toArray, List.getElem?_cons_succ, List.getElem?_cons_zero]; rfl) (by kernel_rfl) (by kernel_rfl) (by kernel_rfl) (by intro _ _ _ h; exact h) (Or.inl ⟨by rfl, ?_⟩) (by assumption) ?_
          rotate_left
          · intro w' hSw; (try dsimp only at hSw); go_simp; (try with_reducible rfl)
          try simp only [Act.put, List.setIfInBounds_toArray, List.set_cons_zero, List.set_cons_succ]
          refine wpAnyH_take (i := 2) (v := ?_) (by simp only [List.getElem?_toArray, List.getElem?_cons_succ, List.getElem?_cons_zero]; rfl) (by kernel_rfl) (by kernel_rfl) (by kernel_rfl) (by intro _ _ _ h; exact h) (Or.inl ⟨by rfl, ?_⟩) (by assumption) ?_
          rotate_left
          · intro w' hSw; (try dsimp only at hSw); go_simp; (try with_reducible rfl)
          try simp only [Act.put, List.setIfInBounds_toArray, List.set_cons_zero, List.set_cons_succ]
          refine wpAnyH_take (i := 3) (v := ?_) (by simp only [List.getElem?_toArray, List.getElem?_cons_succ, List.getElem?_cons_zero]; rfl) (by kernel_rfl) (by kernel_rfl) (by kernel_rfl) (by intro _ _ _ h; exact h) (Or.inl ⟨by rfl, ?_⟩) (by assumption) ?_
          rotate_left
          · intro w' hSw; (try dsimp only at hSw); go_simp; (try with_reducible rfl)
          try simp only [Act.put, List.setIfInBounds_toArray, List.set_cons_zero, List.set_cons_succ]
          refine wpAnyH_take (i := 4) (v := ?_) (by simp only [List.getElem?_toArray, List.getElem?_cons_succ, List.getElem?_cons_zero]; rfl) (by kernel_rfl) (by kernel_rfl) (by kernel_rfl) (by intro _ _ _ h; exact h) (Or.inl ⟨by rfl, ?_⟩) (by assumption) ?_
          rotate_left
          · intro w' hSw; (try dsimp only at hSw); go_simp; (try with_reducible rfl)
          try simp only [Act.put, List.setIfInBounds_toArray, List.set_cons_zero, List.set_cons_succ]
          refine wpAnyH_take (i := 5) (v := ?_) (by simp only [List.getElem?_toArray, List.getElem?_cons_succ, List.getElem?_cons_zero]; rfl) (by kernel_rfl) (by kernel_rfl) (by kernel_rfl) (by intro _ _ _ h; exact h) (Or.inl ⟨by rfl, ?_⟩) (by assumption) ?_
          rotate_left
          · intro w' hSw; (try dsimp only at hSw); go_simp; (try with_reducible rfl)
          try simp only [Act.put, List.setIfInBounds_toArray, List.set_cons_zero, List.set_cons_succ]
          refine wpAnyH_take (i := 6) (v := ?_) (by simp only [List.getElem?_toArray, List.getElem?_cons_succ, List.getElem?_cons_zero]; rfl) (by kernel_rfl) (by kernel_rfl) (by kernel_rfl) (by intro _ _ _ h; exact h) (Or.inl ⟨by rfl, ?_⟩) (by assumption) ?_
          rotate_left
          · intro w' hSw; (try dsimp only at hSw); go_simp; (try with_reducible rfl)
          try simp only [Act.put, List.setIfInBounds_toArray, List.set_cons_zero, List.set_cons_succ]
          refine wpAnyH_take (i := 7) (v := ?_) (by simp only [List.getElem?_toArray, List.getElem?_cons_succ, List.getElem?_cons_zero]; rfl) (by kernel_rfl) (by kernel_rfl) (by kernel_rfl) (by intro _ _ _ h; exact h) (Or.inl ⟨by rfl, ?_⟩) (by assumption) ?_
          rotate_left
          · intro w' hSw; (try dsimp only at hSw); go_simp; (try with_reducible rfl)
          try simp only [Act.put, List.setIfInBounds_toArray, List.set_cons_zero, List.set_cons_succ]
          refine wpAnyH_take (i := 8) (v := ?_) (by simp only [List.getElem?_toArray, List.getElem?_cons_succ, List.getElem?_cons_zero]; rfl) (by kernel_rfl) (by kernel_rfl) (by kernel_rfl) (by intro _ _ _ h; exact h) (Or.inl ⟨by rfl, ?_⟩) (by assumption) ?_
          rotate_left
          · intro w' hSw; (try dsimp only at hSw); go_simp; (try with_reducible rfl)
          try simp only [Act.put, List.setIfInBounds_toArray, List.set_cons_zero, List.set_cons_succ]
          refine wpAnyH_take (i := 9) (v := ?_) (by simp only [List.getElem?_toArray, List.getElem?_cons_succ, List.getElem?_cons_zero]; rfl) (by kernel_rfl) (by kernel_rfl) (by kernel_rfl) (by intro _ _ _ h; exact h) (Or.inl ⟨by rfl, ?_⟩) (by assumption) ?_
          rotate_left
          · intro w' hSw; (try dsimp only at hSw); go_simp; (try with_reducible rfl)
          try simp only [Act.put, List.setIfInBounds_toArray, List.set_cons_zero, List.set_cons_succ]
          have hI98 := (hEf.out w6.drew (own_row_from (hH6.out.below (Below.refl _ _).drew))).2
          have hI99 := (hEt.out w6.drew ((hH6.out.below (Below.refl _ _).drew).row (E := [_]))).2
          refine wpAnyH_ready (rs := [10]) (by kernel_rfl) (by simp) ?_
          refine AllReadyH.cons (by simp only [List.getElem?_toArray, List.getElem?_cons_succ, List.getElem?_cons_zero]; rfl) (fun K hK => ?_) AllReadyH.nil
          go_simp
          go_at_call 55
          have h99 := runsNo55 (some ⟨g, 0, none⟩) (some ⟨h, 0, none⟩) from_.length to_.length cg ch w6.drew hEq.out
          refine h99.mono ?_
          clear h99 hI98 hI99
          rintro e w7 ⟨rfl, hw7⟩
          have hb7' : Below w6.drew.heap.size w6.drew w7 := hw7 ▸ Below.refl _ _
          clear hw7
          have hb7 : Below w6.heap.size w6 w7 := ((Below.refl _ w6).drew).trans hb7'
          clear hb7'
          have hC7 := hid (hC6.out.mono hb7)
          have hL7 := hid (hL6.out.mono hb7)
          have hH7 := hid (hH6.out.below hb7)
          have hB7 := hid (hB6.out.trans (hb7.mono hB6.out.size))
          have hs7 := hid (hb7.size)
          have hk' : w7.cell? ⟨ob, 1, none⟩ = some (.slice fo from_.length fc) ∧ w7.cell? ⟨ob, 2, none⟩ = some (.slice to to_.length tc) := ⟨by simpa using hC7.out.c1, by simpa using hC7.out.c2⟩
          clear hb7
          clear hHeld hS0
          go_wp2_with fail
          refine hK.out _ _ hk' (fun hHeld => ?_)
          clear hK K hk'
          try simp only [Act.put, List.setIfInBounds_toArray, List.set_cons_zero, List.set_cons_succ]
          refine wpAnyH_take (i := 11) (v := ?_) (by simp only [List.getElem?_toArray, List.getElem?_cons_succ, List.getElem?_cons_zero]; rfl) (by kernel_rfl) (by kernel_rfl) (by kernel_rfl) (by intro _ _ _ h; exact h) (Or.inl ⟨by rfl, ?_⟩) (by assumption) ?_
          rotate_left
          · intro w' hSw; (try dsimp only at hSw); go_simp; (try with_reducible rfl)
          try simp only [Act.put, List.setIfInBounds_toArray, List.set_cons_zero, List.set_cons_succ]
          refine wpAnyH_take (i := 12) (v := ?_) (by simp only [List.getElem?_toArray, List.getElem?_cons_succ, List.getElem?_cons_zero]; rfl) (by kernel_rfl) (by kernel_rfl) (by kernel_rfl) (by intro _ _ _ h; exact h) (Or.inl ⟨by rfl, ?_⟩) (by assumption) ?_
          rotate_left
          · intro w' hSw; (try dsimp only at hSw); go_simp; (try with_reducible rfl)
          try simp only [Act.put, List.setIfInBounds_toArray, List.set_cons_zero, List.set_cons_succ]
          refine wpAnyH_take (i := 13) (v := ?_) (by simp only [List.getElem?_toArray, List.getElem?_cons_succ, List.getElem?_cons_zero]; rfl) (by kernel_rfl) (by kernel_rfl) (by kernel_rfl) (by intro _ _ _ h; exact h) (Or.inl ⟨by rfl, ?_⟩) (by assumption) ?_
          rotate_left
          · intro w' hSw; (try dsimp only at hSw); go_simp; (try with_reducible rfl)
          try simp only [Act.put, List.setIfInBounds_toArray, List.set_cons_zero, List.set_cons_succ]
          refine wpAnyH_take (i := 14) (v := ?_) (by simp only [List.getElem?_toArray, List.getElem?_cons_succ, List.getElem?_cons_zero]; rfl) (by kernel_rfl) (by kernel_rfl) (by kernel_rfl) (by intro _ _ _ h; exact h) (Or.inl ⟨by rfl, ?_⟩) (by assumption) ?_
          rotate_left
          · intro w' hSw; (try dsimp only at hSw); go_simp; (try with_reducible rfl)
          try simp only [Act.put, List.setIfInBounds_toArray, List.set_cons_zero, List.set_cons_succ]
          refine wpAnyH_take (i := 15) (v := ?_) (by simp only [List.getElem?_toArray, List.getElem?_cons_succ, List.getElem?_cons_zero]; rfl) (by kernel_rfl) (by kernel_rfl) (by kernel_rfl) (by intro _ _ _ h; exact h) (Or.inl ⟨by rfl, ?_⟩) (by assumption) ?_
          rotate_left
          · intro w' hSw; (try dsimp only at hSw); go_simp; (try with_reducible rfl)
          try simp only [Act.put, List.setIfInBounds_toArray, List.set_cons_zero, List.set_cons_succ]
          refine wpAnyH_done (by kernel_rfl) ?_ _
          clear hHeld
          have q2 : w7.cell? ⟨ob, 2, none⟩ = some (.slice to to_.length tc) := by simpa using hC7.out.c2
          go_wp2_with fail
          have hEt7 := hEt.out w7 (hH7.out.row (E := [_]))
          have h20 := kept_any (some ⟨h, 0, none⟩) (to_.length + 64) ch to to_.length tc to_ w7 (by rw [lentL_len]) rfl (by omega) hEt7.1 hL7.out.ht
          refine h20.mono ?_
          clear h20 q2 hEt7
          rintro e w8 ⟨rfl, q, rfl⟩
          have hb8 := below_drewN' (Below.refl w7.heap.size w7) q
          have hH7' := hid (hH7.out.below hb8)
          have hC7' := hid (hC7.out.mono hb8)
          have hB7' := hid (hB7.out.trans (hb8.mono hB7.out.size))
          clear hb8 hH7 hC7 hB7
          generalize w7.drewN q = w8 at *
          have hH7 := hH7'
          have hC7 := hC7'
          have hB7 := hB7'
          go_wp2_with (first | (at_builtin; refine wpList_append_str rfl _ _ 89 rfl w.heap.size 90 90 (.slice none 0 0) 1 24 2 Try.underlying89 (by kernel_rfl) rfl (by decide) _ (2 * S.length) _ [_, _] (0, 0) hH7.out.ownL rfl (by simp [Value.oneCell']) (by have := hSl.out; unfold maxLen; omega) (by have := hSl.out; omega) hB7.out.size rfl rfl ?_; intro va' wg hA1; have hA1' := hid hA1; have hsg := hid (Nat.le_trans hB7.out.size hA1.grown.size); have hWo := hid (hH7.out.onM hA1); clear hA1) | (at_builtin; go_must (refine wpList_append_str rfl _ _ 89 rfl w.heap.size 90 90 (.slice none 0 0) 1 24 2 Try.underlying89 (by kernel_rfl) rfl (by decide) _ (2 * S.length) _ [_, _] (0, 0) hWo.out rfl (by simp [Value.oneCell']) (by have := hSl.out; unfold maxLen; omega) (by have := hSl.out; omega) hsg.out rfl rfl ?_); intro vb' ww hA2; go_loud (have q1w : ww.cell? ⟨ob, 1, none⟩ = some (.slice fo from_.length fc) := hA2.grown.cell (hA1'.out.grown.cell (by simpa using hC7.out.c1) (fun e => absurd (show ob < wr.heap.size from (hH.out.ownL.lt _ e.symm).2) (by rw [hOb.out]; exact Nat.lt_irrefl _))) (fun e => absurd (show ob < wr.heap.size from (hH.out.ownM.lt _ e.symm).2) (by rw [hOb.out]; exact Nat.lt_irrefl _)))))
          have hH8 := hid (hH4.out.pushS hH7.out (⟨.slice none 0 0, .slice none 0 0, .slice none 0 0, [], [], []⟩ : RT) ⟨rfl, rfl, ⟨fun r hr => absurd hr (by simp), fun r hr => absurd hr (by simp), by simp⟩, ⟨fun r hr => absurd hr (by simp), fun r hr => absurd hr (by simp), by simp⟩, ⟨fun r hr => absurd hr (by simp), fun r hr => absurd hr (by simp), by simp⟩⟩ hB4.out.size (rows_nil _ _) hA1'.out hA2)
          have hB8 := hid ((hB7.out.grown hA1'.out.grown hB7.out.size (fun q hq => (hH7.out.ownL.lt q hq).1)).grown hA2.grown hsg.out (fun q hq => (hWo.out.lt q hq).1))
          have hSl' : Hid ((S ++ ([⟨.slice none 0 0, .slice none 0 0, .slice none 0 0, [], [], []⟩] : List RT)).length ≤ k + 1) := by have := hSl.out; show (S ++ ([⟨.slice none 0 0, .slice none 0 0, .slice none 0 0, [], [], []⟩] : List RT)).length ≤ k + 1; rw [List.length_append, List.length_singleton]; omega
          have hS' : Hid (S ++ ([⟨.slice none 0 0, .slice none 0 0, .slice none 0 0, [], [], []⟩] : List RT) = [] → va' = .slice none 0 0) := fun h => absurd h (by simp)
          have hSm' : Hid (((S ++ ([⟨.slice none 0 0, .slice none 0 0, .slice none 0 0, [], [], []⟩] : List RT)).map (fun t => t.R1.length)).sum ≤ ((rows.take (k + 1)).map (fun r => r.to_.length)).sum) := by
            have h1 := hSm.out
            have h2 := (Nat.zero_le 0)
            rw [hSk.out]
            simp only [Hid, List.map_append, List.sum_append, List.map_cons, List.map_nil, List.sum_cons, List.sum_nil, List.length_nil] at h1 h2 ⊢
            omega
          have qow := hA1'.out
          clear qow hA1' hA2 hWo hsg
          have h21 := over_any h (to_.length + 64) ch w.heap.size _ ww (hH8.out.row (E := [_])) (by omega)
          refine h21.mono ?_
          clear h21
          rintro e ww2 ⟨rfl, -, hgo⟩
          have hH9' := hid (St.over (E := [_]) hH8.out hgo)
          have hB9' := hid (hB8.out.grown hgo hB8.out.size (fun q hq => ((hH8.out.row (E := [_])).lt q hq).1))
          have q1w' : ww2.cell? ⟨ob, 1, none⟩ = some (.slice fo from_.length fc) := hgo.cell q1w (fun e => hHb.out e)
          clear hgo q1w hH8 hB8
          have hH9 := hH9'
          have hB9 := hB9'
          have q1w := q1w'
          clear q1w'
          go_wp2_with fail
          have hLw := hid (hr0.out.mono hB9.out)
          have hEw := hid (hEf.out ww2 (hH9.out.row (E := [])))
          have h20 := kept_any (some ⟨g, 0, none⟩) (from_.length + 64) cg fo from_.length fc from_ ww2 (by rw [lentL_len]) rfl (by omega) hEw.out.1 hLw.out.hf
          refine h20.mono ?_
          clear h20
          rintro e wk ⟨rfl, qk, rfl⟩
          have hbk := below_drewN' (Below.refl ww2.heap.size ww2) qk
          have hHk := hid (hH9.out.below hbk)
          have hBk := hid (hB9.out.trans (hbk.mono hB9.out.size))
          clear hbk q1w hH9 hB9 hLw hEw
          generalize ww2.drewN qk = wk at *
          go_wp2_with fail
          have h21 := over_any g (from_.length + 64) cg w.heap.size _ wk (hHk.out.row (E := [])) (by omega)
          refine h21.mono ?_
          clear h21
          rintro e wo ⟨rfl, -, hgo⟩
          have hHo := hid (St.over (E := []) hHk.out hgo)
          have hBo := hid (hBk.out.grown hgo hBk.out.size (fun q hq => ((hHk.out.row (E := [])).lt q hq).1))
          clear hgo
          go_wp2_with fail
          go_roundw
          case rel => exact ⟨_, T, k + 1, _, _, _, _, rfl, rfl, rfl, rfl, by go_num, by omega, hSl'.out, Nat.le_succ_of_le hTl.out, hS'.out, hT.out, hSm'.out, hHo.out, hBo.out⟩
          case measure => simp [intOf]; omega
      · cases hok : okR from_.length 0 (R.map RunW.two)
        · skip
          have hOk := hid hok
          clear hok
          have q3 : w3.cell? ⟨ob, 3, none⟩ = some (.slice ro R.length rc) := by simpa using hC3.out.c3
          go_wp2_with fail
          have h50 := lent50 ro rc R w3 (by omega) hL3.out.hr
          refine h50.mono ?_
          clear h50 q0 q3
          rintro e w4 ⟨rv, ru, rfl, hb4, D, hD, hLent⟩
          have hDD := hid hD
          obtain ⟨hDl, hDe⟩ := two_at hD
          have hdin : ∀ d ∈ D, ∃ i, ∃ (h1 : i < R.length), d.at_ = R[i].at_ ∧ d.l = R[i].l := fun d hd => by
            obtain ⟨i, hi, rfl⟩ := List.getElem_of_mem hd
            exact ⟨i, by omega, hDe i hi (by omega)⟩
          obtain ⟨rg, rcap, ruo, rug, ruc, hrv, hrcap, hrW, -⟩ := hLent.lies (fun d hd => by
            obtain ⟨i, hi, _, e⟩ := hdin d hd
            rw [e]; exact hL3.out.hr.byt i hi) (fun d hd => by
            obtain ⟨i, hi, e1, e2⟩ := hdin d hd
            rw [e1, e2]; exact ⟨hL3.out.hr.bat i hi, hL3.out.hr.bl i hi⟩)
          subst hrv
          rw [hDl] at hrcap hLent ⊢
          have hK4 := hid hLent
          have hW4 := hid hrW
          have hRl : (D.map LD.run).length = R.length := by rw [List.length_map]; exact hDl
          have hRL := hid hRl
          have hRt : (D.map LD.run).map RunW.two = R.map RunW.two := by rw [List.map_map]; exact hD
          have hRT := hid hRt
          have hy1 : (0 : Int) ≤ (R.length : Int) := by omega
          have hy2 : (R.length : Int) ≤ (rcap : Int) := by omega
          clear hD hDe hdin hLent hrW hRt hRl hDl
          have hC4 := hid (hC3.out.mono hb4)
          have hL4 := hid (hL3.out.mono hb4)
          have hH4 := hid (hH3.out.below hb4)
          have hB4 := hid (hB3.out.trans (hb4.mono hB3.out.size))
          have hs4 := hid (hb4.size)
          clear hb4
          have q1 : w4.cell? ⟨ob, 1, none⟩ = some (.slice fo from_.length fc) := by simpa using hC4.out.c1
          have q3 : w4.cell? ⟨ob, 3, none⟩ = some (.slice ro R.length rc) := by simpa using hC4.out.c3
          go_wp2_with fail
          have h51 := mend51 fo from_.length fc from_ ro rc R w4 rfl (by omega) (by omega) hL4.out.hf hL4.out.hr
          refine h51.mono ?_
          clear h51 q1 q3
          rintro e w5 ⟨hcase, hb5⟩
          obtain rfl := (hcase.resolve_left (fun h => by have := h.1; rw [hOk.out] at this; cases this)).2
          clear hcase
          have hC5 := hid (hC4.out.mono hb5)
          have hL5 := hid (hL4.out.mono hb5)
          have hH5 := hid (hH4.out.below hb5)
          have hB5 := hid (hB4.out.trans (hb5.mono hB4.out.size))
          have hs5 := hid (hb5.size)
          have hW5 := hid (hW4.out.mono hb5)
          have hK5 := hid (hK4.out.below hb5)
          clear hb5
          go_wp2_with fail
          have hS0 : Hid (w5.drew.cell? ⟨ob, 1, none⟩ = some (.slice fo from_.length fc) ∧ w5.drew.cell? ⟨ob, 3, none⟩ = some (.slice ro R.length rc)) := ⟨by simpa using hC5.out.c1, by simpa using hC5.out.c3⟩
          refine wp_region_held_drew (S := fun W => W.cell? ⟨ob, 1, none⟩ = some (.slice fo from_.length fc) ∧ W.cell? ⟨ob, 3, none⟩ = some (.slice ro R.length rc)) (by kernel_rfl) hS0.out (fun hHeld => ?_)
          refine wpAnyH_take (i := 0) (v := ?_) (by simp only [List.getElem?_toArray, List.getElem?_cons_succ, List.getElem?_cons_zero]; rfl) (by kernel_rfl) (by kernel_rfl) (by kernel_rfl) (by intro _ _ _ h; exact h) (Or.inl ⟨by rfl, ?_⟩) (by assumption) ?_
          rotate_left
          · intro w' hSw; (try dsimp only at hSw); go_simp; (try with_reducible rfl)
          try simp only [Act.put, List.setIfInBounds_toArray, List.set_cons_zero, List.set_cons_succ]
          refine wpAnyH_take (i := 1) (v := ?_) (by simp only [List.getElem?_toArray, List.getElem?_cons_succ, List.getElem?_cons_zero]; rfl) (by kernel_rfl) (by kernel_rfl) (by kernel_rfl) (by intro _ _ _ h; exact h) (Or.inl ⟨by rfl, ?_⟩) (by assumption) ?_
          rotate_left
          · intro w' hSw; (try dsimp only at hSw); go_simp; (try with_reducible rfl)
          try simp only [Act.put, List.setIfInBounds_toArray, List.set_cons_zero, List.set_cons_succ]
          refine wpAnyH_take (i := 2) (v := ?_) (by simp only [List.getElem?_toArray, List.getElem?_cons_succ, List.getElem?_cons_zero]; rfl) (by kernel_rfl) (by kernel_rfl) (by kernel_rfl) (by intro _ _ _ h; exact h) (Or.inl ⟨by rfl, ?_⟩) (by assumption) ?_
          rotate_left
          · intro w' hSw; (try dsimp only at hSw); go_simp; (try with_reducible rfl)
          try simp only [Act.put, List.setIfInBounds_toArray, List.set_cons_zero, List.set_cons_succ]
          refine wpAnyH_take (i := 3) (v := ?_) (by simp only [List.getElem?_toArray, List.getElem?_cons_succ, List.getElem?_cons_zero]; rfl) (by kernel_rfl) (by kernel_rfl) (by kernel_rfl) (by intro _ _ _ h; exact h) (Or.inl ⟨by rfl, ?_⟩) (by assumption) ?_
          rotate_left
          · intro w' hSw; (try dsimp only at hSw); go_simp; (try with_reducible rfl)
          try simp only [Act.put, List.setIfInBounds_toArray, List.set_cons_zero, List.set_cons_succ]
          refine wpAnyH_take (i := 4) (v := ?_) (by simp only [List.getElem?_toArray, List.getElem?_cons_succ, List.getElem?_cons_zero]; rfl) (by kernel_rfl) (by kernel_rfl) (by kernel_rfl) (by intro _ _ _ h; exact h) (Or.inl ⟨by rfl, ?_⟩) (by assumption) ?_
          rotate_left
          · intro w' hSw; (try dsimp only at hSw); go_simp; (try with_reducible rfl)
          try simp only [Act.put, List.setIfInBounds_toArray, List.set_cons_zero, List.set_cons_succ]
          refine wpAnyH_take (i := 5) (v := ?_) (by simp only [List.getElem?_toArray, List.getElem?_cons_succ, List.getElem?_cons_zero]; rfl) (by kernel_rfl) (by kernel_rfl) (by kernel_rfl) (by intro _ _ _ h; exact h) (Or.inl ⟨by rfl, ?_⟩) (by assumption) ?_
          rotate_left
          · intro w' hSw; (try dsimp only at hSw); go_simp; (try with_reducible rfl)
          try simp only [Act.put, List.setIfInBounds_toArray, List.set_cons_zero, List.set_cons_succ]
          refine wpAnyH_take (i := 6) (v := ?_) (by simp only [List.getElem?_toArray, List.getElem?_cons_succ, List.getElem?_cons_zero]; rfl) (by kernel_rfl) (by kernel_rfl) (by kernel_rfl) (by intro _ _ _ h; exact h) (Or.inl ⟨by rfl, ?_⟩) (by assumption) ?_
          rotate_left
          · intro w' hSw; (try dsimp only at hSw); go_simp; (try with_reducible rfl)
          try simp only [Act.put, List.setIfInBounds_toArray, List.set_cons_zero, List.set_cons_succ]
          refine wpAnyH_take (i := 7) (v := ?_) (by simp only [List.getElem?_toArray, List.getElem?_cons_succ, List.getElem?_cons_zero]; rfl) (by kernel_rfl) (by kernel_rfl) (by kernel_rfl) (by intro _ _ _ h; exact h) (Or.inl ⟨by rfl, ?_⟩) (by assumption) ?_
          rotate_left
          · intro w' hSw; (try dsimp only at hSw); go_simp; (try with_reducible rfl)
          try simp only [Act.put, List.setIfInBounds_toArray, List.set_cons_zero, List.set_cons_succ]
          refine wpAnyH_take (i := 8) (v := ?_) (by simp only [List.getElem?_toArray, List.getElem?_cons_succ, List.getElem?_cons_zero]; rfl) (by kernel_rfl) (by kernel_rfl) (by kernel_rfl) (by intro _ _ _ h; exact h) (Or.inl ⟨by rfl, ?_⟩) (by assumption) ?_
          rotate_left
          · intro w' hSw; (try dsimp only at hSw); go_simp; (try with_reducible rfl)
          try simp only [Act.put, List.setIfInBounds_toArray, List.set_cons_zero, List.set_cons_succ]
          refine wpAnyH_take (i := 9) (v := ?_) (by simp only [List.getElem?_toArray, List.getElem?_cons_succ, List.getElem?_cons_zero]; rfl) (by kernel_rfl) (by kernel_rfl) (by kernel_rfl) (by intro _ _ _ h; exact h) (Or.inl ⟨by rfl, ?_⟩) (by assumption) ?_
          rotate_left
          · intro w' hSw; (try dsimp only at hSw); go_simp; (try with_reducible rfl)
          try simp only [Act.put, List.setIfInBounds_toArray, List.set_cons_zero, List.set_cons_succ]
          have hI99 := (hEf.out w5.drew ((hH5.out.below (Below.refl _ _).drew).row (E := []))).2
          refine wpAnyH_ready (rs := [10]) (by kernel_rfl) (by simp) ?_
          refine AllReadyH.cons (by simp only [List.getElem?_toArray, List.getElem?_cons_succ, List.getElem?_cons_zero]; rfl) (fun K hK => ?_) AllReadyH.nil
          go_simp
          go_at_call 52
          have h99 := mend52 (some ⟨g, 0, none⟩) from_.length cg from_ (some ⟨rg, 0, none⟩) rcap (D.map LD.run) w5.drew rfl (by omega) (by rw [hRL.out]; omega) hI99 (hW5.out.mono ((Below.refl _ _).drew))
          rw [hRL.out] at h99
          refine h99.mono ?_
          clear h99 hI99
          rintro e w6 ⟨hcase, hb6'⟩
          have hb6 : Below w5.heap.size w5 w6 := ((Below.refl _ w5).drew).trans hb6'
          clear hb6'
          obtain rfl := (hcase.resolve_left (fun h => by have := h.1; rw [hRT.out, hOk.out] at this; cases this)).2
          clear hcase
          have hC6 := hid (hC5.out.mono hb6)
          have hL6 := hid (hL5.out.mono hb6)
          have hH6 := hid (hH5.out.below hb6)
          have hB6 := hid (hB5.out.trans (hb6.mono hB5.out.size))
          have hs6 := hid (hb6.size)
          have hW6 := hid (hW5.out.mono hb6)
          have hK6 := hid (hK5.out.below hb6)
          have hk' : w6.cell? ⟨ob, 1, none⟩ = some (.slice fo from_.length fc) ∧ w6.cell? ⟨ob, 3, none⟩ = some (.slice ro R.length rc) := ⟨by simpa using hC6.out.c1, by simpa using hC6.out.c3⟩
          clear hb6
          clear hHeld hS0
          go_wp2_with fail
          refine hK.out _ _ hk' (fun hHeld => ?_)
          clear hK K hk'
          try simp only [Act.put, List.setIfInBounds_toArray, List.set_cons_zero, List.set_cons_succ]
          refine wpAnyH_take (i := 11) (v := ?_) (by simp only [List.getElem?_toArray, List.getElem?_cons_succ, List.getElem?_cons_zero]; rfl) (by kernel_rfl) (by kernel_rfl) (by kernel_rfl) (by intro _ _ _ h; exact h) (Or.inl ⟨by rfl, ?_⟩) (by assumption) ?_
          rotate_left
          · intro w' hSw; (try dsimp only at hSw); go_simp; (try with_reducible rfl)
          try simp only [Act.put, List.setIfInBounds_toArray, List.set_cons_zero, List.set_cons_succ]
          refine wpAnyH_take (i := 12) (v := ?_) (by simp only [List.getElem?_toArray, List.getElem?_cons_succ, List.getElem?_cons_zero]; rfl) (by kernel_rfl) (by kernel_rfl) (by kernel_rfl) (by intro _ _ _ h; exact h) (Or.inl ⟨by rfl, ?_⟩) (by assumption) ?_
          rotate_left
          · intro w' hSw; (try dsimp only at hSw); go_simp; (try with_reducible rfl)
          try simp only [Act.put, List.setIfInBounds_toArray, List.set_cons_zero, List.set_cons_succ]
          refine wpAnyH_take (i := 13) (v := ?_) (by simp only [List.getElem?_toArray, List.getElem?_cons_succ, List.getElem?_cons_zero]; rfl) (by kernel_rfl) (by kernel_rfl) (by kernel_rfl) (by intro _ _ _ h; exact h) (Or.inl ⟨by rfl, ?_⟩) (by assumption) ?_
          rotate_left
          · intro w' hSw; (try dsimp only at hSw); go_simp; (try with_reducible rfl)
          try simp only [Act.put, List.setIfInBounds_toArray, List.set_cons_zero, List.set_cons_succ]
          refine wpAnyH_take (i := 14) (v := ?_) (by simp only [List.getElem?_toArray, List.getElem?_cons_succ, List.getElem?_cons_zero]; rfl) (by kernel_rfl) (by kernel_rfl) (by kernel_rfl) (by intro _ _ _ h; exact h) (Or.inl ⟨by rfl, ?_⟩) (by assumption) ?_
          rotate_left
          · intro w' hSw; (try dsimp only at hSw); go_simp; (try with_reducible rfl)
          try simp only [Act.put, List.setIfInBounds_toArray, List.set_cons_zero, List.set_cons_succ]
          refine wpAnyH_take (i := 15) (v := ?_) (by simp only [List.getElem?_toArray, List.getElem?_cons_succ, List.getElem?_cons_zero]; rfl) (by kernel_rfl) (by kernel_rfl) (by kernel_rfl) (by intro _ _ _ h; exact h) (Or.inl ⟨by rfl, ?_⟩) (by assumption) ?_
          rotate_left
          · intro w' hSw; (try dsimp only at hSw); go_simp; (try with_reducible rfl)
          try simp only [Act.put, List.setIfInBounds_toArray, List.set_cons_zero, List.set_cons_succ]
          refine wpAnyH_done (by kernel_rfl) ?_ _
          clear hHeld
          go_wp2_with fail
          have hS0 : Hid (w6.drew.cell? ⟨ob, 1, none⟩ = some (.slice fo from_.length fc) ∧ w6.drew.cell? ⟨ob, 3, none⟩ = some (.slice ro R.length rc)) := ⟨by simpa using hC6.out.c1, by simpa using hC6.out.c3⟩
          refine wp_region_held_drew (S := fun W => W.cell? ⟨ob, 1, none⟩ = some (.slice fo from_.length fc) ∧ W.cell? ⟨ob, 3, none⟩ = some (.slice ro R.length rc)) (by kernel_rfl) hS0.out (fun hHeld => ?_)
          refine wpAnyH_take (i := 0) (v := ?_) (by simp only [List.getElem?_toArray, List.getElem?_cons_succ, List.getElem?_cons_zero]; rfl) (by kernel_rfl) (by kernel_rfl) (by kernel_rfl) (by intro _ _ _ h; exact h) (Or.inl ⟨by rfl, ?_⟩) (by assumption) ?_
          rotate_left
          · intro w' hSw; (try dsimp only at hSw); go_simp; (try with_reducible rfl)
          try simp only [Act.put, List.setIfInBounds_toArray, List.set_cons_zero, List.set_cons_succ]
          refine wpAnyH_take (i := 1) (v := ?_) (by simp only [List.getElem?_toArray, List.getElem?_cons_succ, List.getElem?_cons_zero]; rfl) (by kernel_rfl) (by kernel_rfl) (by kernel_rfl) (by intro _ _ _ h; exact h) (Or.inl ⟨by rfl, ?_⟩) (by assumption) ?_
          rotate_left
          · intro w' hSw; (try dsimp only at hSw); go_simp; (try with_reducible rfl)
          try simp only [Act.put, List.setIfInBounds_toArray, List.set_cons_zero, List.set_cons_succ]
          refine wpAnyH_take (i := 2) (v := ?_) (by simp only [List.getElem?_toArray, List.getElem?_cons_succ, List.getElem?_cons_zero]; rfl) (by kernel_rfl) (by kernel_rfl) (by kernel_rfl) (by intro _ _ _ h; exact h) (Or.inl ⟨by rfl, ?_⟩) (by assumption) ?_
          rotate_left
          · intro w' hSw; (try dsimp only at hSw); go_simp; (try with_reducible rfl)
          try simp only [Act.put, List.setIfInBounds_toArray, List.set_cons_zero, List.set_cons_succ]
          refine wpAnyH_take (i := 3) (v := ?_) (by simp only [List.getElem?_toArray, List.getElem?_cons_succ, List.getElem?_cons_zero]; rfl) (by kernel_rfl) (by kernel_rfl) (by kernel_rfl) (by intro _ _ _ h; exact h) (Or.inl ⟨by rfl, ?_⟩) (by assumption) ?_
          rotate_left
          · intro w' hSw; (try dsimp only at hSw); go_simp; (try with_reducible rfl)
          try simp only [Act.put, List.setIfInBounds_toArray, List.set_cons_zero, List.set_cons_succ]
          refine wpAnyH_take (i := 4) (v := ?_) (by simp only [List.getElem?_toArray, List.getElem?_cons_succ, List.getElem?_cons_zero]; rfl) (by kernel_rfl) (by kernel_rfl) (by kernel_rfl) (by intro _ _ _ h; exact h) (Or.inl ⟨by rfl, ?_⟩) (by assumption) ?_
          rotate_left
          · intro w' hSw; (try dsimp only at hSw); go_simp; (try with_reducible rfl)
          try simp only [Act.put, List.setIfInBounds_toArray, List.set_cons_zero, List.set_cons_succ]
          refine wpAnyH_take (i := 5) (v := ?_) (by simp only [List.getElem?_toArray, List.getElem?_cons_succ, List.getElem?_cons_zero]; rfl) (by kernel_rfl) (by kernel_rfl) (by kernel_rfl) (by intro _ _ _ h; exact h) (Or.inl ⟨by rfl, ?_⟩) (by assumption) ?_
          rotate_left
          · intro w' hSw; (try dsimp only at hSw); go_simp; (try with_reducible rfl)
          try simp only [Act.put, List.setIfInBounds_toArray, List.set_cons_zero, List.set_cons_succ]
          refine wpAnyH_take (i := 6) (v := ?_) (by simp only [List.getElem?_toArray, List.getElem?_cons_succ, List.getElem?_cons_zero]; rfl) (by kernel_rfl) (by kernel_rfl) (by kernel_rfl) (by intro _ _ _ h; exact h) (Or.inl ⟨by rfl, ?_⟩) (by assumption) ?_
          rotate_left
          · intro w' hSw; (try dsimp only at hSw); go_simp; (try with_reducible rfl)
          try simp only [Act.put, List.setIfInBounds_toArray, List.set_cons_zero, List.set_cons_succ]
          refine wpAnyH_take (i := 7) (v := ?_) (by simp only [List.getElem?_toArray, List.getElem?_cons_succ, List.getElem?_cons_zero]; rfl) (by kernel_rfl) (by kernel_rfl) (by kernel_rfl) (by intro _ _ _ h; exact h) (Or.inl ⟨by rfl, ?_⟩) (by assumption) ?_
          rotate_left
          · intro w' hSw; (try dsimp only at hSw); go_simp; (try with_reducible rfl)
          try simp only [Act.put, List.setIfInBounds_toArray, List.set_cons_zero, List.set_cons_succ]
          refine wpAnyH_take (i := 8) (v := ?_) (by simp only [List.getElem?_toArray, List.getElem?_cons_succ, List.getElem?_cons_zero]; rfl) (by kernel_rfl) (by kernel_rfl) (by kernel_rfl) (by intro _ _ _ h; exact h) (Or.inl ⟨by rfl, ?_⟩) (by assumption) ?_
          rotate_left
          · intro w' hSw; (try dsimp only at hSw); go_simp; (try with_reducible rfl)
          try simp only [Act.put, List.setIfInBounds_toArray, List.set_cons_zero, List.set_cons_succ]
          refine wpAnyH_take (i := 9) (v := ?_) (by simp only [List.getElem?_toArray, List.getElem?_cons_succ, List.getElem?_cons_zero]; rfl) (by kernel_rfl) (by kernel_rfl) (by kernel_rfl) (by intro _ _ _ h; exact h) (Or.inl ⟨by rfl, ?_⟩) (by assumption) ?_
          rotate_left
          · intro w' hSw; (try dsimp only at hSw); go_simp; (try with_reducible rfl)
          try simp only [Act.put, List.setIfInBounds_toArray, List.set_cons_zero, List.set_cons_succ]
          have hI99 := (hEf.out w6.drew ((hH6.out.below (Below.refl _ _).drew).row (E := []))).2
          refine wpAnyH_ready (rs := [10]) (by kernel_rfl) (by simp) ?_
          refine AllReadyH.cons (by simp only [List.getElem?_toArray, List.getElem?_cons_succ, List.getElem?_cons_zero]; rfl) (fun K hK => ?_) AllReadyH.nil
          go_simp
          go_at_call 52
          have h99 := mend52 (some ⟨g, 0, none⟩) from_.length cg from_ (some ⟨rg, 0, none⟩) rcap (D.map LD.run) w6.drew rfl (by omega) (by rw [hRL.out]; omega) hI99 (hW6.out.mono ((Below.refl _ _).drew))
          rw [hRL.out] at h99
          refine h99.mono ?_
          clear h99 hI99
          rintro e w7 ⟨hcase, hb7'⟩
          have hb7 : Below w6.heap.size w6 w7 := ((Below.refl _ w6).drew).trans hb7'
          clear hb7'
          obtain rfl := (hcase.resolve_left (fun h => by have := h.1; rw [hRT.out, hOk.out] at this; cases this)).2
          clear hcase
          have hC7 := hid (hC6.out.mono hb7)
          have hL7 := hid (hL6.out.mono hb7)
          have hH7 := hid (hH6.out.below hb7)
          have hB7 := hid (hB6.out.trans (hb7.mono hB6.out.size))
          have hs7 := hid (hb7.size)
          have hW7 := hid (hW6.out.mono hb7)
          have hK7 := hid (hK6.out.below hb7)
          have hk' : w7.cell? ⟨ob, 1, none⟩ = some (.slice fo from_.length fc) ∧ w7.cell? ⟨ob, 3, none⟩ = some (.slice ro R.length rc) := ⟨by simpa using hC7.out.c1, by simpa using hC7.out.c3⟩
          clear hb7
          clear hHeld hS0
          go_wp2_with fail
          refine hK.out _ _ hk' (fun hHeld => ?_)
          clear hK K hk'
          try simp only [Act.put, List.setIfInBounds_toArray, List.set_cons_zero, List.set_cons_succ]
          refine wpAnyH_take (i := 11) (v := ?_) (by simp only [List.getElem?_toArray, List.getElem?_cons_succ, List.getElem?_cons_zero]; rfl) (by kernel_rfl) (by kernel_rfl) (by kernel_rfl) (by intro _ _ _ h; exact h) (Or.inl ⟨by rfl, ?_⟩) (by assumption) ?_
          rotate_left
          · intro w' hSw; (try dsimp only at hSw); go_simp; (try with_reducible rfl)
          try simp only [Act.put, List.setIfInBounds_toArray, List.set_cons_zero, List.set_cons_succ]
          refine wpAnyH_take (i := 12) (v := ?_) (by simp only [List.getElem?_toArray, List.getElem?_cons_succ, List.getElem?_cons_zero]; rfl) (by kernel_rfl) (by kernel_rfl) (by kernel_rfl) (by intro _ _ _ h; exact h) (Or.inl ⟨by rfl, ?_⟩) (by assumption) ?_
          rotate_left
          · intro w' hSw; (try dsimp only at hSw); go_simp; (try with_reducible rfl)
          try simp only [Act.put, List.setIfInBounds_toArray, List.set_cons_zero, List.set_cons_succ]
          refine wpAnyH_take (i := 13) (v := ?_) (by simp only [List.getElem?_toArray, List.getElem?_cons_succ, List.getElem?_cons_zero]; rfl) (by kernel_rfl) (by kernel_rfl) (by kernel_rfl) (by intro _ _ _ h; exact h) (Or.inl ⟨by rfl, ?_⟩) (by assumption) ?_
          rotate_left
          · intro w' hSw; (try dsimp only at hSw); go_simp; (try with_reducible rfl)
          try simp only [Act.put, List.setIfInBounds_toArray, List.set_cons_zero, List.set_cons_succ]
          refine wpAnyH_take (i := 14) (v := ?_) (by simp only [List.getElem?_toArray, List.getElem?_cons_succ, List.getElem?_cons_zero]; rfl) (by kernel_rfl) (by kernel_rfl) (by kernel_rfl) (by intro _ _ _ h; exact h) (Or.inl ⟨by rfl, ?_⟩) (by assumption) ?_
          rotate_left
          · intro w' hSw; (try dsimp only at hSw); go_simp; (try with_reducible rfl)
          try simp only [Act.put, List.setIfInBounds_toArray, List.set_cons_zero, List.set_cons_succ]
          refine wpAnyH_take (i := 15) (v := ?_) (by simp only [List.getElem?_toArray, List.getElem?_cons_succ, List.getElem?_cons_zero]; rfl) (by kernel_rfl) (by kernel_rfl) (by kernel_rfl) (by intro _ _ _ h; exact h) (Or.inl ⟨by rfl, ?_⟩) (by assumption) ?_
          rotate_left
          · intro w' hSw; (try dsimp only at hSw); go_simp; (try with_reducible rfl)
          try simp only [Act.put, List.setIfInBounds_toArray, List.set_cons_zero, List.set_cons_succ]
          refine wpAnyH_done (by kernel_rfl) ?_ _
          clear hHeld
          have q3 : w7.cell? ⟨ob, 3, none⟩ = some (.slice ro R.length rc) := by simpa using hC7.out.c3
          go_wp2_with fail
          have h53 := kept53 _ ru w3.heap.size D ro rc R w7 (by omega) hDD.out hK7.out hL7.out.hr
          refine h53.mono ?_
          clear h53 q3
          rintro e w8 ⟨rfl, q, rfl⟩
          have hb8 := below_drewN' (Below.refl w7.heap.size w7) q
          have hH7' := hid (hH7.out.below hb8)
          have hC7' := hid (hC7.out.mono hb8)
          have hB7' := hid (hB7.out.trans (hb8.mono hB7.out.size))
          clear hb8 hH7 hC7 hB7 hK4 hK5 hK6 hK7 hW4 hW5 hW6 hW7
          generalize w7.drewN q = w8 at *
          have hH7 := hH7'
          have hC7 := hC7'
          have hB7 := hB7'
          go_wp2_with (first | (at_builtin; refine wpList_append_str rfl _ _ 63 rfl w.heap.size 23 23 (.slice none 0 0) 1 24 2 Try.underlying63 (by kernel_rfl) rfl (by decide) _ ((T.flatMap Trip.got).length) _ [_, _] (0, 0) hH7.out.ownC rfl (by simp [Value.oneCell']) (by rw [got_len]; have := hTl.out; unfold maxLen; omega) (by rw [got_len]; have := hTl.out; omega) hB7.out.size rfl rfl ?_; intro va' wg hA1; have hA1' := hid hA1; have hsg := hid (Nat.le_trans hB7.out.size hA1.grown.size); have hWo := hid (hH7.out.onP hA1); clear hA1) | (at_builtin; go_must (refine wpList_append_str rfl _ _ 63 rfl w.heap.size 23 23 (.slice none 0 0) 1 24 2 Try.underlying63 (by kernel_rfl) rfl (by decide) _ ((T.flatMap Trip.want).length) _ [_, _] (0, 0) hWo.out rfl (by simp [Value.oneCell']) (by rw [want_len]; have := hTl.out; unfold maxLen; omega) (by rw [want_len]; have := hTl.out; omega) hsg.out rfl rfl ?_); intro vb' ww hA2; go_loud (have q1w : ww.cell? ⟨ob, 1, none⟩ = some (.slice fo from_.length fc) := hA2.grown.cell (hA1'.out.grown.cell (by simpa using hC7.out.c1) (fun e => absurd (show ob < wr.heap.size from (hH.out.ownC.lt _ e.symm).2) (by rw [hOb.out]; exact Nat.lt_irrefl _))) (fun e => absurd (show ob < wr.heap.size from (hH.out.ownP.lt _ e.symm).2) (by rw [hOb.out]; exact Nat.lt_irrefl _)))))
          have hH9 := hid (hH4.out.pushT hH7.out ⟨⟨.slice none 0 0, 5, 1, 0, []⟩, ⟨.slice none 0 0, 5, 1, 0, []⟩, ⟨.slice none 0 0, 5, 1, 0, []⟩, []⟩ ⟨⟨rfl, rfl, rfl, by decide, rfl⟩, ⟨rfl, rfl, rfl, by decide, rfl⟩, ⟨rfl, rfl, rfl, by decide, rfl⟩, fun b hb => by cases hb⟩ hB4.out.size (World.ownsRow_nil _ _ 5 1) (World.ownsRow_nil _ _ 5 1) (World.ownsRow_nil _ _ 5 1) (.inl rfl) (.inl rfl) (.inl rfl) hA1'.out hA2)
          have hB9 := hid ((hB7.out.grown hA1'.out.grown hB7.out.size (fun q hq => (hH7.out.ownC.lt q hq).1)).grown hA2.grown hsg.out (fun q hq => (hWo.out.lt q hq).1))
          have hTl' : Hid ((T ++ ([⟨⟨.slice none 0 0, 5, 1, 0, []⟩, ⟨.slice none 0 0, 5, 1, 0, []⟩, ⟨.slice none 0 0, 5, 1, 0, []⟩, []⟩] : List Trip)).length ≤ k + 1) := by have := hTl.out; show (T ++ ([⟨⟨.slice none 0 0, 5, 1, 0, []⟩, ⟨.slice none 0 0, 5, 1, 0, []⟩, ⟨.slice none 0 0, 5, 1, 0, []⟩, []⟩] : List Trip)).length ≤ k + 1; rw [List.length_append, List.length_singleton]; omega
          have hT' : Hid (T ++ ([⟨⟨.slice none 0 0, 5, 1, 0, []⟩, ⟨.slice none 0 0, 5, 1, 0, []⟩, ⟨.slice none 0 0, 5, 1, 0, []⟩, []⟩] : List Trip) = [] → va' = .slice none 0 0) := fun h => absurd h (by simp)
          clear hA1' hA2 hWo hsg
          have hLw := hid (hr0.out.mono hB9.out)
          have hEw := hid (hEf.out ww (hH9.out.row (E := [])))
          have h20 := kept_any (some ⟨g, 0, none⟩) (from_.length + 64) cg fo from_.length fc from_ ww (by rw [lentL_len]) rfl (by omega) hEw.out.1 hLw.out.hf
          refine h20.mono ?_
          clear h20
          rintro e wk ⟨rfl, qk, rfl⟩
          have hbk := below_drewN' (Below.refl ww.heap.size ww) qk
          have hHk := hid (hH9.out.below hbk)
          have hBk := hid (hB9.out.trans (hbk.mono hB9.out.size))
          clear hbk q1w hH9 hB9 hLw hEw
          generalize ww.drewN qk = wk at *
          go_wp2_with fail
          have h21 := over_any g (from_.length + 64) cg w.heap.size _ wk (hHk.out.row (E := [])) (by omega)
          refine h21.mono ?_
          clear h21
          rintro e wo ⟨rfl, -, hgo⟩
          have hHo := hid (St.over (E := []) hHk.out hgo)
          have hBo := hid (hBk.out.grown hgo hBk.out.size (fun q hq => ((hHk.out.row (E := [])).lt q hq).1))
          clear hgo
          go_wp2_with fail
          go_roundw
          case rel => exact ⟨S, _, k + 1, _, _, _, _, rfl, rfl, rfl, rfl, by go_num, by omega, Nat.le_succ_of_le hSl.out, hTl'.out, hS.out, hT'.out, by rw [hSk.out]; exact Nat.le_trans hSm.out (Nat.le_add_right _ _), hHo.out, hBo.out⟩
          case measure => simp [intOf]; omega
        · skip
          have hOk := hid hok
          clear hok
          have q3 : w3.cell? ⟨ob, 3, none⟩ = some (.slice ro R.length rc) := by simpa using hC3.out.c3
          go_wp2_with fail
          have h50 := lent50 ro rc R w3 (by omega) hL3.out.hr
          refine h50.mono ?_
          clear h50 q0 q3
          rintro e w4 ⟨rv, ru, rfl, hb4, D, hD, hLent⟩
          have hDD := hid hD
          obtain ⟨hDl, hDe⟩ := two_at hD
          have hdin : ∀ d ∈ D, ∃ i, ∃ (h1 : i < R.length), d.at_ = R[i].at_ ∧ d.l = R[i].l := fun d hd => by
            obtain ⟨i, hi, rfl⟩ := List.getElem_of_mem hd
            exact ⟨i, by omega, hDe i hi (by omega)⟩
          obtain ⟨rg, rcap, ruo, rug, ruc, hrv, hrcap, hrW, -⟩ := hLent.lies (fun d hd => by
            obtain ⟨i, hi, _, e⟩ := hdin d hd
            rw [e]; exact hL3.out.hr.byt i hi) (fun d hd => by
            obtain ⟨i, hi, e1, e2⟩ := hdin d hd
            rw [e1, e2]; exact ⟨hL3.out.hr.bat i hi, hL3.out.hr.bl i hi⟩)
          subst hrv
          rw [hDl] at hrcap hLent ⊢
          have hK4 := hid hLent
          have hW4 := hid hrW
          have hRl : (D.map LD.run).length = R.length := by rw [List.length_map]; exact hDl
          have hRL := hid hRl
          have hRt : (D.map LD.run).map RunW.two = R.map RunW.two := by rw [List.map_map]; exact hD
          have hRT := hid hRt
          have hy1 : (0 : Int) ≤ (R.length : Int) := by omega
          have hy2 : (R.length : Int) ≤ (rcap : Int) := by omega
          clear hD hDe hdin hLent hrW hRt hRl hDl
          have hC4 := hid (hC3.out.mono hb4)
          have hL4 := hid (hL3.out.mono hb4)
          have hH4 := hid (hH3.out.below hb4)
          have hB4 := hid (hB3.out.trans (hb4.mono hB3.out.size))
          have hs4 := hid (hb4.size)
          clear hb4
          have q1 : w4.cell? ⟨ob, 1, none⟩ = some (.slice fo from_.length fc) := by simpa using hC4.out.c1
          have q3 : w4.cell? ⟨ob, 3, none⟩ = some (.slice ro R.length rc) := by simpa using hC4.out.c3
          go_wp2_with fail
          have h51 := mend51 fo from_.length fc from_ ro rc R w4 rfl (by omega) (by omega) hL4.out.hf hL4.out.hr
          refine h51.mono ?_
          clear h51 q1 q3
          rintro e w5 ⟨hcase, hb5⟩
          obtain ⟨v5, rfl, ho5⟩ := (hcase.resolve_right (fun h => by have := h.1; rw [hOk.out] at this; cases this)).2
          have hO5 := hid ho5
          clear ho5 hcase
          have hC5 := hid (hC4.out.mono hb5)
          have hL5 := hid (hL4.out.mono hb5)
          have hH5 := hid (hH4.out.below hb5)
          have hB5 := hid (hB4.out.trans (hb5.mono hB4.out.size))
          have hs5 := hid (hb5.size)
          have hW5 := hid (hW4.out.mono hb5)
          have hK5 := hid (hK4.out.below hb5)
          clear hb5
          go_wp2_with fail
          have hS0 : Hid (w5.drew.cell? ⟨ob, 1, none⟩ = some (.slice fo from_.length fc) ∧ w5.drew.cell? ⟨ob, 3, none⟩ = some (.slice ro R.length rc)) := ⟨by simpa using hC5.out.c1, by simpa using hC5.out.c3⟩
          refine wp_region_held_drew (S := fun W => W.cell? ⟨ob, 1, none⟩ = some (.slice fo from_.length fc) ∧ W.cell? ⟨ob, 3, none⟩ = some (.slice ro R.length rc)) (by kernel_rfl) hS0.out (fun hHeld => ?_)
          refine wpAnyH_take (i := 0) (v := ?_) (by simp only [List.getElem?_toArray, List.getElem?_cons_succ, List.getElem?_cons_zero]; rfl) (by kernel_rfl) (by kernel_rfl) (by kernel_rfl) (by intro _ _ _ h; exact h) (Or.inl ⟨by rfl, ?_⟩) (by assumption) ?_
          rotate_left
          · intro w' hSw; (try dsimp only at hSw); go_simp; (try with_reducible rfl)
          try simp only [Act.put, List.setIfInBounds_toArray, List.set_cons_zero, List.set_cons_succ]
          refine wpAnyH_take (i := 1) (v := ?_) (by simp only [List.getElem?_toArray, List.getElem?_cons_succ, List.getElem?_cons_zero]; rfl) (by kernel_rfl) (by kernel_rfl) (by kernel_rfl) (by intro _ _ _ h; exact h) (Or.inl ⟨by rfl, ?_⟩) (by assumption) ?_
          rotate_left
          · intro w' hSw; (try dsimp only at hSw); go_simp; (try with_reducible rfl)
          try simp only [Act.put, List.setIfInBounds_toArray, List.set_cons_zero, List.set_cons_succ]
          refine wpAnyH_take (i := 2) (v := ?_) (by simp only [List.getElem?_toArray, List.getElem?_cons_succ, List.getElem?_cons_zero]; rfl) (by kernel_rfl) (by kernel_rfl) (by kernel_rfl) (by intro _ _ _ h; exact h) (Or.inl ⟨by rfl, ?_⟩) (by assumption) ?_
          rotate_left
          · intro w' hSw; (try dsimp only at hSw); go_simp; (try with_reducible rfl)
          try simp only [Act.put, List.setIfInBounds_toArray, List.set_cons_zero, List.set_cons_succ]
          refine wpAnyH_take (i := 3) (v := ?_) (by simp only [List.getElem?_toArray, List.getElem?_cons_succ, List.getElem?_cons_zero]; rfl) (by kernel_rfl) (by kernel_rfl) (by kernel_rfl) (by intro _ _ _ h; exact h) (Or.inl ⟨by rfl, ?_⟩) (by assumption) ?_
          rotate_left
          · intro w' hSw; (try dsimp only at hSw); go_simp; (try with_reducible rfl)
          try simp only [Act.put, List.setIfInBounds_toArray, List.set_cons_zero, List.set_cons_succ]
          refine wpAnyH_take (i := 4) (v := ?_) (by simp only [List.getElem?_toArray, List.getElem?_cons_succ, List.getElem?_cons_zero]; rfl) (by kernel_rfl) (by kernel_rfl) (by kernel_rfl) (by intro _ _ _ h; exact h) (Or.inl ⟨by rfl, ?_⟩) (by assumption) ?_
          rotate_left
          · intro w' hSw; (try dsimp only at hSw); go_simp; (try with_reducible rfl)
          try simp only [Act.put, List.setIfInBounds_toArray, List.set_cons_zero, List.set_cons_succ]
          refine wpAnyH_take (i := 5) (v := ?_) (by simp only [List.getElem?_toArray, List.getElem?_cons_succ, List.getElem?_cons_zero]; rfl) (by kernel_rfl) (by kernel_rfl) (by kernel_rfl) (by intro _ _ _ h; exact h) (Or.inl ⟨by rfl, ?_⟩) (by assumption) ?_
          rotate_left
          · intro w' hSw; (try dsimp only at hSw); go_simp; (try with_reducible rfl)
          try simp only [Act.put, List.setIfInBounds_toArray, List.set_cons_zero, List.set_cons_succ]
          refine wpAnyH_take (i := 6) (v := ?_) (by simp only [List.getElem?_toArray, List.getElem?_cons_succ, List.getElem?_cons_zero]; rfl) (by kernel_rfl) (by kernel_rfl) (by kernel_rfl) (by intro _ _ _ h; exact h) (Or.inl ⟨by rfl, ?_⟩) (by assumption) ?_
          rotate_left
          · intro w' hSw; (try dsimp only at hSw); go_simp; (try with_reducible rfl)
          try simp only [Act.put, List.setIfInBounds_toArray, List.set_cons_zero, List.set_cons_succ]
          refine wpAnyH_take (i := 7) (v := ?_) (by simp only [List.getElem?_toArray, List.getElem?_cons_succ, List.getElem?_cons_zero]; rfl) (by kernel_rfl) (by kernel_rfl) (by kernel_rfl) (by intro _ _ _ h; exact h) (Or.inl ⟨by rfl, ?_⟩) (by assumption) ?_
          rotate_left
          · intro w' hSw; (try dsimp only at hSw); go_simp; (try with_reducible rfl)
          try simp only [Act.put, List.setIfInBounds_toArray, List.set_cons_zero, List.set_cons_succ]
          refine wpAnyH_take (i := 8) (v := ?_) (by simp only [List.getElem?_toArray, List.getElem?_cons_succ, List.getElem?_cons_zero]; rfl) (by kernel_rfl) (by kernel_rfl) (by kernel_rfl) (by intro _ _ _ h; exact h) (Or.inl ⟨by rfl, ?_⟩) (by assumption) ?_
          rotate_left
          · intro w' hSw; (try dsimp only at hSw); go_simp; (try with_reducible rfl)
          try simp only [Act.put, List.setIfInBounds_toArray, List.set_cons_zero, List.set_cons_succ]
          refine wpAnyH_take (i := 9) (v := ?_) (by simp only [List.getElem?_toArray, List.getElem?_cons_succ, List.getElem?_cons_zero]; rfl) (by kernel_rfl) (by kernel_rfl) (by kernel_rfl) (by intro _ _ _ h; exact h) (Or.inl ⟨by rfl, ?_⟩) (by assumption) ?_
          rotate_left
          · intro w' hSw; (try dsimp only at hSw); go_simp; (try with_reducible rfl)
          try simp only [Act.put, List.setIfInBounds_toArray, List.set_cons_zero, List.set_cons_succ]
          have hI99 := (hEf.out w5.drew ((hH5.out.below (Below.refl _ _).drew).row (E := []))).2
          refine wpAnyH_ready (rs := [10]) (by kernel_rfl) (by simp) ?_
          refine AllReadyH.cons (by simp only [List.getElem?_toArray, List.getElem?_cons_succ, List.getElem?_cons_zero]; rfl) (fun K hK => ?_) AllReadyH.nil
          go_simp
          go_at_call 52
          have h99 := mend52 (some ⟨g, 0, none⟩) from_.length cg from_ (some ⟨rg, 0, none⟩) rcap (D.map LD.run) w5.drew rfl (by omega) (by rw [hRL.out]; omega) hI99 (hW5.out.mono ((Below.refl _ _).drew))
          rw [hRL.out] at h99
          refine h99.mono ?_
          clear h99 hI99
          rintro e w6 ⟨hcase, hb6'⟩
          have hb6 : Below w5.heap.size w5 w6 := ((Below.refl _ w5).drew).trans hb6'
          clear hb6'
          obtain ⟨v6, rfl, ho6⟩ := (hcase.resolve_right (fun h => by have := h.1; rw [hRT.out, hOk.out] at this; cases this)).2
          have hO6 := hid ho6
          clear ho6 hcase
          have hC6 := hid (hC5.out.mono hb6)
          have hL6 := hid (hL5.out.mono hb6)
          have hH6 := hid (hH5.out.below hb6)
          have hB6 := hid (hB5.out.trans (hb6.mono hB5.out.size))
          have hs6 := hid (hb6.size)
          have hW6 := hid (hW5.out.mono hb6)
          have hK6 := hid (hK5.out.below hb6)
          have hO56 := hid (own_mono hO5.out hb6 (Nat.le_refl _))
          have a13 := hid (own_apart hO5.out hO6.out (Nat.le_refl _))
          have hk' : w6.cell? ⟨ob, 1, none⟩ = some (.slice fo from_.length fc) ∧ w6.cell? ⟨ob, 3, none⟩ = some (.slice ro R.length rc) := ⟨by simpa using hC6.out.c1, by simpa using hC6.out.c3⟩
          clear hb6
          clear hHeld hS0
          go_wp2_with fail
          refine hK.out _ _ hk' (fun hHeld => ?_)
          clear hK K hk'
          try simp only [Act.put, List.setIfInBounds_toArray, List.set_cons_zero, List.set_cons_succ]
          refine wpAnyH_take (i := 11) (v := ?_) (by simp only [List.getElem?_toArray, List.getElem?_cons_succ, List.getElem?_cons_zero]; rfl) (by kernel_rfl) (by kernel_rfl) (by kernel_rfl) (by intro _ _ _ h; exact h) (Or.inl ⟨by rfl, ?_⟩) (by assumption) ?_
          rotate_left
          · intro w' hSw; (try dsimp only at hSw); go_simp; (try with_reducible rfl)
          try simp only [Act.put, List.setIfInBounds_toArray, List.set_cons_zero, List.set_cons_succ]
          refine wpAnyH_take (i := 12) (v := ?_) (by simp only [List.getElem?_toArray, List.getElem?_cons_succ, List.getElem?_cons_zero]; rfl) (by kernel_rfl) (by kernel_rfl) (by kernel_rfl) (by intro _ _ _ h; exact h) (Or.inl ⟨by rfl, ?_⟩) (by assumption) ?_
          rotate_left
          · intro w' hSw; (try dsimp only at hSw); go_simp; (try with_reducible rfl)
          try simp only [Act.put, List.setIfInBounds_toArray, List.set_cons_zero, List.set_cons_succ]
          refine wpAnyH_take (i := 13) (v := ?_) (by simp only [List.getElem?_toArray, List.getElem?_cons_succ, List.getElem?_cons_zero]; rfl) (by kernel_rfl) (by kernel_rfl) (by kernel_rfl) (by intro _ _ _ h; exact h) (Or.inl ⟨by rfl, ?_⟩) (by assumption) ?_
          rotate_left
          · intro w' hSw; (try dsimp only at hSw); go_simp; (try with_reducible rfl)
          try simp only [Act.put, List.setIfInBounds_toArray, List.set_cons_zero, List.set_cons_succ]
          refine wpAnyH_take (i := 14) (v := ?_) (by simp only [List.getElem?_toArray, List.getElem?_cons_succ, List.getElem?_cons_zero]; rfl) (by kernel_rfl) (by kernel_rfl) (by kernel_rfl) (by intro _ _ _ h; exact h) (Or.inl ⟨by rfl, ?_⟩) (by assumption) ?_
          rotate_left
          · intro w' hSw; (try dsimp only at hSw); go_simp; (try with_reducible rfl)
          try simp only [Act.put, List.setIfInBounds_toArray, List.set_cons_zero, List.set_cons_succ]
          refine wpAnyH_take (i := 15) (v := ?_) (by simp only [List.getElem?_toArray, List.getElem?_cons_succ, List.getElem?_cons_zero]; rfl) (by kernel_rfl) (by kernel_rfl) (by kernel_rfl) (by intro _ _ _ h; exact h) (Or.inl ⟨by rfl, ?_⟩) (by assumption) ?_
          rotate_left
          · intro w' hSw; (try dsimp only at hSw); go_simp; (try with_reducible rfl)
          try simp only [Act.put, List.setIfInBounds_toArray, List.set_cons_zero, List.set_cons_succ]
          refine wpAnyH_done (by kernel_rfl) ?_ _
          clear hHeld
          go_wp2_with fail
          have hS0 : Hid (w6.drew.cell? ⟨ob, 1, none⟩ = some (.slice fo from_.length fc) ∧ w6.drew.cell? ⟨ob, 3, none⟩ = some (.slice ro R.length rc)) := ⟨by simpa using hC6.out.c1, by simpa using hC6.out.c3⟩
          refine wp_region_held_drew (S := fun W => W.cell? ⟨ob, 1, none⟩ = some (.slice fo from_.length fc) ∧ W.cell? ⟨ob, 3, none⟩ = some (.slice ro R.length rc)) (by kernel_rfl) hS0.out (fun hHeld => ?_)
          refine wpAnyH_take (i := 0) (v := ?_) (by simp only [List.getElem?_toArray, List.getElem?_cons_succ, List.getElem?_cons_zero]; rfl) (by kernel_rfl) (by kernel_rfl) (by kernel_rfl) (by intro _ _ _ h; exact h) (Or.inl ⟨by rfl, ?_⟩) (by assumption) ?_
          rotate_left
          · intro w' hSw; (try dsimp only at hSw); go_simp; (try with_reducible rfl)
          try simp only [Act.put, List.setIfInBounds_toArray, List.set_cons_zero, List.set_cons_succ]
          refine wpAnyH_take (i := 1) (v := ?_) (by simp only [List.getElem?_toArray, List.getElem?_cons_succ, List.getElem?_cons_zero]; rfl) (by kernel_rfl) (by kernel_rfl) (by kernel_rfl) (by intro _ _ _ h; exact h) (Or.inl ⟨by rfl, ?_⟩) (by assumption) ?_
          rotate_left
          · intro w' hSw; (try dsimp only at hSw); go_simp; (try with_reducible rfl)
          try simp only [Act.put, List.setIfInBounds_toArray, List.set_cons_zero, List.set_cons_succ]
          refine wpAnyH_take (i := 2) (v := ?_) (by simp only [List.getElem?_toArray, List.getElem?_cons_succ, List.getElem?_cons_zero]; rfl) (by kernel_rfl) (by kernel_rfl) (by kernel_rfl) (by intro _ _ _ h; exact h) (Or.inl ⟨by rfl, ?_⟩) (by assumption) ?_
          rotate_left
          · intro w' hSw; (try dsimp only at hSw); go_simp; (try with_reducible rfl)
          try simp only [Act.put, List.setIfInBounds_toArray, List.set_cons_zero, List.set_cons_succ]
          refine wpAnyH_take (i := 3) (v := ?_) (by simp only [List.getElem?_toArray, List.getElem?_cons_succ, List.getElem?_cons_zero]; rfl) (by kernel_rfl) (by kernel_rfl) (by kernel_rfl) (by intro _ _ _ h; exact h) (Or.inl ⟨by rfl, ?_⟩) (by assumption) ?_
          rotate_left
          · intro w' hSw; (try dsimp only at hSw); go_simp; (try with_reducible rfl)
          try simp only [Act.put, List.setIfInBounds_toArray, List.set_cons_zero, List.set_cons_succ]
          refine wpAnyH_take (i := 4) (v := ?_) (by simp only [List.getElem?_toArray, List.getElem?_cons_succ, List.getElem?_cons_zero]; rfl) (by kernel_rfl) (by kernel_rfl) (by kernel_rfl) (by intro _ _ _ h; exact h) (Or.inl ⟨by rfl, ?_⟩) (by assumption) ?_
          rotate_left
          · intro w' hSw; (try dsimp only at hSw); go_simp; (try with_reducible rfl)
          try simp only [Act.put, List.setIfInBounds_toArray, List.set_cons_zero, List.set_cons_succ]
          refine wpAnyH_take (i := 5) (v := ?_) (by simp only [List.getElem?_toArray, List.getElem?_cons_succ, List.getElem?_cons_zero]; rfl) (by kernel_rfl) (by kernel_rfl) (by kernel_rfl) (by intro _ _ _ h; exact h) (Or.inl ⟨by rfl, ?_⟩) (by assumption) ?_
          rotate_left
          · intro w' hSw; (try dsimp only at hSw); go_simp; (try with_reducible rfl)
          try simp only [Act.put, List.setIfInBounds_toArray, List.set_cons_zero, List.set_cons_succ]
          refine wpAnyH_take (i := 6) (v := ?_) (by simp only [List.getElem?_toArray, List.getElem?_cons_succ, List.getElem?_cons_zero]; rfl) (by kernel_rfl) (by kernel_rfl) (by kernel_rfl) (by intro _ _ _ h; exact h) (Or.inl ⟨by rfl, ?_⟩) (by assumption) ?_
          rotate_left
          · intro w' hSw; (try dsimp only at hSw); go_simp; (try with_reducible rfl)
          try simp only [Act.put, List.setIfInBounds_toArray, List.set_cons_zero, List.set_cons_succ]
          refine wpAnyH_take (i := 7) (v := ?_) (by simp only [List.getElem?_toArray, List.getElem?_cons_succ, List.getElem?_cons_zero]; rfl) (by kernel_rfl) (by kernel_rfl) (by kernel_rfl) (by intro _ _ _ h; exact h) (Or.inl ⟨by rfl, ?_⟩) (by assumption) ?_
          rotate_left
          · intro w' hSw; (try dsimp only at hSw); go_simp; (try with_reducible rfl)
          try simp only [Act.put, List.setIfInBounds_toArray, List.set_cons_zero, List.set_cons_succ]
          refine wpAnyH_take (i := 8) (v := ?_) (by simp only [List.getElem?_toArray, List.getElem?_cons_succ, List.getElem?_cons_zero]; rfl) (by kernel_rfl) (by kernel_rfl) (by kernel_rfl) (by intro _ _ _ h; exact h) (Or.inl ⟨by rfl, ?_⟩) (by assumption) ?_
          rotate_left
          · intro w' hSw; (try dsimp only at hSw); go_simp; (try with_reducible rfl)
          try simp only [Act.put, List.setIfInBounds_toArray, List.set_cons_zero, List.set_cons_succ]
          refine wpAnyH_take (i := 9) (v := ?_) (by simp only [List.getElem?_toArray, List.getElem?_cons_succ, List.getElem?_cons_zero]; rfl) (by kernel_rfl) (by kernel_rfl) (by kernel_rfl) (by intro _ _ _ h; exact h) (Or.inl ⟨by rfl, ?_⟩) (by assumption) ?_
          rotate_left
          · intro w' hSw; (try dsimp only at hSw); go_simp; (try with_reducible rfl)
          try simp only [Act.put, List.setIfInBounds_toArray, List.set_cons_zero, List.set_cons_succ]
          have hI99 := (hEf.out w6.drew ((hH6.out.below (Below.refl _ _).drew).row (E := []))).2
          refine wpAnyH_ready (rs := [10]) (by kernel_rfl) (by simp) ?_
          refine AllReadyH.cons (by simp only [List.getElem?_toArray, List.getElem?_cons_succ, List.getElem?_cons_zero]; rfl) (fun K hK => ?_) AllReadyH.nil
          go_simp
          go_at_call 52
          have h99 := mend52 (some ⟨g, 0, none⟩) from_.length cg from_ (some ⟨rg, 0, none⟩) rcap (D.map LD.run) w6.drew rfl (by omega) (by rw [hRL.out]; omega) hI99 (hW6.out.mono ((Below.refl _ _).drew))
          rw [hRL.out] at h99
          refine h99.mono ?_
          clear h99 hI99
          rintro e w7 ⟨hcase, hb7'⟩
          have hb7 : Below w6.heap.size w6 w7 := ((Below.refl _ w6).drew).trans hb7'
          clear hb7'
          obtain ⟨v7, rfl, ho7⟩ := (hcase.resolve_right (fun h => by have := h.1; rw [hRT.out, hOk.out] at this; cases this)).2
          have hO7 := hid ho7
          clear ho7 hcase
          have hC7 := hid (hC6.out.mono hb7)
          have hL7 := hid (hL6.out.mono hb7)
          have hH7 := hid (hH6.out.below hb7)
          have hB7 := hid (hB6.out.trans (hb7.mono hB6.out.size))
          have hs7 := hid (hb7.size)
          have hW7 := hid (hW6.out.mono hb7)
          have hK7 := hid (hK6.out.below hb7)
          have hO57 := hid (own_mono hO56.out hb7 (Nat.le_refl _))
          have hO67 := hid (own_mono hO6.out hb7 (Nat.le_refl _))
          have a12 := hid (own_apart hO6.out hO7.out (Nat.le_refl _))
          have a23 := hid (own_apart hO5.out hO7.out hs6.out)
          have hk' : w7.cell? ⟨ob, 1, none⟩ = some (.slice fo from_.length fc) ∧ w7.cell? ⟨ob, 3, none⟩ = some (.slice ro R.length rc) := ⟨by simpa using hC7.out.c1, by simpa using hC7.out.c3⟩
          clear hb7
          clear hHeld hS0
          go_wp2_with fail
          refine hK.out _ _ hk' (fun hHeld => ?_)
          clear hK K hk'
          try simp only [Act.put, List.setIfInBounds_toArray, List.set_cons_zero, List.set_cons_succ]
          refine wpAnyH_take (i := 11) (v := ?_) (by simp only [List.getElem?_toArray, List.getElem?_cons_succ, List.getElem?_cons_zero]; rfl) (by kernel_rfl) (by kernel_rfl) (by kernel_rfl) (by intro _ _ _ h; exact h) (Or.inl ⟨by rfl, ?_⟩) (by assumption) ?_
          rotate_left
          · intro w' hSw; (try dsimp only at hSw); go_simp; (try with_reducible rfl)
          try simp only [Act.put, List.setIfInBounds_toArray, List.set_cons_zero, List.set_cons_succ]
          refine wpAnyH_take (i := 12) (v := ?_) (by simp only [List.getElem?_toArray, List.getElem?_cons_succ, List.getElem?_cons_zero]; rfl) (by kernel_rfl) (by kernel_rfl) (by kernel_rfl) (by intro _ _ _ h; exact h) (Or.inl ⟨by rfl, ?_⟩) (by assumption) ?_
          rotate_left
          · intro w' hSw; (try dsimp only at hSw); go_simp; (try with_reducible rfl)
          try simp only [Act.put, List.setIfInBounds_toArray, List.set_cons_zero, List.set_cons_succ]
          refine wpAnyH_take (i := 13) (v := ?_) (by simp only [List.getElem?_toArray, List.getElem?_cons_succ, List.getElem?_cons_zero]; rfl) (by kernel_rfl) (by kernel_rfl) (by kernel_rfl) (by intro _ _ _ h; exact h) (Or.inl ⟨by rfl, ?_⟩) (by assumption) ?_
          rotate_left
          · intro w' hSw; (try dsimp only at hSw); go_simp; (try with_reducible rfl)
          try simp only [Act.put, List.setIfInBounds_toArray, List.set_cons_zero, List.set_cons_succ]
          refine wpAnyH_take (i := 14) (v := ?_) (by simp only [List.getElem?_toArray, List.getElem?_cons_succ, List.getElem?_cons_zero]; rfl) (by kernel_rfl) (by kernel_rfl) (by kernel_rfl) (by intro _ _ _ h; exact h) (Or.inl ⟨by rfl, ?_⟩) (by assumption) ?_
          rotate_left
          · intro w' hSw; (try dsimp only at hSw); go_simp; (try with_reducible rfl)
          try simp only [Act.put, List.setIfInBounds_toArray, List.set_cons_zero, List.set_cons_succ]
          refine wpAnyH_take (i := 15) (v := ?_) (by simp only [List.getElem?_toArray, List.getElem?_cons_succ, List.getElem?_cons_zero]; rfl) (by kernel_rfl) (by kernel_rfl) (by kernel_rfl) (by intro _ _ _ h; exact h) (Or.inl ⟨by rfl, ?_⟩) (by assumption) ?_
          rotate_left
          · intro w' hSw; (try dsimp only at hSw); go_simp; (try with_reducible rfl)
          try simp only [Act.put, List.setIfInBounds_toArray, List.set_cons_zero, List.set_cons_succ]
          refine wpAnyH_done (by kernel_rfl) ?_ _
          clear hHeld
          have q3 : w7.cell? ⟨ob, 3, none⟩ = some (.slice ro R.length rc) := by simpa using hC7.out.c3
          go_wp2_with fail
          have h53 := kept53 _ ru w3.heap.size D ro rc R w7 (by omega) hDD.out hK7.out hL7.out.hr
          refine h53.mono ?_
          clear h53 q3
          rintro e w8 ⟨rfl, q, rfl⟩
          have hb8 := below_drewN' (Below.refl w7.heap.size w7) q
          have hH7' := hid (hH7.out.below hb8)
          have hC7' := hid (hC7.out.mono hb8)
          have hB7' := hid (hB7.out.trans (hb8.mono hB7.out.size))
          have hO5' := hid (own_mono hO57.out hb8 (Nat.le_refl _))
          have hO6' := hid (own_mono hO67.out hb8 (Nat.le_refl _))
          have hO7' := hid (own_mono hO7.out hb8 (Nat.le_refl _))
          clear hb8 hH7 hC7 hB7 hK4 hK5 hK6 hK7 hW4 hW5 hW6 hW7
          generalize w7.drewN q = w8 at *
          have hH7 := hH7'
          have hC7 := hC7'
          have hB7 := hB7'
          obtain ⟨P, hP⟩ : ∃ P, P = mendR from_ (R.map RunW.two) := ⟨_, rfl⟩
          have hPl : Hid (from_.length = P.length) := by rw [hP]; exact (mendR_len _ 0 from_ rfl hOk.out).symm
          have hPb : Hid (Byt P) := by
            rw [hP]
            have key : ∀ (rs : Runz) (b : List Int), Byt b → (∀ r ∈ rs, Byt r.2) → Byt (mendR b rs) := fun rs => by
              induction rs with
              | nil => intro b hb _; exact hb
              | cons r rs ih =>
                intro b hb hr
                refine ih (laid b r.1 r.2) (fun z hz => ?_) (fun r hr' => hr r (List.mem_cons_of_mem _ hr'))
                unfold laid at hz
                rcases List.mem_append.1 hz with h1 | h1
                · rcases List.mem_append.1 h1 with h2 | h2
                  · exact hb z (List.mem_of_mem_take h2)
                  · exact hr r List.mem_cons_self z h2
                · exact hb z (List.mem_of_mem_drop h1)
            refine key _ _ (byt_of_ints hL3.out.hf) (fun r hr => ?_)
            obtain ⟨u, hu, rfl⟩ := List.mem_map.1 hr
            obtain ⟨i, hi, rfl⟩ := List.getElem_of_mem hu
            exact hL3.out.hr.byt i hi
          rw [← hP] at hO5'
          rw [hRT.out, ← hP] at hO6' hO7'
          clear hP
          obtain ⟨ao5, cc5, hv5, -⟩ := own_any_shape hO5'.out
          obtain ⟨ao6, cc6, hv6, -⟩ := own_any_shape hO6'.out
          obtain ⟨ao7, cc7, hv7, -⟩ := own_any_shape hO7'.out
          subst hv5 hv6 hv7
          go_wp2_with (first | (at_builtin; refine wpList_append_str rfl _ _ 63 rfl w.heap.size 23 23 (.slice none 0 0) 1 24 2 Try.underlying63 (by kernel_rfl) rfl (by decide) _ ((T.flatMap Trip.got).length) _ [_, _] (0, 0) hH7.out.ownC rfl (by simp [Value.oneCell']) (by rw [got_len]; have := hTl.out; unfold maxLen; omega) (by rw [got_len]; have := hTl.out; omega) hB7.out.size rfl rfl ?_; intro va' wg hA1; have hA1' := hid hA1; have hsg := hid (Nat.le_trans hB7.out.size hA1.grown.size); have hWo := hid (hH7.out.onP hA1); clear hA1) | (at_builtin; go_must (refine wpList_append_str rfl _ _ 63 rfl w.heap.size 23 23 (.slice none 0 0) 1 24 2 Try.underlying63 (by kernel_rfl) rfl (by decide) _ ((T.flatMap Trip.want).length) _ [_, _] (0, 0) hWo.out rfl (by simp [Value.oneCell']) (by rw [want_len]; have := hTl.out; unfold maxLen; omega) (by rw [want_len]; have := hTl.out; omega) hsg.out rfl rfl ?_); intro vb' ww hA2; go_loud (have q1w : ww.cell? ⟨ob, 1, none⟩ = some (.slice fo from_.length fc) := hA2.grown.cell (hA1'.out.grown.cell (by simpa using hC7.out.c1) (fun e => absurd (show ob < wr.heap.size from (hH.out.ownC.lt _ e.symm).2) (by rw [hOb.out]; exact Nat.lt_irrefl _))) (fun e => absurd (show ob < wr.heap.size from (hH.out.ownP.lt _ e.symm).2) (by rw [hOb.out]; exact Nat.lt_irrefl _)))))
          have hH9 := hid (hH4.out.pushT hH7.out ⟨⟨.slice ao6 from_.length cc6, 5, 1, from_.length, P.map (Value.int .u8)⟩, ⟨.slice ao7 from_.length cc7, 5, 1, from_.length, P.map (Value.int .u8)⟩, ⟨.slice ao5 from_.length cc5, 5, 1, from_.length, P.map (Value.int .u8)⟩, P⟩ ⟨⟨rfl, rfl, hPl.out, by show from_.length ≤ 100000000; omega, rfl⟩, ⟨rfl, rfl, hPl.out, by show from_.length ≤ 100000000; omega, rfl⟩, ⟨rfl, rfl, hPl.out, by show from_.length ≤ 100000000; omega, rfl⟩, hPb.out⟩ hB4.out.size (own_base hO6'.out hs5.out) (own_base hO7'.out (Nat.le_trans hs5.out hs6.out)) hO5'.out a12.out (RowS.apart_symm (a := ⟨_, 5, 1, 0, []⟩) (b := ⟨_, 5, 1, 0, []⟩) a13.out) (RowS.apart_symm (a := ⟨_, 5, 1, 0, []⟩) (b := ⟨_, 5, 1, 0, []⟩) a23.out) hA1'.out hA2)
          have hB9 := hid ((hB7.out.grown hA1'.out.grown hB7.out.size (fun q hq => (hH7.out.ownC.lt q hq).1)).grown hA2.grown hsg.out (fun q hq => (hWo.out.lt q hq).1))
          have hTl' : Hid ((T ++ ([⟨⟨.slice ao6 from_.length cc6, 5, 1, from_.length, P.map (Value.int .u8)⟩, ⟨.slice ao7 from_.length cc7, 5, 1, from_.length, P.map (Value.int .u8)⟩, ⟨.slice ao5 from_.length cc5, 5, 1, from_.length, P.map (Value.int .u8)⟩, P⟩] : List Trip)).length ≤ k + 1) := by have := hTl.out; show (T ++ ([⟨⟨.slice ao6 from_.length cc6, 5, 1, from_.length, P.map (Value.int .u8)⟩, ⟨.slice ao7 from_.length cc7, 5, 1, from_.length, P.map (Value.int .u8)⟩, ⟨.slice ao5 from_.length cc5, 5, 1, from_.length, P.map (Value.int .u8)⟩, P⟩] : List Trip)).length ≤ k + 1; rw [List.length_append, List.length_singleton]; omega
          have hT' : Hid (T ++ ([⟨⟨.slice ao6 from_.length cc6, 5, 1, from_.length, P.map (Value.int .u8)⟩, ⟨.slice ao7 from_.length cc7, 5, 1, from_.length, P.map (Value.int .u8)⟩, ⟨.slice ao5 from_.length cc5, 5, 1, from_.length, P.map (Value.int .u8)⟩, P⟩] : List Trip) = [] → va' = .slice none 0 0) := fun h => absurd h (by simp)
          clear hA1' hA2 hWo hsg
          have hLw := hid (hr0.out.mono hB9.out)
          have hEw := hid (hEf.out ww (hH9.out.row (E := [])))
          have h20 := kept_any (some ⟨g, 0, none⟩) (from_.length + 64) cg fo from_.length fc from_ ww (by rw [lentL_len]) rfl (by omega) hEw.out.1 hLw.out.hf
          refine h20.mono ?_
          clear h20
          rintro e wk ⟨rfl, qk, rfl⟩
          have hbk := below_drewN' (Below.refl ww.heap.size ww) qk
          have hHk := hid (hH9.out.below hbk)
          have hBk := hid (hB9.out.trans (hbk.mono hB9.out.size))
          clear hbk q1w hH9 hB9 hLw hEw
          generalize ww.drewN qk = wk at *
          go_wp2_with fail
          have h21 := over_any g (from_.length + 64) cg w.heap.size _ wk (hHk.out.row (E := [])) (by omega)
          refine h21.mono ?_
          clear h21
          rintro e wo ⟨rfl, -, hgo⟩
          have hHo := hid (St.over (E := []) hHk.out hgo)
          have hBo := hid (hBk.out.grown hgo hBk.out.size (fun q hq => ((hHk.out.row (E := [])).lt q hq).1))
          clear hgo
          go_wp2_with fail
          go_roundw
          case rel => exact ⟨S, _, k + 1, _, _, _, _, rfl, rfl, rfl, rfl, by go_num, by omega, Nat.le_succ_of_le hSl.out, hTl'.out, hS.out, hT'.out, by rw [hSk.out]; exact Nat.le_trans hSm.out (Nat.le_add_right _ _), hHo.out, hBo.out⟩
          case measure => simp [intOf]; omega
    · skip
      obtain rfl : k = rows.length := by omega
      have hTot : Hid ((ZL S).flatten.length ≤ 2097152) := by
        have h1 := zl_len S hH.out.eS
        have h2 := hSm.out
        have h3 := hSu.out
        rw [List.take_of_length_le (Nat.le_refl _)] at h2
        unfold Hid
        omega
      by_cases hSe : S = []
      · have hv := hS.out hSe
        subst hSe
        subst hv
        have hBf := hid hB.out
        have hFf : Hid (Fin wr w.heap.size (.slice none 0 0) vm [] vc vp T (ZL []).flatten (ZL []).flatten) := hH.out.fin
        obtain ⟨S, hSS⟩ : ∃ S : List RT, S = [] := ⟨_, rfl⟩
        rw [← hSS] at hFf hTot
        have hNil : Hid (2 * T.length + (ZL S).flatten.length = 0 → vc = .slice none 0 0) := fun h => hT.out (List.eq_nil_of_length_eq_zero (by omega))
        clear hH hS hSS
        go_wp2_with fail
        refine wp_loop_rounds 1 ?_
        rw [rounds_succ]
        go_wp2_with fail
        by_cases hz0 : 2 * T.length + (ZL S).flatten.length = 0
        · have hv := hNil.out hz0
          subst hv
          clear hz0
          go_wp2_with fail
          refine (keep_nil _ vp).mono ?_
          rintro e w' ⟨rfl, rfl⟩
          go_wp2_with fail
          refine (apart57_nil _).mono ?_
          rintro e w' ⟨rfl, rfl⟩
          go_wp2_with fail
          go_ret
          exact ⟨rfl, hBf.out⟩
        · have hz1 := hid hz0
          clear hz0
          go_wp2_with fail
          refine (hFf.out.keep hz1.out hBf.out.size (by have := hTl.out; have := hTot.out; omega)).mono ?_
          rintro e wk ⟨rfl, hbk, hsk⟩
          have hBk := hid (hBf.out.trans hbk)
          have hSk := hid hsk
          clear hbk hsk
          go_wp2_with fail
          refine (apart57_nil _).mono ?_
          rintro e w' ⟨rfl, rfl⟩
          go_wp2_with fail
          go_ret
          exact ⟨rfl, hBk.out⟩
      · have hSp : 0 < S.length := List.length_pos_iff.2 hSe
        obtain ⟨lb, cap1, hv1, -⟩ := own_shape hH.out.ownL (by omega)
        obtain ⟨mb, cap2, hv2, -⟩ := own_shape hH.out.ownM (by omega)
        subst hv1 hv2
        have hSe' := hid hSe
        have hSle := hSl.out
        have hZll : Hid ((ZL S).length = 2 * S.length) := zl_llen S
        have hOkS := hid hH.out.eS
        clear hSe hS hlt
        go_wp2_with fail
        go_loopw [3, 4, 25] (fun x1 x2 i wr => ∃ (i0 : Nat) (vc0 vp0 : Value), vc0 = x1 ∧ vp0 = x2 ∧ i = .int .i64 i0 ∧ i0 ≤ 2 * S.length ∧ Fin wr w.heap.size (.slice (some ⟨lb, 0, none⟩) (2 * S.length) cap1) (.slice (some ⟨mb, 0, none⟩) (2 * S.length) cap2) S vc0 vp0 T ((ZL S).take i0).flatten ((ZL S).take i0).flatten ∧ (2 * T.length + ((ZL S).take i0).flatten.length = 0 → vc0 = .slice none 0 0) ∧ Below w.heap.size w wr) (fun _ _ i _ => 2 * S.length - (intOf i).toNat)
        case atStart => exact ⟨0, _, _, rfl, rfl, rfl, Nat.zero_le _, hH.out.fin, fun h => hT.out (List.eq_nil_of_length_eq_zero (by omega)), hB.out⟩
        case round =>
          clear hH hB hT
          obtain ⟨i, vc, vp, rfl, rfl, rfl, hi, hf, hn0, hb⟩ := hrel
          have hF := hid hf
          have hN0 := hid hn0
          have hB := hid hb
          clear hf hn0 hb
          by_cases hlt : i < 2 * S.length
          · obtain ⟨a1, a2, c1, c2, g1, g2, R, R3, hlen, hz, kR, hg, hvv, hW⟩ := hF.out.reads i hlt
            have hRd := hid hW
            have hVV := hid hvv
            have hZ := hid hz
            have hLn := hid hlen
            have hG := hid hg
            have hRle : R.length ≤ 100000000 := kR.2.2
            have hPl : Hid (((ZL S).take i).flatten.length + R.length ≤ 2097152) := by
              have h1 := hTot.out
              have h2 := take_flat (ZL S) i _ hz
              rw [zip3_len _ _ hlen] at h2
              unfold Hid
              omega
            clear hW hvv hz hlen hg kR
            have hd := (Below.refl wr.heap.size wr).drew
            have hFd := hid (hF.out.below hd)
            have hBd := hid (hB.out.trans (hd.mono hB.out.size))
            obtain ⟨h1, h2, h56, -⟩ := hRd.out _ _ _ _ _ hFd.out
            have h56' := hid h56
            have hi1 : (0 : Int) ≤ (i : Int) := by omega
            have hi2 : (i : Int) < 2 * (S.length : Int) := by omega
            have hS0 : Hid ((Fin wr.drew w.heap.size (.slice (some ⟨lb, 0, none⟩) (2 * S.length) cap1) (.slice (some ⟨mb, 0, none⟩) (2 * S.length) cap2) S vc vp T ((ZL S).take i).flatten ((ZL S).take i).flatten ∧ Below w.heap.size w wr.drew) ∧ wr.drew.cell? ⟨lb, i, none⟩ = some (.slice a1 R.length c1) ∧ wr.drew.cell? ⟨mb, i, none⟩ = some (.slice a2 R.length c2)) := ⟨⟨hFd.out, hBd.out⟩, h1, h2⟩
            have hStep : Hid (∀ q, (Fin (wr.drew.drewN q) w.heap.size (.slice (some ⟨lb, 0, none⟩) (2 * S.length) cap1) (.slice (some ⟨mb, 0, none⟩) (2 * S.length) cap2) S vc vp T ((ZL S).take i).flatten ((ZL S).take i).flatten ∧ Below w.heap.size w (wr.drew.drewN q)) ∧ (wr.drew.drewN q).cell? ⟨lb, i, none⟩ = some (.slice a1 R.length c1) ∧ (wr.drew.drewN q).cell? ⟨mb, i, none⟩ = some (.slice a2 R.length c2)) := fun q => by
              have hq := below_drewN' (Below.refl wr.drew.heap.size wr.drew) q
              exact ⟨⟨hFd.out.below hq, hBd.out.trans (hq.mono hBd.out.size)⟩, by simpa using h1, by simpa using h2⟩
            clear h1 h2 h56 hd hFd hBd
            go_wp2_with fail
            refine wp_region_held_drew (S := fun W => (Fin W w.heap.size (.slice (some ⟨lb, 0, none⟩) (2 * S.length) cap1) (.slice (some ⟨mb, 0, none⟩) (2 * S.length) cap2) S vc vp T ((ZL S).take i).flatten ((ZL S).take i).flatten ∧ Below w.heap.size w W) ∧ W.cell? ⟨lb, i, none⟩ = some (.slice a1 R.length c1) ∧ W.cell? ⟨mb, i, none⟩ = some (.slice a2 R.length c2)) (by kernel_rfl) hS0.out (fun hHeld => ?_)
            refine wpAnyH_take (i := 0) (v := ?_) (by simp only [List.getElem?_toArray, List.getElem?_cons_succ, List.getElem?_cons_zero]; rfl) (by kernel_rfl) (by kernel_rfl) (by kernel_rfl) (by intro _ _ _ h; exact h) (Or.inl ⟨by rfl, ?_⟩) (by assumption) ?_
            rotate_left
            · intro w' hSw; (try dsimp only at hSw); go_simp; (try with_reducible rfl)
            try simp only [Act.put, List.setIfInBounds_toArray, List.set_cons_zero, List.set_cons_succ]
            refine wpAnyH_take (i := 1) (v := ?_) (by simp only [List.getElem?_toArray, List.getElem?_cons_succ, List.getElem?_cons_zero]; rfl) (by kernel_rfl) (by kernel_rfl) (by kernel_rfl) (by intro _ _ _ h; exact h) (Or.inl ⟨by rfl, ?_⟩) (by assumption) ?_
            rotate_left
            · intro w' hSw; (try dsimp only at hSw); go_simp; (try with_reducible rfl)
            try simp only [Act.put, List.setIfInBounds_toArray, List.set_cons_zero, List.set_cons_succ]
            refine wpAnyH_take (i := 2) (v := ?_) (by simp only [List.getElem?_toArray, List.getElem?_cons_succ, List.getElem?_cons_zero]; rfl) (by kernel_rfl) (by kernel_rfl) (by kernel_rfl) (by intro _ _ _ h; exact h) (Or.inl ⟨by rfl, ?_⟩) (by assumption) ?_
            rotate_left
            · intro w' hSw; (try dsimp only at hSw); go_simp; (try with_reducible rfl)
            try simp only [Act.put, List.setIfInBounds_toArray, List.set_cons_zero, List.set_cons_succ]
            refine wpAnyH_take (i := 3) (v := ?_) (by simp only [List.getElem?_toArray, List.getElem?_cons_succ, List.getElem?_cons_zero]; rfl) (by kernel_rfl) (by kernel_rfl) (by kernel_rfl) (by intro _ _ _ h; exact h) (Or.inl ⟨by rfl, ?_⟩) (by assumption) ?_
            rotate_left
            · intro w' hSw; (try dsimp only at hSw); go_simp; (try with_reducible rfl)
            try simp only [Act.put, List.setIfInBounds_toArray, List.set_cons_zero, List.set_cons_succ]
            refine wpAnyH_take (i := 4) (v := ?_) (by simp only [List.getElem?_toArray, List.getElem?_cons_succ, List.getElem?_cons_zero]; rfl) (by kernel_rfl) (by kernel_rfl) (by kernel_rfl) (by intro _ _ _ h; exact h) (Or.inl ⟨by rfl, ?_⟩) (by assumption) ?_
            rotate_left
            · intro w' hSw; (try dsimp only at hSw); go_simp; (try with_reducible rfl)
            try simp only [Act.put, List.setIfInBounds_toArray, List.set_cons_zero, List.set_cons_succ]
            refine wpAnyH_take (i := 5) (v := ?_) (by simp only [List.getElem?_toArray, List.getElem?_cons_succ, List.getElem?_cons_zero]; rfl) (by kernel_rfl) (by kernel_rfl) (by kernel_rfl) (by intro _ _ _ h; exact h) (Or.inl ⟨by rfl, ?_⟩) (by assumption) ?_
            rotate_left
            · intro w' hSw; (try dsimp only at hSw); go_simp; (try with_reducible rfl)
            try simp only [Act.put, List.setIfInBounds_toArray, List.set_cons_zero, List.set_cons_succ]
            refine wpAnyH_take (i := 6) (v := ?_) (by simp only [List.getElem?_toArray, List.getElem?_cons_succ, List.getElem?_cons_zero]; rfl) (by kernel_rfl) (by kernel_rfl) (by kernel_rfl) (by intro _ _ _ h; exact h) (Or.inl ⟨by rfl, ?_⟩) (by assumption) ?_
            rotate_left
            · intro w' hSw; (try dsimp only at hSw); go_simp; (try with_reducible rfl)
            try simp only [Act.put, List.setIfInBounds_toArray, List.set_cons_zero, List.set_cons_succ]
            refine wpAnyH_take (i := 7) (v := ?_) (by simp only [List.getElem?_toArray, List.getElem?_cons_succ, List.getElem?_cons_zero]; rfl) (by kernel_rfl) (by kernel_rfl) (by kernel_rfl) (by intro _ _ _ h; exact h) (Or.inl ⟨by rfl, ?_⟩) (by assumption) ?_
            rotate_left
            · intro w' hSw; (try dsimp only at hSw); go_simp; (try with_reducible rfl)
            try simp only [Act.put, List.setIfInBounds_toArray, List.set_cons_zero, List.set_cons_succ]
            refine wpAnyH_ready (rs := [8]) (by kernel_rfl) (by simp) ?_
            refine AllReadyH.cons (by simp only [List.getElem?_toArray, List.getElem?_cons_succ, List.getElem?_cons_zero]; rfl) (fun K hK => ?_) AllReadyH.nil
            go_simp
            go_at_call 56
            refine h56'.out.mono ?_
            rintro e w5 ⟨rfl, q, hq5⟩
            have hk' := hStep.out q
            rw [← hq5] at hk'
            clear hHeld hq5
            go_wp2_with fail
            refine hK.out _ _ hk' (fun hHeld => ?_)
            clear hK K hk'
            try simp only [Act.put, List.setIfInBounds_toArray, List.set_cons_zero, List.set_cons_succ]
            refine wpAnyH_take (i := 9) (v := ?_) (by simp only [List.getElem?_toArray, List.getElem?_cons_succ, List.getElem?_cons_zero]; rfl) (by kernel_rfl) (by kernel_rfl) (by kernel_rfl) (by intro _ _ _ h; exact h) (Or.inl ⟨by rfl, ?_⟩) (by assumption) ?_
            rotate_left
            · intro w' hSw; (try dsimp only at hSw); go_simp; (try with_reducible rfl)
            try simp only [Act.put, List.setIfInBounds_toArray, List.set_cons_zero, List.set_cons_succ]
            refine wpAnyH_done (by kernel_rfl) ?_ _
            obtain ⟨⟨hf5, hb5⟩, -, -⟩ := hHeld
            have hF5 := hid hf5
            have hB5 := hid hb5
            clear hf5 hb5 hS0 hStep h56' hF hB
            obtain ⟨PI, hPI⟩ : ∃ PI, PI = ((ZL S).take i).flatten := ⟨_, rfl⟩
            have hPIe := hid hPI
            rw [← hPI] at hF5 hN0 hPl
            clear hPI
            go_wp2_with fail
            go_loopw [3, 4, 26] (fun x1 x2 i wr => ∃ (j : Nat) (vc1 vp1 : Value), vc1 = x1 ∧ vp1 = x2 ∧ i = .int .i64 j ∧ j ≤ R.length ∧ Fin wr w.heap.size (.slice (some ⟨lb, 0, none⟩) (2 * S.length) cap1) (.slice (some ⟨mb, 0, none⟩) (2 * S.length) cap2) S vc1 vp1 T (PI ++ (zip3 R R3).take j) (PI ++ (zip3 R R3).take j) ∧ (2 * T.length + (PI ++ (zip3 R R3).take j).length = 0 → vc1 = .slice none 0 0) ∧ Below w.heap.size w wr) (fun _ _ i _ => R.length - (intOf i).toNat)
            case atStart => exact ⟨0, _, _, rfl, rfl, rfl, Nat.zero_le _, by simpa using hF5.out, by simpa using hN0.out, hB5.out⟩
            case round =>
              clear hF5 hN0 hB5
              obtain ⟨j, vc, vp, rfl, rfl, rfl, hj, hf, hn0, hb⟩ := hrel
              have hF := hid hf
              have hN0 := hid hn0
              have hB := hid hb
              have hsz := hb.size
              clear hf hn0 hb
              obtain ⟨e1, e2, -, e3⟩ := hRd.out _ _ _ _ _ hF.out
              by_cases hlt2 : j < R.length
              · rcases hG.out with h0 | ⟨rfl, rfl⟩
                · omega
                have hlt3 : j < R3.length := by have := hLn.out; omega
                obtain ⟨⟨ao, co, hv1⟩, ⟨bo, cb, hv2⟩⟩ := hVV.out j hlt2 hlt3
                have e4 := (e3 j hlt2 hlt3).1
                rw [hv1] at e4
                have hV1 := hid hv1
                have hV2 := hid hv2
                have hE := hid (fun W vc vp P Q h => (hRd.out W vc vp P Q h).2.1)
                have hE4 := hid (fun W vc vp P Q h => ((hRd.out W vc vp P Q h).2.2.2 j hlt2 hlt3).2.trans (congrArg some hv2))
                have hzt : Hid ((zip3 R R3).take (j + 1) = (zip3 R R3).take j ++ [(R[j].row, R3[j].row, R[j].l)]) := by
                  unfold Hid
                  rw [List.take_add_one, zip3_get R R3 j hlt2 hlt3]
                  rfl
                have hPn : (PI ++ (zip3 R R3).take j).length < 2097152 := by
                  have := hPl.out
                  rw [List.length_append, List.length_take, zip3_len _ _ hLn.out]
                  omega
                have hTle := hTl.out
                generalize hPJ : PI ++ (zip3 R R3).take j = PJ at *
                have hPJe := hid hPJ
                generalize hLL : R[j].l.length = L at *
                clear hv1 hv2 e3 hPJ hLL
                go_wp2_with (first | (at_builtin; refine wpList_append_str rfl _ _ 63 rfl w.heap.size 23 23 (.slice none 0 0) 1 24 1 Try.underlying63 (by kernel_rfl) rfl (by decide) _ (2 * T.length + PJ.length) _ [.slice ao L co] (0, 0) hF.out.ownC rfl (by simp [Value.oneCell']) (by unfold maxLen; omega) (by omega) hsz rfl rfl ?_; intro va' wg hA1; have hF1 := hid (hF.out.moreC (R[j].row, R3[j].row, R[j].l) (by show Appended _ _ _ _ _ _ _ _ _ _ [R[j].v]; rw [hV1.out]; exact hA1)); have hB1 := hid (hB.out.trans (hA1.below hF.out.ownC hsz)); have hsg := hB1.out.size; have e2' := hE.out _ _ _ _ _ hF1.out; have e5 := hE4.out _ _ _ _ _ hF1.out; clear hA1) | (at_builtin; go_must (refine wpList_append_str rfl _ _ 63 rfl w.heap.size 23 23 (.slice none 0 0) 1 24 1 Try.underlying63 (by kernel_rfl) rfl (by decide) _ (2 * T.length + PJ.length) _ [.slice bo L cb] (0, 0) hF1.out.ownP rfl (by simp [Value.oneCell']) (by unfold maxLen; omega) (by omega) hsg rfl rfl ?_); intro vb' ww hA2))
                have hF2 := hid (hF1.out.moreP (R[j].row, R3[j].row, R[j].l) (by show Appended _ _ _ _ _ _ _ _ _ _ [R3[j].v]; rw [hV2.out]; exact hA2))
                have hB2 := hid (hB1.out.trans (hA2.below hF1.out.ownP hsg))
                clear hA2
                go_roundw
                case rel => exact ⟨j + 1, _, _, rfl, rfl, by go_num, by omega, by rw [hzt.out, ← List.append_assoc, hPJe.out]; exact hF2.out, fun h => by rw [hzt.out] at h; simp at h, hB2.out⟩
                case measure => simp [intOf]; omega
              · obtain rfl : j = R.length := by omega
                have hzf : Hid (PI ++ (zip3 R R3).take R.length = ((ZL S).take (i + 1)).flatten) := by
                  unfold Hid
                  rw [List.take_of_length_le (by rw [zip3_len _ _ hLn.out]; omega), List.take_add_one, hZ.out, List.flatten_append, hPIe.out]
                  simp
                go_wp2_with fail
                go_roundw
                case rel => exact ⟨i + 1, _, _, rfl, rfl, by go_num, by omega, hzf.out ▸ hF.out, hzf.out ▸ hN0.out, hB.out⟩
                case measure => simp [intOf]; omega
          · obtain rfl : i = 2 * S.length := by omega
            have htk : (ZL S).take (2 * S.length) = ZL S := List.take_of_length_le (by rw [hZll.out]; omega)
            rw [htk] at hF hN0
            have hFf := hid hF.out
            have hNil := hid hN0.out
            have hBf := hid hB.out
            have hls := hid hF.out.lists
            clear hF hN0 hB htk hlt
            go_wp2_with fail
            by_cases hz0 : 2 * T.length + (ZL S).flatten.length = 0
            · have hv := hNil.out hz0
              subst hv
              clear hz0
              go_wp2_with fail
              refine (keep_nil _ vp).mono ?_
              rintro e w' ⟨rfl, rfl⟩
              go_wp2_with fail
              have h57 := lists_apart hls.out hOkS.out hSe'.out hBf.out.size (by omega)
              refine h57.mono ?_
              clear h57
              rintro e w' ⟨rfl, hbl⟩
              have hB' := hid (hBf.out.trans hbl)
              clear hbl
              go_wp2_with fail
              go_ret
              exact ⟨rfl, hB'.out⟩
            · have hz1 := hid hz0
              clear hz0
              go_wp2_with fail
              refine (hFf.out.keep hz1.out hBf.out.size (by have := hTl.out; have := hTot.out; omega)).mono ?_
              rintro e wk ⟨rfl, hbk, hsk⟩
              have hBk := hid (hBf.out.trans hbk)
              have hSk := hid hsk
              clear hbk hsk
              go_wp2_with fail
              have h57 := lists_apart hSk.out hOkS.out hSe'.out hBk.out.size (by omega)
              refine h57.mono ?_
              clear h57
              rintro e w' ⟨rfl, hbl⟩
              have hB' := hid (hBk.out.trans hbl)
              clear hbl
              go_wp2_with fail
              go_ret
              exact ⟨rfl, hB'.out⟩
end Go.Proofs.Ytdhicfolchpmhaa

namespace Go.Proofs.Ytdhicfolchpmhaa
open Go.ChangeShapes Go.WideShapes Go.ChangeAt Go.RowKit
set_option linter.unusedVariables false
set_option linter.unusedSimpArgs false

set_option maxHeartbeats 1000000 in
set_option maxRecDepth 100000 in
theorem runs_empty (w : World) (ao : Option Addr) (cap : Nat) :
    Calls Try.prog 12 #[.slice ao 0 cap] w fun e w' => e = .returned (.bool true) ∧ Below w.heap.size w w' := by
  go_enter Try.func12, Try.ntmps12
  go_wp2_with fail
  refine (lives_any _).mono ?_
  rintro e w1 ⟨rfl, hb1⟩
  have hB1 := hid hb1
  clear hb1
  go_wp2_with fail
  refine wp_loop_rounds 1 ?_
  rw [rounds_succ]
  go_wp2_with fail
  refine wp_loop_rounds 1 ?_
  rw [rounds_succ]
  go_wp2_with fail
  refine (keep_nil _ _).mono ?_
  rintro e w' ⟨rfl, rfl⟩
  go_wp2_with fail
  refine (apart57_nil _).mono ?_
  rintro e w' ⟨rfl, rfl⟩
  go_wp2_with fail
  go_ret
  exact ⟨rfl, hB1.out⟩

set_option maxRecDepth 100000 in
theorem runs_top (w : World) {H : Type} {enc : TypeId × Value → H} {base : Nat} {p : List MemPlace} (v : Value) (d : DataW H) (hval : Value.okWide Try.prog w .any base 88 v) (h : DataW.Trod enc Try.prog w 0 (fun _ => true) true 88 v d p)
    (hw : Rows.uptoBulk d ≤ 1048576) :
    Calls Try.prog 12 #[v] w fun e w' => e = .returned (.bool true) ∧ Below w.heap.size w w' := by
  obtain ⟨a, len, cap, rfl, hr⟩ := runs_open w v d hval h hw
  rcases hr with rfl | ⟨b, off, rows, rfl, hlen, hbig, hok, hsum⟩
  · exact runs_empty w a cap
  · exact runs_walk w b off len cap rows hlen.symm hbig hok hsum
end Go.Proofs.Ytdhicfolchpmhaa
