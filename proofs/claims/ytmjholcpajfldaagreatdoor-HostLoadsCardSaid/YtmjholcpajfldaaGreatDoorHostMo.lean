/- Walks: the law HostLoads. No condition. -/
import Derived.Test.YtmjholcpajfldaaGreatDoorHostMh
namespace Go.Proofs.YtmjholcpajfldaaGreatDoor
open Go.RowKit
set_option linter.unusedVariables false
set_option linter.unusedSimpArgs false

set_option maxRecDepth 100000

theorem Vr.of_own {w : World} {B cap : Nat} {vo : Option Addr} {l : NW} (h : w.ownsRow B 77 2 (.slice vo l.length cap) l.length (prs l)) (hw : ∀ i, i < l.length → 0 ≤ wdA l i ∧ wdA l i ≤ 4294967295) : Vr w vo l := by
  rcases h.2 with ⟨h1, h0⟩ | ⟨g, c, cur, h1, hg, hh, r⟩
  · simp only [Value.slice.injEq] at h1
    exact ⟨⟨0, 0, .inl (by omega), fun i hi => by omega⟩, hw⟩
  · simp only [Value.slice.injEq] at h1
    obtain ⟨rfl, h2, h3⟩ := h1
    have h4 : w.ownsRow B 77 2 (.slice (some ⟨g, 0, none⟩) l.length c) l.length (prs l) := by rw [h3] at h; exact h
    refine ⟨⟨g, 0, .inr rfl, fun i hi => ⟨?_, ?_⟩⟩, hw⟩
    · rw [Nat.zero_add, h4.cellAt (i * 2) (by omega), (prs_get l i hi).1]
    · rw [Nat.zero_add, h4.cellAt (i * 2 + 1) (by omega), (prs_get l i hi).2]
/-- bytes and one more -/
theorem own_more {w : World} {B n cap : Nat} {ao : Option Addr} {con : List UInt8} {x : Value} (h : w.ownsRow B 5 1 (.slice ao n cap) n (bv con ++ [x])) (hn : con.length + 1 = n) : ∃ g, ao = some ⟨g, 0, none⟩ ∧ n ≤ cap ∧ B ≤ g ∧ By w ao con ∧ w.cell? ⟨g, con.length, none⟩ = some x := by
  rcases h.2 with ⟨h1, h0⟩ | ⟨g, c, cur, h1, hg, hh, r⟩
  · omega
  · simp only [Value.slice.injEq] at h1
    obtain ⟨rfl, -, rfl⟩ := h1
    refine ⟨g, rfl, r.1, hg, ⟨g, 0, .inr rfl, fun i hi => ?_⟩, ?_⟩
    · rw [Nat.zero_add, h.cellAt i (by omega), List.getElem?_append_left (by rw [bv_len]; exact hi), bv_get con i hi]
    · rw [h.cellAt con.length (by omega), List.getElem?_append_right (by rw [bv_len]; exact Nat.le_refl _), bv_len]
      simp
set_option maxHeartbeats 16000000 in
theorem loads6 (co vo : Option Addr) (m n cc vc : Nat) (con : List UInt8) (hcl : con.length = m) (l : NW) (hl : l.length = n) (sd ck : Int) (w : World) (hv : Vr w vo l) (hb : By w co con) (hm : m < 140737488355328) (hn : n * 24 ≤ 140737488355328) (h3 : 0 ≤ sd ∧ sd < 18446744073709551616) (h4 : 0 ≤ ck ∧ ck < 4294967296) (htab : ∀ w', Below w.heap.size w w' → TB w') :
    Calls Tryz.prog 6 #[.agg #[.slice co m cc, .slice vo n vc, .int .u64 sd, .int .u32 ck]] w fun e w' => e = .returned (.bool true) ∧ Below w.heap.size w w' := by
  subst hcl
  subst hl
  have b0 := (Below.refl w.heap.size w).alloc (Nat.le_refl _) (.cells #[.slice co con.length cc, .slice vo l.length vc, .int .u64 sd, .int .u32 ck] 45)
  have X0 := hid (Bx.new w #[.slice co con.length cc, .slice vo l.length vc, .int .u64 sd, .int .u32 ck] 45)
  have V0 := hid hv
  have Y0 := hid hb
  have B0 := hid b0
  have cl := hid (lives8 _ (fun w' h' => htab w' (b0.trans (h'.mono b0.size))))
  have hM := hid hm
  have hNN := hid hn
  have hSd := hid h3
  have hCk := hid h4
  clear b0 hv hb hm hn h3 h4 htab
  go_enter Tryz.func6, Tryz.ntmps6
  go_wp2_with fail
  generalize w.alloc (.cells #[.slice co con.length cc, .slice vo l.length vc, .int .u64 sd, .int .u32 ck] 45) = w1 at *
  refine cl.out.mono ?_
  clear cl
  rintro e w2 ⟨rfl, hb2⟩
  have X2 := hid (X0.out.below hb2)
  have B2 := hid (B0.out.trans (hb2.mono B0.out.size))
  have B2s := hid X2.out.lt
  clear X0 B0 hb2
  have cp := hid (copied17 co vo _ _ cc vc con rfl l rfl sd ck w2 (V0.out.below B2.out) (Y0.out.below B2.out) (by have := hM.out; omega) hNN.out)
  have x0 := X2.out.cell 0
  have x1 := X2.out.cell 1
  have x2 := X2.out.cell 2
  have x3 := X2.out.cell 3
  simp only [List.getElem?_toArray, List.getElem?_cons_zero, List.getElem?_cons_succ] at x0 x1 x2 x3
  go_wp2_with fail
  go_at_call 17
  refine cp.out.mono ?_
  clear cp x0 x1 x2 x3
  rintro e w3 ⟨c, v, vv, rfl, hP, hb3⟩
  have X3 := hid (X2.out.below hb3)
  have B3 := hid (B2.out.trans (hb3.mono B2.out.size))
  obtain ⟨oa, oc, rfl, -⟩ := own_any_shape hP.ob
  obtain ⟨va, vc2, rfl, -⟩ := own_any_shape hP.ov
  have P3 := hid hP
  have hz2 := hb3.size
  clear X2 B2 hb3 hP
  have x0 := P3.out.bx.cell 0
  have x1 := P3.out.bx.cell 1
  have x2 := P3.out.bx.cell 2
  have x3 := P3.out.bx.cell 3
  simp only [List.getElem?_toArray, List.getElem?_cons_zero, List.getElem?_cons_succ] at x0 x1 x2 x3
  go_wp2_with fail
  have b4 := (Below.refl w3.heap.size w3).alloc (Nat.le_refl _) (.cells #[.slice oa con.length oc, .slice va l.length vc2, .int .u64 sd, .int .u32 ck] 45)
  have bd := b4.drew
  have Q4 := hid ((Bx.new w3 #[.slice oa con.length oc, .slice va l.length vc2, .int .u64 sd, .int .u32 ck] 45).below (Below.refl _ _).drew)
  have X4 := hid (X3.out.below bd)
  have hz := hid (Nat.le_trans hz2 bd.size)
  have B4 := hid (B3.out.trans (bd.mono B3.out.size))
  have O4 := hid ((P3.out.ob.alloc (.cells #[.slice oa con.length oc, .slice va l.length vc2, .int .u64 sd, .int .u32 ck] 45)).drew)
  have W4 := hid ((P3.out.ov.alloc (.cells #[.slice oa con.length oc, .slice va l.length vc2, .int .u64 sd, .int .u32 ck] 45)).drew)
  have hq := hid (show w.heap.size < w3.heap.size ∧ w3.heap.size < (w3.alloc (.cells #[.slice oa con.length oc, .slice va l.length vc2, .int .u64 sd, .int .u32 ck] 45)).drew.heap.size from ⟨X3.out.lt, by simp⟩)
  have hlo := hid (show w.heap.size < w2.heap.size from by have := B2s.out; omega)
  clear b4 x0 x1 x2 x3
  refine wp_region_held_drew (S := (fun w9 => Bx w9 w.heap.size #[.slice co con.length cc, .slice vo l.length vc, .int .u64 sd, .int .u32 ck] 45)) (by kernel_rfl) X4.out (fun hHeld => ?_)
  clear bd X3 B3 P3 hz2
  generalize hw4 : (w3.alloc (.cells #[.slice oa con.length oc, .slice va l.length vc2, .int .u64 sd, .int .u32 ck] 45)).drew = w4 at *
  generalize w3.heap.size = q at *
  clear hw4
  refine wpAnyH_take (i := 0) (v := ?_) (by simp only [List.getElem?_toArray, List.getElem?_cons_succ, List.getElem?_cons_zero]; rfl) (by kernel_rfl) (by kernel_rfl) (by kernel_rfl) (by intro _ _ _ h; exact h) (Or.inl ⟨by rfl, ?_⟩) (by assumption) ?_
  rotate_left
  · intro w' hSw; go_simp; (try with_reducible rfl)
  try simp only [Act.put, List.setIfInBounds_toArray, List.set_cons_zero, List.set_cons_succ]
  refine wpAnyH_take (i := 4) (v := ?_) (by simp only [List.getElem?_toArray, List.getElem?_cons_succ, List.getElem?_cons_zero]; rfl) (by kernel_rfl) (by kernel_rfl) (by kernel_rfl) (by intro _ _ _ h; exact h) (Or.inl ⟨by rfl, ?_⟩) (by assumption) ?_
  rotate_left
  · intro w' hSw; go_simp; (try with_reducible rfl)
  try simp only [Act.put, List.setIfInBounds_toArray, List.set_cons_zero, List.set_cons_succ]
  refine wpAnyH_take (i := 5) (v := ?_) (by simp only [List.getElem?_toArray, List.getElem?_cons_succ, List.getElem?_cons_zero]; rfl) (by kernel_rfl) (by kernel_rfl) (by kernel_rfl) (by intro _ _ _ h; exact h) (Or.inl ⟨by rfl, ?_⟩) (by assumption) ?_
  rotate_left
  · intro w' hSw; have q0 := hSw.cell 0; simp at q0; go_simp; (try with_reducible rfl)
  try simp only [Act.put, List.setIfInBounds_toArray, List.set_cons_zero, List.set_cons_succ]
  refine wpAnyH_take (i := 6) (v := ?_) (by simp only [List.getElem?_toArray, List.getElem?_cons_succ, List.getElem?_cons_zero]; rfl) (by kernel_rfl) (by kernel_rfl) (by kernel_rfl) (by intro _ _ _ h; exact h) (Or.inl ⟨by rfl, ?_⟩) (by assumption) ?_
  rotate_left
  · intro w' hSw; go_simp; (try with_reducible rfl)
  try simp only [Act.put, List.setIfInBounds_toArray, List.set_cons_zero, List.set_cons_succ]
  have ba := (Below.refl w4.heap.size w4).alloc (Nat.le_refl _) (.cells #[.int .u8 77] 5)
  have r0 : w4.cell? ⟨q, 0, none⟩ = some (.slice oa con.length oc) := by simpa using Q4.out.cell 0
  have r1 := cell_on r0 ba
  refine wpAnyH_ready (rs := [1, 2]) (by kernel_rfl) (by simp) ?_
  refine AllReadyH.cons (by simp only [List.getElem?_toArray, List.getElem?_cons_succ, List.getElem?_cons_zero]; rfl) (fun K hK => ?_) (AllReadyH.cons (by simp only [List.getElem?_toArray, List.getElem?_cons_succ, List.getElem?_cons_zero]; rfl) (fun K hK => ?_) AllReadyH.nil)
  · go_simp
    refine hK.out _ _ hHeld (fun hHeld => ?_)
    clear hK K
    try simp only [Act.put, List.setIfInBounds_toArray, List.set_cons_zero, List.set_cons_succ]
    refine wpAnyH_ready (rs := [2]) (by kernel_rfl) (by simp) ?_
    refine AllReadyH.cons (by simp only [List.getElem?_toArray, List.getElem?_cons_succ, List.getElem?_cons_zero]; rfl) (fun K hK => ?_) AllReadyH.nil
    go_simp
    refine hK.out _ _ (show (fun w9 => Bx w9 w.heap.size #[.slice co con.length cc, .slice vo l.length vc, .int .u64 sd, .int .u32 ck] 45) _ from X4.out.below ba) (fun hHeld => ?_)
    clear hK K hHeld ba r0 r1
    try simp only [Act.put, List.setIfInBounds_toArray, List.set_cons_zero, List.set_cons_succ]
    refine wpAnyH_ready (rs := [3]) (by kernel_rfl) (by simp) ?_
    refine AllReadyH.cons (by simp only [List.getElem?_toArray, List.getElem?_cons_succ, List.getElem?_cons_zero]; rfl) (fun K hK => ?_) AllReadyH.nil
    refine step_append_str rfl _ _ 27 rfl w2.heap.size 5 5 (.int .u8 0) 1 1 1 Tryz.underlying27 (by kernel_rfl) rfl (by decide) (.slice oa con.length oc) con.length (bv con) [.int .u8 77] (0, 0) O4.out rfl (by simp [Value.oneCell']) (by unfold maxLen; have := hM.out; omega) (by have := hM.out; omega) hz.out rfl rfl ?_
    intro v' w5 hA
    obtain ⟨ao, cap, rfl, -⟩ := own_any_shape hA.own
    have n1 := row_ne_box O4.out X4.out (by decide)
    have n2 := row_ne_box O4.out Q4.out (by decide)
    have hb5 := hA.below O4.out hz.out
    have X5 := hid (X4.out.on hA.grown (fun e => n1 e.symm))
    have Q5 := hid (Q4.out.on hA.grown (fun e => n2 e.symm))
    have B5 := hid (B4.out.trans (hb5.mono (Nat.le_of_lt hlo.out)))
    have O5 := hid hA.own
    have W5 := hid (W4.out.kept hA.grown (row_ne_row W4.out O4.out (by decide)))
    have z0 : w5.cell? ⟨q, 0, none⟩ = some (.slice oa con.length oc) := by simpa using Q5.out.cell 0
    have f0 := Q5.out.free 0
    have SG := hid (grown_set w5 q 0 (.slice ao con.length cap))
    obtain ⟨g, rfl, hcap, hg, hY5, hc5⟩ := own_more O5.out rfl
    have hcap0 : con.length ≤ cap := by omega
    have hgl := hid hg
    have hcp := hid hcap
    have Y5 := hid hY5
    have D5 := hid hc5
    clear hA n1 n2 hb5 hg hY5 hc5
    refine hK.out _ _ (show (fun w9 => Bx w9 w.heap.size #[.slice co con.length cc, .slice vo l.length vc, .int .u64 sd, .int .u32 ck] 45) w5 from X5.out) (fun hHeld => ?_)
    clear hK K
    try simp only [Act.put, List.setIfInBounds_toArray, List.set_cons_zero, List.set_cons_succ]
    refine wpAnyH_take (i := 7) (v := ?_) (by simp only [List.getElem?_toArray, List.getElem?_cons_succ, List.getElem?_cons_zero]; rfl) (by kernel_rfl) (by kernel_rfl) (by kernel_rfl) (by intro _ _ _ h; exact h) (Or.inl ⟨by rfl, ?_⟩) (by assumption) ?_
    rotate_left
    · intro w' hSw; go_simp; (try with_reducible rfl)
    try simp only [Act.put, List.setIfInBounds_toArray, List.set_cons_zero, List.set_cons_succ]
    refine wpAnyH_take (i := 8) (v := ?_) (by simp only [List.getElem?_toArray, List.getElem?_cons_succ, List.getElem?_cons_zero]; rfl) (by kernel_rfl) (by kernel_rfl) (by kernel_rfl) (by intro _ _ _ h; exact h) (Or.inl ⟨by rfl, ?_⟩) (by assumption) ?_
    rotate_left
    · intro w' hSw; go_simp; (try with_reducible rfl)
    try simp only [Act.put, List.setIfInBounds_toArray, List.set_cons_zero, List.set_cons_succ]
    refine wpAnyH_ready (rs := [9]) (by kernel_rfl) (by simp) ?_
    refine AllReadyH.cons (by simp only [List.getElem?_toArray, List.getElem?_cons_succ, List.getElem?_cons_zero]; rfl) (fun K hK => ?_) AllReadyH.nil
    go_simp
    refine hK.out _ _ (show (fun w9 => Bx w9 w.heap.size #[.slice co con.length cc, .slice vo l.length vc, .int .u64 sd, .int .u32 ck] 45) _ from X5.out.on SG.out (fun e => by simp only [Option.some.injEq] at e; have := hq.out; omega)) (fun hHeld => ?_)
    clear hK K hHeld
    try simp only [Act.put, List.setIfInBounds_toArray, List.set_cons_zero, List.set_cons_succ]
    refine wpAnyH_done (by kernel_rfl) ?_ _
    have X6 := hid (X5.out.on SG.out (fun e => by simp only [Option.some.injEq] at e; have := hq.out; omega))
    have Q6 : Hid (Bx _ q #[.slice (some ⟨g, 0, none⟩) con.length cap, .slice va l.length vc2, .int .u64 sd, .int .u32 ck] 45) := hid (by simpa using Q5.out.set 0 (.slice (some ⟨g, 0, none⟩) con.length cap))
    have ngq := row_ne_box O5.out Q5.out (by decide)
    have O6 := hid (O5.out.kept SG.out (.inr ngq))
    have W6 := hid (W5.out.kept SG.out (.inr (row_ne_box W5.out Q5.out (by decide))))
    have B6 := hid (B5.out.grown SG.out B5.out.size (fun k hk => by simp only [Option.some.injEq] at hk; have := hq.out; omega))
    clear SG z0 f0 ngq X4 X5 Q4 Q5 B4 B5 O4 O5 W4 W5 Y5 D5 hcap hcap0 hHeld
    generalize w5.setCell ⟨q, 0, none⟩ (.slice (some ⟨g, 0, none⟩) con.length cap) = w6 at *
    obtain ⟨g2, hg2, -, -, hY6, hD6⟩ := own_more O6.out rfl
    simp only [Option.some.injEq, Addr.mk.injEq, and_true] at hg2
    subst hg2
    have Y6 := hid hY6
    have D6 := hid hD6
    clear hY6 hD6
    have V6 := hid (Vr.of_own W6.out V0.out.wf)
    have hg6 := hid ((O6.out.lt g rfl).2)
    have ld := hid (load13 (some ⟨g, 0, none⟩) va con.length l.length cap vc2 con rfl l rfl sd ck w6 V6.out Y6.out hSd.out hCk.out)
    have z0 := Q6.out.cell 0
    have z1 := Q6.out.cell 1
    have z2 := Q6.out.cell 2
    have z3 := Q6.out.cell 3
    simp only [List.getElem?_toArray, List.getElem?_cons_zero, List.getElem?_cons_succ] at z0 z1 z2 z3
    go_wp2_with fail
    go_at_call 13
    refine ld.out.mono ?_
    clear ld z0 z1 z2 z3
    rintro e w7 ⟨hb7, hL⟩
    have X7 := hid (X6.out.below hb7)
    have Q7 := hid (Q6.out.below hb7)
    have O7 := hid (own_mono O6.out hb7 (Nat.le_refl _))
    have W7 := hid (own_mono W6.out hb7 (Nat.le_refl _))
    have B7 := hid (B6.out.trans (hb7.mono B6.out.size))
    have V7 := hid (V6.out.below hb7)
    have Y7 := hid (Y6.out.below hb7)
    have D7 := hid ((hb7.cell hg6.out).trans D6.out)
    have hz7 := hid hb7.size
    have sm := hid (same18 (some ⟨g, 0, none⟩) co va vo con.length l.length cap cc vc2 vc con rfl l rfl sd ck w7.drew (V7.out.below (Below.refl _ _).drew) (V0.out.below (B7.out.drew)) (Y7.out.below (Below.refl _ _).drew) (Y0.out.below B7.out.drew) (by have := hNN.out; omega))
    clear X6 Q6 O6 W6 B6 V6 Y6 D6 hb7
    cases hmy : mayB con l sd
    · have hMy := hid hmy
      clear hmy
      obtain rfl := hL.2 hMy.out
      clear hL
      go_wp2_with fail
      refine wp_region_held_drew (S := (fun w9 => Bx w9 w.heap.size #[.slice co con.length cc, .slice vo l.length vc, .int .u64 sd, .int .u32 ck] 45 ∧ Bx w9 q #[.slice (some ⟨g, 0, none⟩) con.length cap, .slice va l.length vc2, .int .u64 sd, .int .u32 ck] 45 ∧ w9.cell? ⟨g, con.length, none⟩ = some (.int .u8 77))) (by kernel_rfl) ⟨X7.out.below (Below.refl _ _).drew, Q7.out.below (Below.refl _ _).drew, ((Below.refl w7.heap.size w7).drew.cell (World.block_lt_of_cell? w7 _ D7.out)).trans D7.out⟩ (fun hHeld => ?_)
      have X8 := hid (X7.out.below (Below.refl w7.heap.size w7).drew)
      have Q8 := hid (Q7.out.below (Below.refl w7.heap.size w7).drew)
      have O8 := hid (own_mono O7.out (Below.refl w7.heap.size w7).drew (Nat.le_refl _))
      have W8 := hid (own_mono W7.out (Below.refl w7.heap.size w7).drew (Nat.le_refl _))
      have B8 := hid (B7.out.trans ((Below.refl w7.heap.size w7).drew.mono B7.out.size))
      have hzd := hid (Nat.le_trans hz7.out (Below.refl w7.heap.size w7).drew.size)
      clear V7 Y7
      clear X7 Q7 O7 W7 B7 D7 hz7
      generalize w7.drew = w8 at *
      refine wpAnyH_take (i := 0) (v := ?_) (by simp only [List.getElem?_toArray, List.getElem?_cons_succ, List.getElem?_cons_zero]; rfl) (by kernel_rfl) (by kernel_rfl) (by kernel_rfl) (by intro _ _ _ h; exact h) (Or.inl ⟨by rfl, ?_⟩) (by assumption) ?_
      rotate_left
      · intro w' hSw; have q0 := hSw.2.1.cell 0; have q1 := hSw.2.1.cell 1; have q2 := hSw.2.1.cell 2; have q3 := hSw.2.1.cell 3; simp at q0 q1 q2 q3; go_simp; (try with_reducible rfl)
      try simp only [Act.put, List.setIfInBounds_toArray, List.set_cons_zero, List.set_cons_succ]
      refine wpAnyH_take (i := 1) (v := ?_) (by simp only [List.getElem?_toArray, List.getElem?_cons_succ, List.getElem?_cons_zero]; rfl) (by kernel_rfl) (by kernel_rfl) (by kernel_rfl) (by intro _ _ _ h; exact h) (Or.inl ⟨by rfl, ?_⟩) (by assumption) ?_
      rotate_left
      · intro w' hSw; have q0 := hSw.1.cell 0; have q1 := hSw.1.cell 1; have q2 := hSw.1.cell 2; have q3 := hSw.1.cell 3; simp at q0 q1 q2 q3; go_simp; (try with_reducible rfl)
      try simp only [Act.put, List.setIfInBounds_toArray, List.set_cons_zero, List.set_cons_succ]
      refine wpAnyH_ready (rs := [2]) (by kernel_rfl) (by simp) ?_
      refine AllReadyH.cons (by simp only [List.getElem?_toArray, List.getElem?_cons_succ, List.getElem?_cons_zero]; rfl) (fun K hK => ?_) AllReadyH.nil
      go_simp
      go_at_call 18
      refine sm.out.mono ?_
      clear sm
      rintro e w9 ⟨rfl, hb9⟩
      have X9 := hid (X8.out.below hb9)
      have Q9 := hid (Q8.out.below hb9)
      have O9 := hid (own_mono O8.out hb9 (Nat.le_refl _))
      have W9 := hid (own_mono W8.out hb9 (Nat.le_refl _))
      have B9 := hid (B8.out.trans (hb9.mono B8.out.size))
      have D9 := hid ((hb9.cell (World.block_lt_of_cell? w8 _ hHeld.2.2)).trans hHeld.2.2)
      have hz8 := hid (Nat.le_trans hzd.out hb9.size)
      clear X8 Q8 O8 W8 B8 hHeld hb9 hzd
      go_wp2_with fail
      refine hK.out _ _ (show (fun w9 => Bx w9 w.heap.size #[.slice co con.length cc, .slice vo l.length vc, .int .u64 sd, .int .u32 ck] 45 ∧ Bx w9 q #[.slice (some ⟨g, 0, none⟩) con.length cap, .slice va l.length vc2, .int .u64 sd, .int .u32 ck] 45 ∧ w9.cell? ⟨g, con.length, none⟩ = some (.int .u8 77)) w9 from ⟨X9.out, Q9.out, D9.out⟩) (fun hHeld => ?_)
      clear hK K
      try simp only [Act.put, List.setIfInBounds_toArray, List.set_cons_zero, List.set_cons_succ]
      have hM2 := hM.out
      have hcp2 := hcp.out
      have hw1 : IntKind.i64.wrap ((con.length : Int) + 1) = (con.length : Int) + 1 := IntWalk.i64_in _ (by omega)
      have hi1 : (0 ≤ (con.length : Int) + 1) = True := eq_true (by omega)
      have hi2 : ((con.length : Int) + 1 ≤ (cap : Int)) = True := eq_true (by omega)
      have hi3 : ((con.length : Int) < (con.length : Int) + 1) = True := eq_true (by omega)
      refine wpAnyH_take (i := 3) (v := ?_) (by simp only [List.getElem?_toArray, List.getElem?_cons_succ, List.getElem?_cons_zero]; rfl) (by kernel_rfl) (by kernel_rfl) (by kernel_rfl) (by intro _ _ _ h; exact h) (Or.inl ⟨by rfl, ?_⟩) (by assumption) ?_
      rotate_left
      · intro w' hSw; go_simp; (try with_reducible rfl)
      try simp only [Act.put, List.setIfInBounds_toArray, List.set_cons_zero, List.set_cons_succ]
      refine wpAnyH_take (i := 4) (v := ?_) (by simp only [List.getElem?_toArray, List.getElem?_cons_succ, List.getElem?_cons_zero]; rfl) (by kernel_rfl) (by kernel_rfl) (by kernel_rfl) (by intro _ _ _ h; exact h) (Or.inl ⟨by rfl, ?_⟩) (by assumption) ?_
      rotate_left
      · intro w' hSw; go_simp; (try with_reducible rfl)
      try simp only [Act.put, List.setIfInBounds_toArray, List.set_cons_zero, List.set_cons_succ]
      refine wpAnyH_take (i := 5) (v := ?_) (by simp only [List.getElem?_toArray, List.getElem?_cons_succ, List.getElem?_cons_zero]; rfl) (by kernel_rfl) (by kernel_rfl) (by kernel_rfl) (by intro _ _ _ h; exact h) (Or.inl ⟨by rfl, ?_⟩) (by assumption) ?_
      rotate_left
      · intro w' hSw; go_simp; (try with_reducible rfl)
      try simp only [Act.put, List.setIfInBounds_toArray, List.set_cons_zero, List.set_cons_succ]
      refine wpAnyH_take (i := 6) (v := ?_) (by simp only [List.getElem?_toArray, List.getElem?_cons_succ, List.getElem?_cons_zero]; rfl) (by kernel_rfl) (by kernel_rfl) (by kernel_rfl) (by intro _ _ _ h; exact h) (Or.inl ⟨by rfl, ?_⟩) (by assumption) ?_
      rotate_left
      · intro w' hSw; have q0 := hSw.2.1.cell 0; simp at q0; go_simp; (try with_reducible rfl)
      try simp only [Act.put, List.setIfInBounds_toArray, List.set_cons_zero, List.set_cons_succ]
      refine wpAnyH_take (i := 7) (v := ?_) (by simp only [List.getElem?_toArray, List.getElem?_cons_succ, List.getElem?_cons_zero]; rfl) (by kernel_rfl) (by kernel_rfl) (by kernel_rfl) (by intro _ _ _ h; exact h) (Or.inl ⟨by rfl, ?_⟩) (by assumption) ?_
      rotate_left
      · intro w' hSw; go_simp; (try with_reducible rfl)
      try simp only [Act.put, List.setIfInBounds_toArray, List.set_cons_zero, List.set_cons_succ]
      refine wpAnyH_take (i := 8) (v := ?_) (by simp only [List.getElem?_toArray, List.getElem?_cons_succ, List.getElem?_cons_zero]; rfl) (by kernel_rfl) (by kernel_rfl) (by kernel_rfl) (by intro _ _ _ h; exact h) (Or.inl ⟨by rfl, ?_⟩) (by assumption) ?_
      rotate_left
      · intro w' hSw; have q0 := hSw.1.cell 0; simp at q0; go_simp; (try with_reducible rfl)
      try simp only [Act.put, List.setIfInBounds_toArray, List.set_cons_zero, List.set_cons_succ]
      refine wpAnyH_take (i := 9) (v := ?_) (by simp only [List.getElem?_toArray, List.getElem?_cons_succ, List.getElem?_cons_zero]; rfl) (by kernel_rfl) (by kernel_rfl) (by kernel_rfl) (by intro _ _ _ h; exact h) (Or.inl ⟨by rfl, ?_⟩) (by assumption) ?_
      rotate_left
      · intro w' hSw; go_simp; (try with_reducible rfl)
      try simp only [Act.put, List.setIfInBounds_toArray, List.set_cons_zero, List.set_cons_succ]
      refine wpAnyH_take (i := 10) (v := ?_) (by simp only [List.getElem?_toArray, List.getElem?_cons_succ, List.getElem?_cons_zero]; rfl) (by kernel_rfl) (by kernel_rfl) (by kernel_rfl) (by intro _ _ _ h; exact h) (Or.inl ⟨by rfl, ?_⟩) (by assumption) ?_
      rotate_left
      · intro w' hSw; go_simp; (try with_reducible rfl)
      try simp only [Act.put, List.setIfInBounds_toArray, List.set_cons_zero, List.set_cons_succ]
      refine wpAnyH_take (i := 11) (v := ?_) (by simp only [List.getElem?_toArray, List.getElem?_cons_succ, List.getElem?_cons_zero]; rfl) (by kernel_rfl) (by kernel_rfl) (by kernel_rfl) (by intro _ _ _ h; exact h) (Or.inl ⟨by rfl, ?_⟩) (by assumption) ?_
      rotate_left
      · intro w' hSw; go_simp; (try with_reducible rfl)
      try simp only [Act.put, List.setIfInBounds_toArray, List.set_cons_zero, List.set_cons_succ]
      refine wpAnyH_take (i := 12) (v := ?_) (by simp only [List.getElem?_toArray, List.getElem?_cons_succ, List.getElem?_cons_zero]; rfl) (by kernel_rfl) (by kernel_rfl) (by kernel_rfl) (by intro _ _ _ h; exact h) (Or.inl ⟨by rfl, ?_⟩) (by assumption) ?_
      rotate_left
      · intro w' hSw; go_simp; (try with_reducible rfl)
      try simp only [Act.put, List.setIfInBounds_toArray, List.set_cons_zero, List.set_cons_succ]
      refine wpAnyH_take (i := 13) (v := ?_) (by simp only [List.getElem?_toArray, List.getElem?_cons_succ, List.getElem?_cons_zero]; rfl) (by kernel_rfl) (by kernel_rfl) (by kernel_rfl) (by intro _ _ _ h; exact h) (Or.inl ⟨by rfl, ?_⟩) (by assumption) ?_
      rotate_left
      · intro w' hSw; have q0 := hSw.1.cell 0; simp at q0; go_simp; (try with_reducible rfl)
      try simp only [Act.put, List.setIfInBounds_toArray, List.set_cons_zero, List.set_cons_succ]
      refine wpAnyH_take (i := 14) (v := ?_) (by simp only [List.getElem?_toArray, List.getElem?_cons_succ, List.getElem?_cons_zero]; rfl) (by kernel_rfl) (by kernel_rfl) (by kernel_rfl) (by intro _ _ _ h; exact h) (Or.inl ⟨by rfl, ?_⟩) (by assumption) ?_
      rotate_left
      · intro w' hSw; go_simp; (try with_reducible rfl)
      try simp only [Act.put, List.setIfInBounds_toArray, List.set_cons_zero, List.set_cons_succ]
      refine wpAnyH_take (i := 15) (v := ?_) (by simp only [List.getElem?_toArray, List.getElem?_cons_succ, List.getElem?_cons_zero]; rfl) (by kernel_rfl) (by kernel_rfl) (by kernel_rfl) (by intro _ _ _ h; exact h) (Or.inl ⟨by rfl, ?_⟩) (by assumption) ?_
      rotate_left
      · intro w' hSw; go_simp; (try with_reducible rfl)
      try simp only [Act.put, List.setIfInBounds_toArray, List.set_cons_zero, List.set_cons_succ]
      refine wpAnyH_take (i := 16) (v := ?_) (by simp only [List.getElem?_toArray, List.getElem?_cons_succ, List.getElem?_cons_zero]; rfl) (by kernel_rfl) (by kernel_rfl) (by kernel_rfl) (by intro _ _ _ h; exact h) (Or.inl ⟨by rfl, ?_⟩) (by assumption) ?_
      rotate_left
      · intro w' hSw; have q0 := hSw.2.2; go_simp; (try with_reducible rfl)
      try simp only [Act.put, List.setIfInBounds_toArray, List.set_cons_zero, List.set_cons_succ]
      refine wpAnyH_take (i := 17) (v := ?_) (by simp only [List.getElem?_toArray, List.getElem?_cons_succ, List.getElem?_cons_zero]; rfl) (by kernel_rfl) (by kernel_rfl) (by kernel_rfl) (by intro _ _ _ h; exact h) (Or.inl ⟨by rfl, ?_⟩) (by assumption) ?_
      rotate_left
      · intro w' hSw; go_simp; (try with_reducible rfl)
      try simp only [Act.put, List.setIfInBounds_toArray, List.set_cons_zero, List.set_cons_succ]
      refine wpAnyH_take (i := 18) (v := ?_) (by simp only [List.getElem?_toArray, List.getElem?_cons_succ, List.getElem?_cons_zero]; rfl) (by kernel_rfl) (by kernel_rfl) (by kernel_rfl) (by intro _ _ _ h; exact h) (Or.inl ⟨by rfl, ?_⟩) (by assumption) ?_
      rotate_left
      · intro w' hSw; go_simp; (try with_reducible rfl)
      try simp only [Act.put, List.setIfInBounds_toArray, List.set_cons_zero, List.set_cons_succ]
      refine wpAnyH_done (by kernel_rfl) ?_ _
      clear hHeld hM2 hcp2 hw1 hi1 hi2 hi3
      have my0 := may14 co vo _ _ cc vc con rfl l rfl sd ck w9 (V0.out.below B9.out)
      rw [hMy.out] at my0
      have my := hid my0
      clear my0
      have z0 := X9.out.cell 0
      have z1 := X9.out.cell 1
      have z2 := X9.out.cell 2
      have z3 := X9.out.cell 3
      simp only [List.getElem?_toArray, List.getElem?_cons_zero, List.getElem?_cons_succ] at z0 z1 z2 z3
      go_wp2_with fail
      go_at_call 14
      refine my.out.mono ?_
      clear my z0 z1 z2 z3
      rintro e wA ⟨rfl, hbA⟩
      have XA := hid (X9.out.below hbA)
      have QA := hid (Q9.out.below hbA)
      have OA := hid (own_mono O9.out hbA (Nat.le_refl _))
      have WA := hid (own_mono W9.out hbA (Nat.le_refl _))
      have BA := hid (B9.out.trans (hbA.mono B9.out.size))
      have hzA := hid (Nat.le_trans hz8.out hbA.size)
      clear X9 Q9 O9 W9 B9 D9 hz8 hbA
      go_wp2_with fail
      go_ret
      exact ⟨rfl, BA.out⟩
    · have hMy := hid hmy
      clear hmy
      obtain ⟨h, cv, mb, rfl, hHo, hMb⟩ := hL.1 hMy.out
      clear hL
      have H7 := hid hHo
      have K7 := hid hMb
      clear hHo hMb
      go_wp2_with fail
      refine wp_region_held_drew (S := (fun w9 => Bx w9 w.heap.size #[.slice co con.length cc, .slice vo l.length vc, .int .u64 sd, .int .u32 ck] 45 ∧ Bx w9 q #[.slice (some ⟨g, 0, none⟩) con.length cap, .slice va l.length vc2, .int .u64 sd, .int .u32 ck] 45 ∧ w9.cell? ⟨g, con.length, none⟩ = some (.int .u8 77))) (by kernel_rfl) ⟨X7.out.below (Below.refl _ _).drew, Q7.out.below (Below.refl _ _).drew, ((Below.refl w7.heap.size w7).drew.cell (World.block_lt_of_cell? w7 _ D7.out)).trans D7.out⟩ (fun hHeld => ?_)
      have X8 := hid (X7.out.below (Below.refl w7.heap.size w7).drew)
      have Q8 := hid (Q7.out.below (Below.refl w7.heap.size w7).drew)
      have O8 := hid (own_mono O7.out (Below.refl w7.heap.size w7).drew (Nat.le_refl _))
      have W8 := hid (own_mono W7.out (Below.refl w7.heap.size w7).drew (Nat.le_refl _))
      have B8 := hid (B7.out.trans ((Below.refl w7.heap.size w7).drew.mono B7.out.size))
      have hzd := hid (Nat.le_trans hz7.out (Below.refl w7.heap.size w7).drew.size)
      have H8 := hid (H7.out.below (Below.refl _ _).drew)
      have K8 := hid (K7.out.below (Below.refl _ _).drew)
      clear V7 Y7 H7 K7
      clear X7 Q7 O7 W7 B7 D7 hz7
      generalize w7.drew = w8 at *
      refine wpAnyH_take (i := 0) (v := ?_) (by simp only [List.getElem?_toArray, List.getElem?_cons_succ, List.getElem?_cons_zero]; rfl) (by kernel_rfl) (by kernel_rfl) (by kernel_rfl) (by intro _ _ _ h; exact h) (Or.inl ⟨by rfl, ?_⟩) (by assumption) ?_
      rotate_left
      · intro w' hSw; have q0 := hSw.2.1.cell 0; have q1 := hSw.2.1.cell 1; have q2 := hSw.2.1.cell 2; have q3 := hSw.2.1.cell 3; simp at q0 q1 q2 q3; go_simp; (try with_reducible rfl)
      try simp only [Act.put, List.setIfInBounds_toArray, List.set_cons_zero, List.set_cons_succ]
      refine wpAnyH_take (i := 1) (v := ?_) (by simp only [List.getElem?_toArray, List.getElem?_cons_succ, List.getElem?_cons_zero]; rfl) (by kernel_rfl) (by kernel_rfl) (by kernel_rfl) (by intro _ _ _ h; exact h) (Or.inl ⟨by rfl, ?_⟩) (by assumption) ?_
      rotate_left
      · intro w' hSw; have q0 := hSw.1.cell 0; have q1 := hSw.1.cell 1; have q2 := hSw.1.cell 2; have q3 := hSw.1.cell 3; simp at q0 q1 q2 q3; go_simp; (try with_reducible rfl)
      try simp only [Act.put, List.setIfInBounds_toArray, List.set_cons_zero, List.set_cons_succ]
      refine wpAnyH_ready (rs := [2]) (by kernel_rfl) (by simp) ?_
      refine AllReadyH.cons (by simp only [List.getElem?_toArray, List.getElem?_cons_succ, List.getElem?_cons_zero]; rfl) (fun K hK => ?_) AllReadyH.nil
      go_simp
      go_at_call 18
      refine sm.out.mono ?_
      clear sm
      rintro e w9 ⟨rfl, hb9⟩
      have X9 := hid (X8.out.below hb9)
      have Q9 := hid (Q8.out.below hb9)
      have O9 := hid (own_mono O8.out hb9 (Nat.le_refl _))
      have W9 := hid (own_mono W8.out hb9 (Nat.le_refl _))
      have B9 := hid (B8.out.trans (hb9.mono B8.out.size))
      have D9 := hid ((hb9.cell (World.block_lt_of_cell? w8 _ hHeld.2.2)).trans hHeld.2.2)
      have hz8 := hid (Nat.le_trans hzd.out hb9.size)
      have H9 := hid (H8.out.below hb9)
      have K9 := hid (K8.out.below hb9)
      clear H8 K8
      clear X8 Q8 O8 W8 B8 hHeld hb9 hzd
      go_wp2_with fail
      refine hK.out _ _ (show (fun w9 => Bx w9 w.heap.size #[.slice co con.length cc, .slice vo l.length vc, .int .u64 sd, .int .u32 ck] 45 ∧ Bx w9 q #[.slice (some ⟨g, 0, none⟩) con.length cap, .slice va l.length vc2, .int .u64 sd, .int .u32 ck] 45 ∧ w9.cell? ⟨g, con.length, none⟩ = some (.int .u8 77)) w9 from ⟨X9.out, Q9.out, D9.out⟩) (fun hHeld => ?_)
      clear hK K
      try simp only [Act.put, List.setIfInBounds_toArray, List.set_cons_zero, List.set_cons_succ]
      have hM2 := hM.out
      have hcp2 := hcp.out
      have hw1 : IntKind.i64.wrap ((con.length : Int) + 1) = (con.length : Int) + 1 := IntWalk.i64_in _ (by omega)
      have hi1 : (0 ≤ (con.length : Int) + 1) = True := eq_true (by omega)
      have hi2 : ((con.length : Int) + 1 ≤ (cap : Int)) = True := eq_true (by omega)
      have hi3 : ((con.length : Int) < (con.length : Int) + 1) = True := eq_true (by omega)
      refine wpAnyH_take (i := 3) (v := ?_) (by simp only [List.getElem?_toArray, List.getElem?_cons_succ, List.getElem?_cons_zero]; rfl) (by kernel_rfl) (by kernel_rfl) (by kernel_rfl) (by intro _ _ _ h; exact h) (Or.inl ⟨by rfl, ?_⟩) (by assumption) ?_
      rotate_left
      · intro w' hSw; go_simp; (try with_reducible rfl)
      try simp only [Act.put, List.setIfInBounds_toArray, List.set_cons_zero, List.set_cons_succ]
      refine wpAnyH_take (i := 4) (v := ?_) (by simp only [List.getElem?_toArray, List.getElem?_cons_succ, List.getElem?_cons_zero]; rfl) (by kernel_rfl) (by kernel_rfl) (by kernel_rfl) (by intro _ _ _ h; exact h) (Or.inl ⟨by rfl, ?_⟩) (by assumption) ?_
      rotate_left
      · intro w' hSw; go_simp; (try with_reducible rfl)
      try simp only [Act.put, List.setIfInBounds_toArray, List.set_cons_zero, List.set_cons_succ]
      refine wpAnyH_take (i := 5) (v := ?_) (by simp only [List.getElem?_toArray, List.getElem?_cons_succ, List.getElem?_cons_zero]; rfl) (by kernel_rfl) (by kernel_rfl) (by kernel_rfl) (by intro _ _ _ h; exact h) (Or.inl ⟨by rfl, ?_⟩) (by assumption) ?_
      rotate_left
      · intro w' hSw; go_simp; (try with_reducible rfl)
      try simp only [Act.put, List.setIfInBounds_toArray, List.set_cons_zero, List.set_cons_succ]
      refine wpAnyH_take (i := 6) (v := ?_) (by simp only [List.getElem?_toArray, List.getElem?_cons_succ, List.getElem?_cons_zero]; rfl) (by kernel_rfl) (by kernel_rfl) (by kernel_rfl) (by intro _ _ _ h; exact h) (Or.inl ⟨by rfl, ?_⟩) (by assumption) ?_
      rotate_left
      · intro w' hSw; have q0 := hSw.2.1.cell 0; simp at q0; go_simp; (try with_reducible rfl)
      try simp only [Act.put, List.setIfInBounds_toArray, List.set_cons_zero, List.set_cons_succ]
      refine wpAnyH_take (i := 7) (v := ?_) (by simp only [List.getElem?_toArray, List.getElem?_cons_succ, List.getElem?_cons_zero]; rfl) (by kernel_rfl) (by kernel_rfl) (by kernel_rfl) (by intro _ _ _ h; exact h) (Or.inl ⟨by rfl, ?_⟩) (by assumption) ?_
      rotate_left
      · intro w' hSw; go_simp; (try with_reducible rfl)
      try simp only [Act.put, List.setIfInBounds_toArray, List.set_cons_zero, List.set_cons_succ]
      refine wpAnyH_take (i := 8) (v := ?_) (by simp only [List.getElem?_toArray, List.getElem?_cons_succ, List.getElem?_cons_zero]; rfl) (by kernel_rfl) (by kernel_rfl) (by kernel_rfl) (by intro _ _ _ h; exact h) (Or.inl ⟨by rfl, ?_⟩) (by assumption) ?_
      rotate_left
      · intro w' hSw; have q0 := hSw.1.cell 0; simp at q0; go_simp; (try with_reducible rfl)
      try simp only [Act.put, List.setIfInBounds_toArray, List.set_cons_zero, List.set_cons_succ]
      refine wpAnyH_take (i := 9) (v := ?_) (by simp only [List.getElem?_toArray, List.getElem?_cons_succ, List.getElem?_cons_zero]; rfl) (by kernel_rfl) (by kernel_rfl) (by kernel_rfl) (by intro _ _ _ h; exact h) (Or.inl ⟨by rfl, ?_⟩) (by assumption) ?_
      rotate_left
      · intro w' hSw; go_simp; (try with_reducible rfl)
      try simp only [Act.put, List.setIfInBounds_toArray, List.set_cons_zero, List.set_cons_succ]
      refine wpAnyH_take (i := 10) (v := ?_) (by simp only [List.getElem?_toArray, List.getElem?_cons_succ, List.getElem?_cons_zero]; rfl) (by kernel_rfl) (by kernel_rfl) (by kernel_rfl) (by intro _ _ _ h; exact h) (Or.inl ⟨by rfl, ?_⟩) (by assumption) ?_
      rotate_left
      · intro w' hSw; go_simp; (try with_reducible rfl)
      try simp only [Act.put, List.setIfInBounds_toArray, List.set_cons_zero, List.set_cons_succ]
      refine wpAnyH_take (i := 11) (v := ?_) (by simp only [List.getElem?_toArray, List.getElem?_cons_succ, List.getElem?_cons_zero]; rfl) (by kernel_rfl) (by kernel_rfl) (by kernel_rfl) (by intro _ _ _ h; exact h) (Or.inl ⟨by rfl, ?_⟩) (by assumption) ?_
      rotate_left
      · intro w' hSw; go_simp; (try with_reducible rfl)
      try simp only [Act.put, List.setIfInBounds_toArray, List.set_cons_zero, List.set_cons_succ]
      refine wpAnyH_take (i := 12) (v := ?_) (by simp only [List.getElem?_toArray, List.getElem?_cons_succ, List.getElem?_cons_zero]; rfl) (by kernel_rfl) (by kernel_rfl) (by kernel_rfl) (by intro _ _ _ h; exact h) (Or.inl ⟨by rfl, ?_⟩) (by assumption) ?_
      rotate_left
      · intro w' hSw; go_simp; (try with_reducible rfl)
      try simp only [Act.put, List.setIfInBounds_toArray, List.set_cons_zero, List.set_cons_succ]
      refine wpAnyH_take (i := 13) (v := ?_) (by simp only [List.getElem?_toArray, List.getElem?_cons_succ, List.getElem?_cons_zero]; rfl) (by kernel_rfl) (by kernel_rfl) (by kernel_rfl) (by intro _ _ _ h; exact h) (Or.inl ⟨by rfl, ?_⟩) (by assumption) ?_
      rotate_left
      · intro w' hSw; have q0 := hSw.1.cell 0; simp at q0; go_simp; (try with_reducible rfl)
      try simp only [Act.put, List.setIfInBounds_toArray, List.set_cons_zero, List.set_cons_succ]
      refine wpAnyH_take (i := 14) (v := ?_) (by simp only [List.getElem?_toArray, List.getElem?_cons_succ, List.getElem?_cons_zero]; rfl) (by kernel_rfl) (by kernel_rfl) (by kernel_rfl) (by intro _ _ _ h; exact h) (Or.inl ⟨by rfl, ?_⟩) (by assumption) ?_
      rotate_left
      · intro w' hSw; go_simp; (try with_reducible rfl)
      try simp only [Act.put, List.setIfInBounds_toArray, List.set_cons_zero, List.set_cons_succ]
      refine wpAnyH_take (i := 15) (v := ?_) (by simp only [List.getElem?_toArray, List.getElem?_cons_succ, List.getElem?_cons_zero]; rfl) (by kernel_rfl) (by kernel_rfl) (by kernel_rfl) (by intro _ _ _ h; exact h) (Or.inl ⟨by rfl, ?_⟩) (by assumption) ?_
      rotate_left
      · intro w' hSw; go_simp; (try with_reducible rfl)
      try simp only [Act.put, List.setIfInBounds_toArray, List.set_cons_zero, List.set_cons_succ]
      refine wpAnyH_take (i := 16) (v := ?_) (by simp only [List.getElem?_toArray, List.getElem?_cons_succ, List.getElem?_cons_zero]; rfl) (by kernel_rfl) (by kernel_rfl) (by kernel_rfl) (by intro _ _ _ h; exact h) (Or.inl ⟨by rfl, ?_⟩) (by assumption) ?_
      rotate_left
      · intro w' hSw; have q0 := hSw.2.2; go_simp; (try with_reducible rfl)
      try simp only [Act.put, List.setIfInBounds_toArray, List.set_cons_zero, List.set_cons_succ]
      refine wpAnyH_take (i := 17) (v := ?_) (by simp only [List.getElem?_toArray, List.getElem?_cons_succ, List.getElem?_cons_zero]; rfl) (by kernel_rfl) (by kernel_rfl) (by kernel_rfl) (by intro _ _ _ h; exact h) (Or.inl ⟨by rfl, ?_⟩) (by assumption) ?_
      rotate_left
      · intro w' hSw; go_simp; (try with_reducible rfl)
      try simp only [Act.put, List.setIfInBounds_toArray, List.set_cons_zero, List.set_cons_succ]
      refine wpAnyH_take (i := 18) (v := ?_) (by simp only [List.getElem?_toArray, List.getElem?_cons_succ, List.getElem?_cons_zero]; rfl) (by kernel_rfl) (by kernel_rfl) (by kernel_rfl) (by intro _ _ _ h; exact h) (Or.inl ⟨by rfl, ?_⟩) (by assumption) ?_
      rotate_left
      · intro w' hSw; go_simp; (try with_reducible rfl)
      try simp only [Act.put, List.setIfInBounds_toArray, List.set_cons_zero, List.set_cons_succ]
      refine wpAnyH_done (by kernel_rfl) ?_ _
      clear hHeld hM2 hcp2 hw1 hi1 hi2 hi3
      have my0 := may14 co vo _ _ cc vc con rfl l rfl sd ck w9 (V0.out.below B9.out)
      rw [hMy.out] at my0
      have my := hid my0
      clear my0
      have z0 := X9.out.cell 0
      have z1 := X9.out.cell 1
      have z2 := X9.out.cell 2
      have z3 := X9.out.cell 3
      simp only [List.getElem?_toArray, List.getElem?_cons_zero, List.getElem?_cons_succ] at z0 z1 z2 z3
      go_wp2_with fail
      go_at_call 14
      refine my.out.mono ?_
      clear my z0 z1 z2 z3
      rintro e wA ⟨rfl, hbA⟩
      have XA := hid (X9.out.below hbA)
      have QA := hid (Q9.out.below hbA)
      have OA := hid (own_mono O9.out hbA (Nat.le_refl _))
      have WA := hid (own_mono W9.out hbA (Nat.le_refl _))
      have BA := hid (B9.out.trans (hbA.mono B9.out.size))
      have hzA := hid (Nat.le_trans hz8.out hbA.size)
      have HA := hid (H9.out.below hbA)
      have KA := hid (K9.out.below hbA)
      clear H9 K9
      clear X9 Q9 O9 W9 B9 D9 hz8 hbA
      have x0 := QA.out.cell 0
      simp only [List.getElem?_toArray, List.getElem?_cons_zero, List.getElem?_cons_succ] at x0
      have oa9 := own_take_size OA.out (show con.length ≤ con.length + 1 by omega)
      have ov := hid (over_any g con.length cap w2.heap.size _ wA oa9 (by have := hM.out; omega))
      clear oa9
      go_wp2_with fail
      go_at_call 19
      refine ov.out.mono ?_
      clear ov x0
      rintro e wB ⟨rfl, hoB, hgB⟩
      have hgn := hid (show g ≠ w.heap.size by have := hgl.out; have := hlo.out; omega)
      have XB := hid (XA.out.on hgB (fun e => by simp only [Option.some.injEq] at e; exact hgn.out e.symm))
      have HB := hid (HA.out.kpt (T := fun b => b = g) (Kpt.gr hgB (Nat.le_refl _) fun k e => by simp only [Option.some.injEq] at e; exact .inl e.symm) (fun b hb e => by have := (HA.out.hlt b hb).1; have := hg6.out; omega))
      have KB := hid (KA.out.on hgB (fun e => by simp only [Option.some.injEq] at e; have := HA.out.lo; have := hg6.out; omega))
      have BB := hid (BA.out.grown hgB BA.out.size (fun k hk => by simp only [Option.some.injEq] at hk; have := hgl.out; have := hlo.out; omega))
      clear hoB hgB XA QA OA WA BA HA KA hzA
      have hmm := hMy.out
      unfold mayB at hmm
      simp only [Bool.and_eq_true, decide_eq_true_eq, List.all_eq_true, List.mem_range] at hmm
      obtain ⟨m1, m2, m3, m4⟩ := hmm
      have hM2 := hid m2
      have hM4 := hid m4
      clear m1 m2 m3 m4
      go_wp2_with fail
      refine wp_region_held_drew (S := (fun w9 => Bx w9 w.heap.size #[.slice co con.length cc, .slice vo l.length vc, .int .u64 sd, .int .u32 ck] 45 ∧ By w9 co con)) (by kernel_rfl) ⟨XB.out.below (Below.refl wB.heap.size wB).drew, Y0.out.below BB.out.drew⟩ (fun hHeld => ?_)
      have HC := hid (HB.out.below (Below.refl wB.heap.size wB).drew)
      have KC := hid (KB.out.below (Below.refl wB.heap.size wB).drew)
      have BC := hid (BB.out.trans ((Below.refl wB.heap.size wB).drew.mono BB.out.size))
      have XC := hid (XB.out.below (Below.refl wB.heap.size wB).drew)
      clear HB KB BB XB
      generalize wB.drew = wC at *
      refine wpAnyH_take (i := 0) (v := ?_) (by simp only [List.getElem?_toArray, List.getElem?_cons_succ, List.getElem?_cons_zero]; rfl) (by kernel_rfl) (by kernel_rfl) (by kernel_rfl) (by intro _ _ _ h; exact h) (Or.inl ⟨by rfl, ?_⟩) (by assumption) ?_
      rotate_left
      · intro w' hSw; go_simp; (try with_reducible rfl)
      try simp only [Act.put, List.setIfInBounds_toArray, List.set_cons_zero, List.set_cons_succ]
      refine wpAnyH_take (i := 2) (v := ?_) (by simp only [List.getElem?_toArray, List.getElem?_cons_succ, List.getElem?_cons_zero]; rfl) (by kernel_rfl) (by kernel_rfl) (by kernel_rfl) (by intro _ _ _ h; exact h) (Or.inl ⟨by rfl, ?_⟩) (by assumption) ?_
      rotate_left
      · intro w' hSw; have q0 := hSw.1.cell 0; have q1 := hSw.1.cell 1; have q2 := hSw.1.cell 2; have q3 := hSw.1.cell 3; simp at q0 q1 q2 q3; go_simp; (try with_reducible rfl)
      try simp only [Act.put, List.setIfInBounds_toArray, List.set_cons_zero, List.set_cons_succ]
      have st := hid (state20 HC.out KC.out hM2.out hM4.out V0.out.wf)
      refine wpAnyH_ready (rs := [1]) (by kernel_rfl) (by simp) ?_
      refine AllReadyH.cons (by simp only [List.getElem?_toArray, List.getElem?_cons_succ, List.getElem?_cons_zero]; rfl) (fun K hK => ?_) AllReadyH.nil
      go_simp
      go_at_call 20
      refine st.out.mono ?_
      clear st
      rintro e wD ⟨⟨ao2, ac2, vo2, vc3, rfl, hYD, hVD⟩, hbD⟩
      have HD := hid (HC.out.below hbD)
      have XD := hid (XC.out.below hbD)
      have BD := hid (BC.out.trans (hbD.mono BC.out.size))
      have sm2 := hid (same18 ao2 co vo2 vo con.length l.length ac2 cc vc3 vc con rfl l rfl sd ck wD hVD (V0.out.below BD.out) hYD (Y0.out.below BD.out) (by have := hNN.out; omega))
      clear HC KC XC BC hbD hYD hVD hHeld
      go_wp2_with fail
      refine hK.out _ _ (show (fun w9 => Bx w9 w.heap.size #[.slice co con.length cc, .slice vo l.length vc, .int .u64 sd, .int .u32 ck] 45 ∧ By w9 co con) wD from ⟨XD.out, Y0.out.below BD.out⟩) (fun hHeld => ?_)
      clear hK K
      try simp only [Act.put, List.setIfInBounds_toArray, List.set_cons_zero, List.set_cons_succ]
      refine wpAnyH_ready (rs := [3]) (by kernel_rfl) (by simp) ?_
      refine AllReadyH.cons (by simp only [List.getElem?_toArray, List.getElem?_cons_succ, List.getElem?_cons_zero]; rfl) (fun K hK => ?_) AllReadyH.nil
      go_simp
      go_at_call 18
      refine sm2.out.mono ?_
      clear sm2
      rintro e wE ⟨rfl, hbE⟩
      have HE := hid (HD.out.below hbE)
      have XE := hid (XD.out.below hbE)
      have BE := hid (BD.out.trans (hbE.mono BD.out.size))
      clear HD XD BD hbE hHeld
      go_wp2_with fail
      refine hK.out _ _ (show (fun w9 => Bx w9 w.heap.size #[.slice co con.length cc, .slice vo l.length vc, .int .u64 sd, .int .u32 ck] 45 ∧ By w9 co con) wE from ⟨XE.out, Y0.out.below BE.out⟩) (fun hHeld => ?_)
      clear hK K
      try simp only [Act.put, List.setIfInBounds_toArray, List.set_cons_zero, List.set_cons_succ]
      refine wpAnyH_take (i := 4) (v := ?_) (by simp only [List.getElem?_toArray, List.getElem?_cons_succ, List.getElem?_cons_zero]; rfl) (by kernel_rfl) (by kernel_rfl) (by kernel_rfl) (by intro _ _ _ h; exact h) (Or.inl ⟨by rfl, ?_⟩) (by assumption) ?_
      rotate_left
      · intro w' hSw; go_simp; (try with_reducible rfl)
      try simp only [Act.put, List.setIfInBounds_toArray, List.set_cons_zero, List.set_cons_succ]
      refine wpAnyH_take (i := 5) (v := ?_) (by simp only [List.getElem?_toArray, List.getElem?_cons_succ, List.getElem?_cons_zero]; rfl) (by kernel_rfl) (by kernel_rfl) (by kernel_rfl) (by intro _ _ _ h; exact h) (Or.inl ⟨by rfl, ?_⟩) (by assumption) ?_
      rotate_left
      · intro w' hSw; go_simp; (try with_reducible rfl)
      try simp only [Act.put, List.setIfInBounds_toArray, List.set_cons_zero, List.set_cons_succ]
      refine wpAnyH_take (i := 7) (v := ?_) (by simp only [List.getElem?_toArray, List.getElem?_cons_succ, List.getElem?_cons_zero]; rfl) (by kernel_rfl) (by kernel_rfl) (by kernel_rfl) (by intro _ _ _ h; exact h) (Or.inl ⟨by rfl, ?_⟩) (by assumption) ?_
      rotate_left
      · intro w' hSw; go_simp; (try with_reducible rfl)
      try simp only [Act.put, List.setIfInBounds_toArray, List.set_cons_zero, List.set_cons_succ]
      refine wpAnyH_take (i := 8) (v := ?_) (by simp only [List.getElem?_toArray, List.getElem?_cons_succ, List.getElem?_cons_zero]; rfl) (by kernel_rfl) (by kernel_rfl) (by kernel_rfl) (by intro _ _ _ h; exact h) (Or.inl ⟨by rfl, ?_⟩) (by assumption) ?_
      rotate_left
      · intro w' hSw; have q0 := hSw.1.cell 0; have q1 := hSw.1.cell 1; have q2 := hSw.1.cell 2; have q3 := hSw.1.cell 3; simp at q0 q1 q2 q3; go_simp; (try with_reducible rfl)
      try simp only [Act.put, List.setIfInBounds_toArray, List.set_cons_zero, List.set_cons_succ]
      refine wpAnyH_take (i := 9) (v := ?_) (by simp only [List.getElem?_toArray, List.getElem?_cons_succ, List.getElem?_cons_zero]; rfl) (by kernel_rfl) (by kernel_rfl) (by kernel_rfl) (by intro _ _ _ h; exact h) (Or.inl ⟨by rfl, ?_⟩) (by assumption) ?_
      rotate_left
      · intro w' hSw; have q4 := convBy hSw.2 con.length cc rfl; go_simp; (try with_reducible rfl)
      try simp only [Act.put, List.setIfInBounds_toArray, List.set_cons_zero, List.set_cons_succ]
      have co15 := hid (console15 HE.out)
      refine wpAnyH_ready (rs := [6]) (by kernel_rfl) (by simp) ?_
      refine AllReadyH.cons (by simp only [List.getElem?_toArray, List.getElem?_cons_succ, List.getElem?_cons_zero]; rfl) (fun K hK => ?_) AllReadyH.nil
      go_simp
      go_at_call 15
      refine co15.out.mono ?_
      clear co15
      rintro e wF ⟨rfl, rfl⟩
      go_wp2_with fail
      refine hK.out _ _ hHeld (fun hHeld => ?_)
      clear hK K
      try simp only [Act.put, List.setIfInBounds_toArray, List.set_cons_zero, List.set_cons_succ]
      refine wpAnyH_take (i := 10) (v := ?_) (by simp only [List.getElem?_toArray, List.getElem?_cons_succ, List.getElem?_cons_zero]; rfl) (by kernel_rfl) (by kernel_rfl) (by kernel_rfl) (by intro _ _ _ h; exact h) (Or.inl ⟨by rfl, ?_⟩) (by assumption) ?_
      rotate_left
      · intro w' hSw; go_simp; (try with_reducible rfl)
      try simp only [Act.put, List.setIfInBounds_toArray, List.set_cons_zero, List.set_cons_succ]
      refine wpAnyH_take (i := 11) (v := ?_) (by simp only [List.getElem?_toArray, List.getElem?_cons_succ, List.getElem?_cons_zero]; rfl) (by kernel_rfl) (by kernel_rfl) (by kernel_rfl) (by intro _ _ _ h; exact h) (Or.inl ⟨by rfl, ?_⟩) (by assumption) ?_
      rotate_left
      · intro w' hSw; go_simp; (try with_reducible rfl)
      try simp only [Act.put, List.setIfInBounds_toArray, List.set_cons_zero, List.set_cons_succ]
      refine wpAnyH_take (i := 12) (v := ?_) (by simp only [List.getElem?_toArray, List.getElem?_cons_succ, List.getElem?_cons_zero]; rfl) (by kernel_rfl) (by kernel_rfl) (by kernel_rfl) (by intro _ _ _ h; exact h) (Or.inl ⟨by rfl, ?_⟩) (by assumption) ?_
      rotate_left
      · intro w' hSw; go_simp; (try with_reducible rfl)
      try simp only [Act.put, List.setIfInBounds_toArray, List.set_cons_zero, List.set_cons_succ]
      refine wpAnyH_done (by kernel_rfl) ?_ _
      clear hHeld
      go_wp2_with fail
      go_ret
      exact ⟨rfl, BE.out⟩
  · go_simp
    refine hK.out _ _ (show (fun w9 => Bx w9 w.heap.size #[.slice co con.length cc, .slice vo l.length vc, .int .u64 sd, .int .u32 ck] 45) _ from X4.out.below ba) (fun hHeld => ?_)
    clear hK K
    try simp only [Act.put, List.setIfInBounds_toArray, List.set_cons_zero, List.set_cons_succ]
    refine wpAnyH_ready (rs := [1]) (by kernel_rfl) (by simp) ?_
    refine AllReadyH.cons (by simp only [List.getElem?_toArray, List.getElem?_cons_succ, List.getElem?_cons_zero]; rfl) (fun K hK => ?_) AllReadyH.nil
    go_simp
    refine hK.out _ _ hHeld (fun hHeld => ?_)
    clear hK K hHeld ba r0 r1
    try simp only [Act.put, List.setIfInBounds_toArray, List.set_cons_zero, List.set_cons_succ]
    refine wpAnyH_ready (rs := [3]) (by kernel_rfl) (by simp) ?_
    refine AllReadyH.cons (by simp only [List.getElem?_toArray, List.getElem?_cons_succ, List.getElem?_cons_zero]; rfl) (fun K hK => ?_) AllReadyH.nil
    refine step_append_str rfl _ _ 27 rfl w2.heap.size 5 5 (.int .u8 0) 1 1 1 Tryz.underlying27 (by kernel_rfl) rfl (by decide) (.slice oa con.length oc) con.length (bv con) [.int .u8 77] (0, 0) O4.out rfl (by simp [Value.oneCell']) (by unfold maxLen; have := hM.out; omega) (by have := hM.out; omega) hz.out rfl rfl ?_
    intro v' w5 hA
    obtain ⟨ao, cap, rfl, -⟩ := own_any_shape hA.own
    have n1 := row_ne_box O4.out X4.out (by decide)
    have n2 := row_ne_box O4.out Q4.out (by decide)
    have hb5 := hA.below O4.out hz.out
    have X5 := hid (X4.out.on hA.grown (fun e => n1 e.symm))
    have Q5 := hid (Q4.out.on hA.grown (fun e => n2 e.symm))
    have B5 := hid (B4.out.trans (hb5.mono (Nat.le_of_lt hlo.out)))
    have O5 := hid hA.own
    have W5 := hid (W4.out.kept hA.grown (row_ne_row W4.out O4.out (by decide)))
    have z0 : w5.cell? ⟨q, 0, none⟩ = some (.slice oa con.length oc) := by simpa using Q5.out.cell 0
    have f0 := Q5.out.free 0
    have SG := hid (grown_set w5 q 0 (.slice ao con.length cap))
    obtain ⟨g, rfl, hcap, hg, hY5, hc5⟩ := own_more O5.out rfl
    have hcap0 : con.length ≤ cap := by omega
    have hgl := hid hg
    have hcp := hid hcap
    have Y5 := hid hY5
    have D5 := hid hc5
    clear hA n1 n2 hb5 hg hY5 hc5
    refine hK.out _ _ (show (fun w9 => Bx w9 w.heap.size #[.slice co con.length cc, .slice vo l.length vc, .int .u64 sd, .int .u32 ck] 45) w5 from X5.out) (fun hHeld => ?_)
    clear hK K
    try simp only [Act.put, List.setIfInBounds_toArray, List.set_cons_zero, List.set_cons_succ]
    refine wpAnyH_take (i := 7) (v := ?_) (by simp only [List.getElem?_toArray, List.getElem?_cons_succ, List.getElem?_cons_zero]; rfl) (by kernel_rfl) (by kernel_rfl) (by kernel_rfl) (by intro _ _ _ h; exact h) (Or.inl ⟨by rfl, ?_⟩) (by assumption) ?_
    rotate_left
    · intro w' hSw; go_simp; (try with_reducible rfl)
    try simp only [Act.put, List.setIfInBounds_toArray, List.set_cons_zero, List.set_cons_succ]
    refine wpAnyH_take (i := 8) (v := ?_) (by simp only [List.getElem?_toArray, List.getElem?_cons_succ, List.getElem?_cons_zero]; rfl) (by kernel_rfl) (by kernel_rfl) (by kernel_rfl) (by intro _ _ _ h; exact h) (Or.inl ⟨by rfl, ?_⟩) (by assumption) ?_
    rotate_left
    · intro w' hSw; go_simp; (try with_reducible rfl)
    try simp only [Act.put, List.setIfInBounds_toArray, List.set_cons_zero, List.set_cons_succ]
    refine wpAnyH_ready (rs := [9]) (by kernel_rfl) (by simp) ?_
    refine AllReadyH.cons (by simp only [List.getElem?_toArray, List.getElem?_cons_succ, List.getElem?_cons_zero]; rfl) (fun K hK => ?_) AllReadyH.nil
    go_simp
    refine hK.out _ _ (show (fun w9 => Bx w9 w.heap.size #[.slice co con.length cc, .slice vo l.length vc, .int .u64 sd, .int .u32 ck] 45) _ from X5.out.on SG.out (fun e => by simp only [Option.some.injEq] at e; have := hq.out; omega)) (fun hHeld => ?_)
    clear hK K hHeld
    try simp only [Act.put, List.setIfInBounds_toArray, List.set_cons_zero, List.set_cons_succ]
    refine wpAnyH_done (by kernel_rfl) ?_ _
    have X6 := hid (X5.out.on SG.out (fun e => by simp only [Option.some.injEq] at e; have := hq.out; omega))
    have Q6 : Hid (Bx _ q #[.slice (some ⟨g, 0, none⟩) con.length cap, .slice va l.length vc2, .int .u64 sd, .int .u32 ck] 45) := hid (by simpa using Q5.out.set 0 (.slice (some ⟨g, 0, none⟩) con.length cap))
    have ngq := row_ne_box O5.out Q5.out (by decide)
    have O6 := hid (O5.out.kept SG.out (.inr ngq))
    have W6 := hid (W5.out.kept SG.out (.inr (row_ne_box W5.out Q5.out (by decide))))
    have B6 := hid (B5.out.grown SG.out B5.out.size (fun k hk => by simp only [Option.some.injEq] at hk; have := hq.out; omega))
    clear SG z0 f0 ngq X4 X5 Q4 Q5 B4 B5 O4 O5 W4 W5 Y5 D5 hcap hcap0 hHeld
    generalize w5.setCell ⟨q, 0, none⟩ (.slice (some ⟨g, 0, none⟩) con.length cap) = w6 at *
    obtain ⟨g2, hg2, -, -, hY6, hD6⟩ := own_more O6.out rfl
    simp only [Option.some.injEq, Addr.mk.injEq, and_true] at hg2
    subst hg2
    have Y6 := hid hY6
    have D6 := hid hD6
    clear hY6 hD6
    have V6 := hid (Vr.of_own W6.out V0.out.wf)
    have hg6 := hid ((O6.out.lt g rfl).2)
    have ld := hid (load13 (some ⟨g, 0, none⟩) va con.length l.length cap vc2 con rfl l rfl sd ck w6 V6.out Y6.out hSd.out hCk.out)
    have z0 := Q6.out.cell 0
    have z1 := Q6.out.cell 1
    have z2 := Q6.out.cell 2
    have z3 := Q6.out.cell 3
    simp only [List.getElem?_toArray, List.getElem?_cons_zero, List.getElem?_cons_succ] at z0 z1 z2 z3
    go_wp2_with fail
    go_at_call 13
    refine ld.out.mono ?_
    clear ld z0 z1 z2 z3
    rintro e w7 ⟨hb7, hL⟩
    have X7 := hid (X6.out.below hb7)
    have Q7 := hid (Q6.out.below hb7)
    have O7 := hid (own_mono O6.out hb7 (Nat.le_refl _))
    have W7 := hid (own_mono W6.out hb7 (Nat.le_refl _))
    have B7 := hid (B6.out.trans (hb7.mono B6.out.size))
    have V7 := hid (V6.out.below hb7)
    have Y7 := hid (Y6.out.below hb7)
    have D7 := hid ((hb7.cell hg6.out).trans D6.out)
    have hz7 := hid hb7.size
    have sm := hid (same18 (some ⟨g, 0, none⟩) co va vo con.length l.length cap cc vc2 vc con rfl l rfl sd ck w7.drew (V7.out.below (Below.refl _ _).drew) (V0.out.below (B7.out.drew)) (Y7.out.below (Below.refl _ _).drew) (Y0.out.below B7.out.drew) (by have := hNN.out; omega))
    clear X6 Q6 O6 W6 B6 V6 Y6 D6 hb7
    cases hmy : mayB con l sd
    · have hMy := hid hmy
      clear hmy
      obtain rfl := hL.2 hMy.out
      clear hL
      go_wp2_with fail
      refine wp_region_held_drew (S := (fun w9 => Bx w9 w.heap.size #[.slice co con.length cc, .slice vo l.length vc, .int .u64 sd, .int .u32 ck] 45 ∧ Bx w9 q #[.slice (some ⟨g, 0, none⟩) con.length cap, .slice va l.length vc2, .int .u64 sd, .int .u32 ck] 45 ∧ w9.cell? ⟨g, con.length, none⟩ = some (.int .u8 77))) (by kernel_rfl) ⟨X7.out.below (Below.refl _ _).drew, Q7.out.below (Below.refl _ _).drew, ((Below.refl w7.heap.size w7).drew.cell (World.block_lt_of_cell? w7 _ D7.out)).trans D7.out⟩ (fun hHeld => ?_)
      have X8 := hid (X7.out.below (Below.refl w7.heap.size w7).drew)
      have Q8 := hid (Q7.out.below (Below.refl w7.heap.size w7).drew)
      have O8 := hid (own_mono O7.out (Below.refl w7.heap.size w7).drew (Nat.le_refl _))
      have W8 := hid (own_mono W7.out (Below.refl w7.heap.size w7).drew (Nat.le_refl _))
      have B8 := hid (B7.out.trans ((Below.refl w7.heap.size w7).drew.mono B7.out.size))
      have hzd := hid (Nat.le_trans hz7.out (Below.refl w7.heap.size w7).drew.size)
      clear V7 Y7
      clear X7 Q7 O7 W7 B7 D7 hz7
      generalize w7.drew = w8 at *
      refine wpAnyH_take (i := 0) (v := ?_) (by simp only [List.getElem?_toArray, List.getElem?_cons_succ, List.getElem?_cons_zero]; rfl) (by kernel_rfl) (by kernel_rfl) (by kernel_rfl) (by intro _ _ _ h; exact h) (Or.inl ⟨by rfl, ?_⟩) (by assumption) ?_
      rotate_left
      · intro w' hSw; have q0 := hSw.2.1.cell 0; have q1 := hSw.2.1.cell 1; have q2 := hSw.2.1.cell 2; have q3 := hSw.2.1.cell 3; simp at q0 q1 q2 q3; go_simp; (try with_reducible rfl)
      try simp only [Act.put, List.setIfInBounds_toArray, List.set_cons_zero, List.set_cons_succ]
      refine wpAnyH_take (i := 1) (v := ?_) (by simp only [List.getElem?_toArray, List.getElem?_cons_succ, List.getElem?_cons_zero]; rfl) (by kernel_rfl) (by kernel_rfl) (by kernel_rfl) (by intro _ _ _ h; exact h) (Or.inl ⟨by rfl, ?_⟩) (by assumption) ?_
      rotate_left
      · intro w' hSw; have q0 := hSw.1.cell 0; have q1 := hSw.1.cell 1; have q2 := hSw.1.cell 2; have q3 := hSw.1.cell 3; simp at q0 q1 q2 q3; go_simp; (try with_reducible rfl)
      try simp only [Act.put, List.setIfInBounds_toArray, List.set_cons_zero, List.set_cons_succ]
      refine wpAnyH_ready (rs := [2]) (by kernel_rfl) (by simp) ?_
      refine AllReadyH.cons (by simp only [List.getElem?_toArray, List.getElem?_cons_succ, List.getElem?_cons_zero]; rfl) (fun K hK => ?_) AllReadyH.nil
      go_simp
      go_at_call 18
      refine sm.out.mono ?_
      clear sm
      rintro e w9 ⟨rfl, hb9⟩
      have X9 := hid (X8.out.below hb9)
      have Q9 := hid (Q8.out.below hb9)
      have O9 := hid (own_mono O8.out hb9 (Nat.le_refl _))
      have W9 := hid (own_mono W8.out hb9 (Nat.le_refl _))
      have B9 := hid (B8.out.trans (hb9.mono B8.out.size))
      have D9 := hid ((hb9.cell (World.block_lt_of_cell? w8 _ hHeld.2.2)).trans hHeld.2.2)
      have hz8 := hid (Nat.le_trans hzd.out hb9.size)
      clear X8 Q8 O8 W8 B8 hHeld hb9 hzd
      go_wp2_with fail
      refine hK.out _ _ (show (fun w9 => Bx w9 w.heap.size #[.slice co con.length cc, .slice vo l.length vc, .int .u64 sd, .int .u32 ck] 45 ∧ Bx w9 q #[.slice (some ⟨g, 0, none⟩) con.length cap, .slice va l.length vc2, .int .u64 sd, .int .u32 ck] 45 ∧ w9.cell? ⟨g, con.length, none⟩ = some (.int .u8 77)) w9 from ⟨X9.out, Q9.out, D9.out⟩) (fun hHeld => ?_)
      clear hK K
      try simp only [Act.put, List.setIfInBounds_toArray, List.set_cons_zero, List.set_cons_succ]
      have hM2 := hM.out
      have hcp2 := hcp.out
      have hw1 : IntKind.i64.wrap ((con.length : Int) + 1) = (con.length : Int) + 1 := IntWalk.i64_in _ (by omega)
      have hi1 : (0 ≤ (con.length : Int) + 1) = True := eq_true (by omega)
      have hi2 : ((con.length : Int) + 1 ≤ (cap : Int)) = True := eq_true (by omega)
      have hi3 : ((con.length : Int) < (con.length : Int) + 1) = True := eq_true (by omega)
      refine wpAnyH_take (i := 3) (v := ?_) (by simp only [List.getElem?_toArray, List.getElem?_cons_succ, List.getElem?_cons_zero]; rfl) (by kernel_rfl) (by kernel_rfl) (by kernel_rfl) (by intro _ _ _ h; exact h) (Or.inl ⟨by rfl, ?_⟩) (by assumption) ?_
      rotate_left
      · intro w' hSw; go_simp; (try with_reducible rfl)
      try simp only [Act.put, List.setIfInBounds_toArray, List.set_cons_zero, List.set_cons_succ]
      refine wpAnyH_take (i := 4) (v := ?_) (by simp only [List.getElem?_toArray, List.getElem?_cons_succ, List.getElem?_cons_zero]; rfl) (by kernel_rfl) (by kernel_rfl) (by kernel_rfl) (by intro _ _ _ h; exact h) (Or.inl ⟨by rfl, ?_⟩) (by assumption) ?_
      rotate_left
      · intro w' hSw; go_simp; (try with_reducible rfl)
      try simp only [Act.put, List.setIfInBounds_toArray, List.set_cons_zero, List.set_cons_succ]
      refine wpAnyH_take (i := 5) (v := ?_) (by simp only [List.getElem?_toArray, List.getElem?_cons_succ, List.getElem?_cons_zero]; rfl) (by kernel_rfl) (by kernel_rfl) (by kernel_rfl) (by intro _ _ _ h; exact h) (Or.inl ⟨by rfl, ?_⟩) (by assumption) ?_
      rotate_left
      · intro w' hSw; go_simp; (try with_reducible rfl)
      try simp only [Act.put, List.setIfInBounds_toArray, List.set_cons_zero, List.set_cons_succ]
      refine wpAnyH_take (i := 6) (v := ?_) (by simp only [List.getElem?_toArray, List.getElem?_cons_succ, List.getElem?_cons_zero]; rfl) (by kernel_rfl) (by kernel_rfl) (by kernel_rfl) (by intro _ _ _ h; exact h) (Or.inl ⟨by rfl, ?_⟩) (by assumption) ?_
      rotate_left
      · intro w' hSw; have q0 := hSw.2.1.cell 0; simp at q0; go_simp; (try with_reducible rfl)
      try simp only [Act.put, List.setIfInBounds_toArray, List.set_cons_zero, List.set_cons_succ]
      refine wpAnyH_take (i := 7) (v := ?_) (by simp only [List.getElem?_toArray, List.getElem?_cons_succ, List.getElem?_cons_zero]; rfl) (by kernel_rfl) (by kernel_rfl) (by kernel_rfl) (by intro _ _ _ h; exact h) (Or.inl ⟨by rfl, ?_⟩) (by assumption) ?_
      rotate_left
      · intro w' hSw; go_simp; (try with_reducible rfl)
      try simp only [Act.put, List.setIfInBounds_toArray, List.set_cons_zero, List.set_cons_succ]
      refine wpAnyH_take (i := 8) (v := ?_) (by simp only [List.getElem?_toArray, List.getElem?_cons_succ, List.getElem?_cons_zero]; rfl) (by kernel_rfl) (by kernel_rfl) (by kernel_rfl) (by intro _ _ _ h; exact h) (Or.inl ⟨by rfl, ?_⟩) (by assumption) ?_
      rotate_left
      · intro w' hSw; have q0 := hSw.1.cell 0; simp at q0; go_simp; (try with_reducible rfl)
      try simp only [Act.put, List.setIfInBounds_toArray, List.set_cons_zero, List.set_cons_succ]
      refine wpAnyH_take (i := 9) (v := ?_) (by simp only [List.getElem?_toArray, List.getElem?_cons_succ, List.getElem?_cons_zero]; rfl) (by kernel_rfl) (by kernel_rfl) (by kernel_rfl) (by intro _ _ _ h; exact h) (Or.inl ⟨by rfl, ?_⟩) (by assumption) ?_
      rotate_left
      · intro w' hSw; go_simp; (try with_reducible rfl)
      try simp only [Act.put, List.setIfInBounds_toArray, List.set_cons_zero, List.set_cons_succ]
      refine wpAnyH_take (i := 10) (v := ?_) (by simp only [List.getElem?_toArray, List.getElem?_cons_succ, List.getElem?_cons_zero]; rfl) (by kernel_rfl) (by kernel_rfl) (by kernel_rfl) (by intro _ _ _ h; exact h) (Or.inl ⟨by rfl, ?_⟩) (by assumption) ?_
      rotate_left
      · intro w' hSw; go_simp; (try with_reducible rfl)
      try simp only [Act.put, List.setIfInBounds_toArray, List.set_cons_zero, List.set_cons_succ]
      refine wpAnyH_take (i := 11) (v := ?_) (by simp only [List.getElem?_toArray, List.getElem?_cons_succ, List.getElem?_cons_zero]; rfl) (by kernel_rfl) (by kernel_rfl) (by kernel_rfl) (by intro _ _ _ h; exact h) (Or.inl ⟨by rfl, ?_⟩) (by assumption) ?_
      rotate_left
      · intro w' hSw; go_simp; (try with_reducible rfl)
      try simp only [Act.put, List.setIfInBounds_toArray, List.set_cons_zero, List.set_cons_succ]
      refine wpAnyH_take (i := 12) (v := ?_) (by simp only [List.getElem?_toArray, List.getElem?_cons_succ, List.getElem?_cons_zero]; rfl) (by kernel_rfl) (by kernel_rfl) (by kernel_rfl) (by intro _ _ _ h; exact h) (Or.inl ⟨by rfl, ?_⟩) (by assumption) ?_
      rotate_left
      · intro w' hSw; go_simp; (try with_reducible rfl)
      try simp only [Act.put, List.setIfInBounds_toArray, List.set_cons_zero, List.set_cons_succ]
      refine wpAnyH_take (i := 13) (v := ?_) (by simp only [List.getElem?_toArray, List.getElem?_cons_succ, List.getElem?_cons_zero]; rfl) (by kernel_rfl) (by kernel_rfl) (by kernel_rfl) (by intro _ _ _ h; exact h) (Or.inl ⟨by rfl, ?_⟩) (by assumption) ?_
      rotate_left
      · intro w' hSw; have q0 := hSw.1.cell 0; simp at q0; go_simp; (try with_reducible rfl)
      try simp only [Act.put, List.setIfInBounds_toArray, List.set_cons_zero, List.set_cons_succ]
      refine wpAnyH_take (i := 14) (v := ?_) (by simp only [List.getElem?_toArray, List.getElem?_cons_succ, List.getElem?_cons_zero]; rfl) (by kernel_rfl) (by kernel_rfl) (by kernel_rfl) (by intro _ _ _ h; exact h) (Or.inl ⟨by rfl, ?_⟩) (by assumption) ?_
      rotate_left
      · intro w' hSw; go_simp; (try with_reducible rfl)
      try simp only [Act.put, List.setIfInBounds_toArray, List.set_cons_zero, List.set_cons_succ]
      refine wpAnyH_take (i := 15) (v := ?_) (by simp only [List.getElem?_toArray, List.getElem?_cons_succ, List.getElem?_cons_zero]; rfl) (by kernel_rfl) (by kernel_rfl) (by kernel_rfl) (by intro _ _ _ h; exact h) (Or.inl ⟨by rfl, ?_⟩) (by assumption) ?_
      rotate_left
      · intro w' hSw; go_simp; (try with_reducible rfl)
      try simp only [Act.put, List.setIfInBounds_toArray, List.set_cons_zero, List.set_cons_succ]
      refine wpAnyH_take (i := 16) (v := ?_) (by simp only [List.getElem?_toArray, List.getElem?_cons_succ, List.getElem?_cons_zero]; rfl) (by kernel_rfl) (by kernel_rfl) (by kernel_rfl) (by intro _ _ _ h; exact h) (Or.inl ⟨by rfl, ?_⟩) (by assumption) ?_
      rotate_left
      · intro w' hSw; have q0 := hSw.2.2; go_simp; (try with_reducible rfl)
      try simp only [Act.put, List.setIfInBounds_toArray, List.set_cons_zero, List.set_cons_succ]
      refine wpAnyH_take (i := 17) (v := ?_) (by simp only [List.getElem?_toArray, List.getElem?_cons_succ, List.getElem?_cons_zero]; rfl) (by kernel_rfl) (by kernel_rfl) (by kernel_rfl) (by intro _ _ _ h; exact h) (Or.inl ⟨by rfl, ?_⟩) (by assumption) ?_
      rotate_left
      · intro w' hSw; go_simp; (try with_reducible rfl)
      try simp only [Act.put, List.setIfInBounds_toArray, List.set_cons_zero, List.set_cons_succ]
      refine wpAnyH_take (i := 18) (v := ?_) (by simp only [List.getElem?_toArray, List.getElem?_cons_succ, List.getElem?_cons_zero]; rfl) (by kernel_rfl) (by kernel_rfl) (by kernel_rfl) (by intro _ _ _ h; exact h) (Or.inl ⟨by rfl, ?_⟩) (by assumption) ?_
      rotate_left
      · intro w' hSw; go_simp; (try with_reducible rfl)
      try simp only [Act.put, List.setIfInBounds_toArray, List.set_cons_zero, List.set_cons_succ]
      refine wpAnyH_done (by kernel_rfl) ?_ _
      clear hHeld hM2 hcp2 hw1 hi1 hi2 hi3
      have my0 := may14 co vo _ _ cc vc con rfl l rfl sd ck w9 (V0.out.below B9.out)
      rw [hMy.out] at my0
      have my := hid my0
      clear my0
      have z0 := X9.out.cell 0
      have z1 := X9.out.cell 1
      have z2 := X9.out.cell 2
      have z3 := X9.out.cell 3
      simp only [List.getElem?_toArray, List.getElem?_cons_zero, List.getElem?_cons_succ] at z0 z1 z2 z3
      go_wp2_with fail
      go_at_call 14
      refine my.out.mono ?_
      clear my z0 z1 z2 z3
      rintro e wA ⟨rfl, hbA⟩
      have XA := hid (X9.out.below hbA)
      have QA := hid (Q9.out.below hbA)
      have OA := hid (own_mono O9.out hbA (Nat.le_refl _))
      have WA := hid (own_mono W9.out hbA (Nat.le_refl _))
      have BA := hid (B9.out.trans (hbA.mono B9.out.size))
      have hzA := hid (Nat.le_trans hz8.out hbA.size)
      clear X9 Q9 O9 W9 B9 D9 hz8 hbA
      go_wp2_with fail
      go_ret
      exact ⟨rfl, BA.out⟩
    · have hMy := hid hmy
      clear hmy
      obtain ⟨h, cv, mb, rfl, hHo, hMb⟩ := hL.1 hMy.out
      clear hL
      have H7 := hid hHo
      have K7 := hid hMb
      clear hHo hMb
      go_wp2_with fail
      refine wp_region_held_drew (S := (fun w9 => Bx w9 w.heap.size #[.slice co con.length cc, .slice vo l.length vc, .int .u64 sd, .int .u32 ck] 45 ∧ Bx w9 q #[.slice (some ⟨g, 0, none⟩) con.length cap, .slice va l.length vc2, .int .u64 sd, .int .u32 ck] 45 ∧ w9.cell? ⟨g, con.length, none⟩ = some (.int .u8 77))) (by kernel_rfl) ⟨X7.out.below (Below.refl _ _).drew, Q7.out.below (Below.refl _ _).drew, ((Below.refl w7.heap.size w7).drew.cell (World.block_lt_of_cell? w7 _ D7.out)).trans D7.out⟩ (fun hHeld => ?_)
      have X8 := hid (X7.out.below (Below.refl w7.heap.size w7).drew)
      have Q8 := hid (Q7.out.below (Below.refl w7.heap.size w7).drew)
      have O8 := hid (own_mono O7.out (Below.refl w7.heap.size w7).drew (Nat.le_refl _))
      have W8 := hid (own_mono W7.out (Below.refl w7.heap.size w7).drew (Nat.le_refl _))
      have B8 := hid (B7.out.trans ((Below.refl w7.heap.size w7).drew.mono B7.out.size))
      have hzd := hid (Nat.le_trans hz7.out (Below.refl w7.heap.size w7).drew.size)
      have H8 := hid (H7.out.below (Below.refl _ _).drew)
      have K8 := hid (K7.out.below (Below.refl _ _).drew)
      clear V7 Y7 H7 K7
      clear X7 Q7 O7 W7 B7 D7 hz7
      generalize w7.drew = w8 at *
      refine wpAnyH_take (i := 0) (v := ?_) (by simp only [List.getElem?_toArray, List.getElem?_cons_succ, List.getElem?_cons_zero]; rfl) (by kernel_rfl) (by kernel_rfl) (by kernel_rfl) (by intro _ _ _ h; exact h) (Or.inl ⟨by rfl, ?_⟩) (by assumption) ?_
      rotate_left
      · intro w' hSw; have q0 := hSw.2.1.cell 0; have q1 := hSw.2.1.cell 1; have q2 := hSw.2.1.cell 2; have q3 := hSw.2.1.cell 3; simp at q0 q1 q2 q3; go_simp; (try with_reducible rfl)
      try simp only [Act.put, List.setIfInBounds_toArray, List.set_cons_zero, List.set_cons_succ]
      refine wpAnyH_take (i := 1) (v := ?_) (by simp only [List.getElem?_toArray, List.getElem?_cons_succ, List.getElem?_cons_zero]; rfl) (by kernel_rfl) (by kernel_rfl) (by kernel_rfl) (by intro _ _ _ h; exact h) (Or.inl ⟨by rfl, ?_⟩) (by assumption) ?_
      rotate_left
      · intro w' hSw; have q0 := hSw.1.cell 0; have q1 := hSw.1.cell 1; have q2 := hSw.1.cell 2; have q3 := hSw.1.cell 3; simp at q0 q1 q2 q3; go_simp; (try with_reducible rfl)
      try simp only [Act.put, List.setIfInBounds_toArray, List.set_cons_zero, List.set_cons_succ]
      refine wpAnyH_ready (rs := [2]) (by kernel_rfl) (by simp) ?_
      refine AllReadyH.cons (by simp only [List.getElem?_toArray, List.getElem?_cons_succ, List.getElem?_cons_zero]; rfl) (fun K hK => ?_) AllReadyH.nil
      go_simp
      go_at_call 18
      refine sm.out.mono ?_
      clear sm
      rintro e w9 ⟨rfl, hb9⟩
      have X9 := hid (X8.out.below hb9)
      have Q9 := hid (Q8.out.below hb9)
      have O9 := hid (own_mono O8.out hb9 (Nat.le_refl _))
      have W9 := hid (own_mono W8.out hb9 (Nat.le_refl _))
      have B9 := hid (B8.out.trans (hb9.mono B8.out.size))
      have D9 := hid ((hb9.cell (World.block_lt_of_cell? w8 _ hHeld.2.2)).trans hHeld.2.2)
      have hz8 := hid (Nat.le_trans hzd.out hb9.size)
      have H9 := hid (H8.out.below hb9)
      have K9 := hid (K8.out.below hb9)
      clear H8 K8
      clear X8 Q8 O8 W8 B8 hHeld hb9 hzd
      go_wp2_with fail
      refine hK.out _ _ (show (fun w9 => Bx w9 w.heap.size #[.slice co con.length cc, .slice vo l.length vc, .int .u64 sd, .int .u32 ck] 45 ∧ Bx w9 q #[.slice (some ⟨g, 0, none⟩) con.length cap, .slice va l.length vc2, .int .u64 sd, .int .u32 ck] 45 ∧ w9.cell? ⟨g, con.length, none⟩ = some (.int .u8 77)) w9 from ⟨X9.out, Q9.out, D9.out⟩) (fun hHeld => ?_)
      clear hK K
      try simp only [Act.put, List.setIfInBounds_toArray, List.set_cons_zero, List.set_cons_succ]
      have hM2 := hM.out
      have hcp2 := hcp.out
      have hw1 : IntKind.i64.wrap ((con.length : Int) + 1) = (con.length : Int) + 1 := IntWalk.i64_in _ (by omega)
      have hi1 : (0 ≤ (con.length : Int) + 1) = True := eq_true (by omega)
      have hi2 : ((con.length : Int) + 1 ≤ (cap : Int)) = True := eq_true (by omega)
      have hi3 : ((con.length : Int) < (con.length : Int) + 1) = True := eq_true (by omega)
      refine wpAnyH_take (i := 3) (v := ?_) (by simp only [List.getElem?_toArray, List.getElem?_cons_succ, List.getElem?_cons_zero]; rfl) (by kernel_rfl) (by kernel_rfl) (by kernel_rfl) (by intro _ _ _ h; exact h) (Or.inl ⟨by rfl, ?_⟩) (by assumption) ?_
      rotate_left
      · intro w' hSw; go_simp; (try with_reducible rfl)
      try simp only [Act.put, List.setIfInBounds_toArray, List.set_cons_zero, List.set_cons_succ]
      refine wpAnyH_take (i := 4) (v := ?_) (by simp only [List.getElem?_toArray, List.getElem?_cons_succ, List.getElem?_cons_zero]; rfl) (by kernel_rfl) (by kernel_rfl) (by kernel_rfl) (by intro _ _ _ h; exact h) (Or.inl ⟨by rfl, ?_⟩) (by assumption) ?_
      rotate_left
      · intro w' hSw; go_simp; (try with_reducible rfl)
      try simp only [Act.put, List.setIfInBounds_toArray, List.set_cons_zero, List.set_cons_succ]
      refine wpAnyH_take (i := 5) (v := ?_) (by simp only [List.getElem?_toArray, List.getElem?_cons_succ, List.getElem?_cons_zero]; rfl) (by kernel_rfl) (by kernel_rfl) (by kernel_rfl) (by intro _ _ _ h; exact h) (Or.inl ⟨by rfl, ?_⟩) (by assumption) ?_
      rotate_left
      · intro w' hSw; go_simp; (try with_reducible rfl)
      try simp only [Act.put, List.setIfInBounds_toArray, List.set_cons_zero, List.set_cons_succ]
      refine wpAnyH_take (i := 6) (v := ?_) (by simp only [List.getElem?_toArray, List.getElem?_cons_succ, List.getElem?_cons_zero]; rfl) (by kernel_rfl) (by kernel_rfl) (by kernel_rfl) (by intro _ _ _ h; exact h) (Or.inl ⟨by rfl, ?_⟩) (by assumption) ?_
      rotate_left
      · intro w' hSw; have q0 := hSw.2.1.cell 0; simp at q0; go_simp; (try with_reducible rfl)
      try simp only [Act.put, List.setIfInBounds_toArray, List.set_cons_zero, List.set_cons_succ]
      refine wpAnyH_take (i := 7) (v := ?_) (by simp only [List.getElem?_toArray, List.getElem?_cons_succ, List.getElem?_cons_zero]; rfl) (by kernel_rfl) (by kernel_rfl) (by kernel_rfl) (by intro _ _ _ h; exact h) (Or.inl ⟨by rfl, ?_⟩) (by assumption) ?_
      rotate_left
      · intro w' hSw; go_simp; (try with_reducible rfl)
      try simp only [Act.put, List.setIfInBounds_toArray, List.set_cons_zero, List.set_cons_succ]
      refine wpAnyH_take (i := 8) (v := ?_) (by simp only [List.getElem?_toArray, List.getElem?_cons_succ, List.getElem?_cons_zero]; rfl) (by kernel_rfl) (by kernel_rfl) (by kernel_rfl) (by intro _ _ _ h; exact h) (Or.inl ⟨by rfl, ?_⟩) (by assumption) ?_
      rotate_left
      · intro w' hSw; have q0 := hSw.1.cell 0; simp at q0; go_simp; (try with_reducible rfl)
      try simp only [Act.put, List.setIfInBounds_toArray, List.set_cons_zero, List.set_cons_succ]
      refine wpAnyH_take (i := 9) (v := ?_) (by simp only [List.getElem?_toArray, List.getElem?_cons_succ, List.getElem?_cons_zero]; rfl) (by kernel_rfl) (by kernel_rfl) (by kernel_rfl) (by intro _ _ _ h; exact h) (Or.inl ⟨by rfl, ?_⟩) (by assumption) ?_
      rotate_left
      · intro w' hSw; go_simp; (try with_reducible rfl)
      try simp only [Act.put, List.setIfInBounds_toArray, List.set_cons_zero, List.set_cons_succ]
      refine wpAnyH_take (i := 10) (v := ?_) (by simp only [List.getElem?_toArray, List.getElem?_cons_succ, List.getElem?_cons_zero]; rfl) (by kernel_rfl) (by kernel_rfl) (by kernel_rfl) (by intro _ _ _ h; exact h) (Or.inl ⟨by rfl, ?_⟩) (by assumption) ?_
      rotate_left
      · intro w' hSw; go_simp; (try with_reducible rfl)
      try simp only [Act.put, List.setIfInBounds_toArray, List.set_cons_zero, List.set_cons_succ]
      refine wpAnyH_take (i := 11) (v := ?_) (by simp only [List.getElem?_toArray, List.getElem?_cons_succ, List.getElem?_cons_zero]; rfl) (by kernel_rfl) (by kernel_rfl) (by kernel_rfl) (by intro _ _ _ h; exact h) (Or.inl ⟨by rfl, ?_⟩) (by assumption) ?_
      rotate_left
      · intro w' hSw; go_simp; (try with_reducible rfl)
      try simp only [Act.put, List.setIfInBounds_toArray, List.set_cons_zero, List.set_cons_succ]
      refine wpAnyH_take (i := 12) (v := ?_) (by simp only [List.getElem?_toArray, List.getElem?_cons_succ, List.getElem?_cons_zero]; rfl) (by kernel_rfl) (by kernel_rfl) (by kernel_rfl) (by intro _ _ _ h; exact h) (Or.inl ⟨by rfl, ?_⟩) (by assumption) ?_
      rotate_left
      · intro w' hSw; go_simp; (try with_reducible rfl)
      try simp only [Act.put, List.setIfInBounds_toArray, List.set_cons_zero, List.set_cons_succ]
      refine wpAnyH_take (i := 13) (v := ?_) (by simp only [List.getElem?_toArray, List.getElem?_cons_succ, List.getElem?_cons_zero]; rfl) (by kernel_rfl) (by kernel_rfl) (by kernel_rfl) (by intro _ _ _ h; exact h) (Or.inl ⟨by rfl, ?_⟩) (by assumption) ?_
      rotate_left
      · intro w' hSw; have q0 := hSw.1.cell 0; simp at q0; go_simp; (try with_reducible rfl)
      try simp only [Act.put, List.setIfInBounds_toArray, List.set_cons_zero, List.set_cons_succ]
      refine wpAnyH_take (i := 14) (v := ?_) (by simp only [List.getElem?_toArray, List.getElem?_cons_succ, List.getElem?_cons_zero]; rfl) (by kernel_rfl) (by kernel_rfl) (by kernel_rfl) (by intro _ _ _ h; exact h) (Or.inl ⟨by rfl, ?_⟩) (by assumption) ?_
      rotate_left
      · intro w' hSw; go_simp; (try with_reducible rfl)
      try simp only [Act.put, List.setIfInBounds_toArray, List.set_cons_zero, List.set_cons_succ]
      refine wpAnyH_take (i := 15) (v := ?_) (by simp only [List.getElem?_toArray, List.getElem?_cons_succ, List.getElem?_cons_zero]; rfl) (by kernel_rfl) (by kernel_rfl) (by kernel_rfl) (by intro _ _ _ h; exact h) (Or.inl ⟨by rfl, ?_⟩) (by assumption) ?_
      rotate_left
      · intro w' hSw; go_simp; (try with_reducible rfl)
      try simp only [Act.put, List.setIfInBounds_toArray, List.set_cons_zero, List.set_cons_succ]
      refine wpAnyH_take (i := 16) (v := ?_) (by simp only [List.getElem?_toArray, List.getElem?_cons_succ, List.getElem?_cons_zero]; rfl) (by kernel_rfl) (by kernel_rfl) (by kernel_rfl) (by intro _ _ _ h; exact h) (Or.inl ⟨by rfl, ?_⟩) (by assumption) ?_
      rotate_left
      · intro w' hSw; have q0 := hSw.2.2; go_simp; (try with_reducible rfl)
      try simp only [Act.put, List.setIfInBounds_toArray, List.set_cons_zero, List.set_cons_succ]
      refine wpAnyH_take (i := 17) (v := ?_) (by simp only [List.getElem?_toArray, List.getElem?_cons_succ, List.getElem?_cons_zero]; rfl) (by kernel_rfl) (by kernel_rfl) (by kernel_rfl) (by intro _ _ _ h; exact h) (Or.inl ⟨by rfl, ?_⟩) (by assumption) ?_
      rotate_left
      · intro w' hSw; go_simp; (try with_reducible rfl)
      try simp only [Act.put, List.setIfInBounds_toArray, List.set_cons_zero, List.set_cons_succ]
      refine wpAnyH_take (i := 18) (v := ?_) (by simp only [List.getElem?_toArray, List.getElem?_cons_succ, List.getElem?_cons_zero]; rfl) (by kernel_rfl) (by kernel_rfl) (by kernel_rfl) (by intro _ _ _ h; exact h) (Or.inl ⟨by rfl, ?_⟩) (by assumption) ?_
      rotate_left
      · intro w' hSw; go_simp; (try with_reducible rfl)
      try simp only [Act.put, List.setIfInBounds_toArray, List.set_cons_zero, List.set_cons_succ]
      refine wpAnyH_done (by kernel_rfl) ?_ _
      clear hHeld hM2 hcp2 hw1 hi1 hi2 hi3
      have my0 := may14 co vo _ _ cc vc con rfl l rfl sd ck w9 (V0.out.below B9.out)
      rw [hMy.out] at my0
      have my := hid my0
      clear my0
      have z0 := X9.out.cell 0
      have z1 := X9.out.cell 1
      have z2 := X9.out.cell 2
      have z3 := X9.out.cell 3
      simp only [List.getElem?_toArray, List.getElem?_cons_zero, List.getElem?_cons_succ] at z0 z1 z2 z3
      go_wp2_with fail
      go_at_call 14
      refine my.out.mono ?_
      clear my z0 z1 z2 z3
      rintro e wA ⟨rfl, hbA⟩
      have XA := hid (X9.out.below hbA)
      have QA := hid (Q9.out.below hbA)
      have OA := hid (own_mono O9.out hbA (Nat.le_refl _))
      have WA := hid (own_mono W9.out hbA (Nat.le_refl _))
      have BA := hid (B9.out.trans (hbA.mono B9.out.size))
      have hzA := hid (Nat.le_trans hz8.out hbA.size)
      have HA := hid (H9.out.below hbA)
      have KA := hid (K9.out.below hbA)
      clear H9 K9
      clear X9 Q9 O9 W9 B9 D9 hz8 hbA
      have x0 := QA.out.cell 0
      simp only [List.getElem?_toArray, List.getElem?_cons_zero, List.getElem?_cons_succ] at x0
      have oa9 := own_take_size OA.out (show con.length ≤ con.length + 1 by omega)
      have ov := hid (over_any g con.length cap w2.heap.size _ wA oa9 (by have := hM.out; omega))
      clear oa9
      go_wp2_with fail
      go_at_call 19
      refine ov.out.mono ?_
      clear ov x0
      rintro e wB ⟨rfl, hoB, hgB⟩
      have hgn := hid (show g ≠ w.heap.size by have := hgl.out; have := hlo.out; omega)
      have XB := hid (XA.out.on hgB (fun e => by simp only [Option.some.injEq] at e; exact hgn.out e.symm))
      have HB := hid (HA.out.kpt (T := fun b => b = g) (Kpt.gr hgB (Nat.le_refl _) fun k e => by simp only [Option.some.injEq] at e; exact .inl e.symm) (fun b hb e => by have := (HA.out.hlt b hb).1; have := hg6.out; omega))
      have KB := hid (KA.out.on hgB (fun e => by simp only [Option.some.injEq] at e; have := HA.out.lo; have := hg6.out; omega))
      have BB := hid (BA.out.grown hgB BA.out.size (fun k hk => by simp only [Option.some.injEq] at hk; have := hgl.out; have := hlo.out; omega))
      clear hoB hgB XA QA OA WA BA HA KA hzA
      have hmm := hMy.out
      unfold mayB at hmm
      simp only [Bool.and_eq_true, decide_eq_true_eq, List.all_eq_true, List.mem_range] at hmm
      obtain ⟨m1, m2, m3, m4⟩ := hmm
      have hM2 := hid m2
      have hM4 := hid m4
      clear m1 m2 m3 m4
      go_wp2_with fail
      refine wp_region_held_drew (S := (fun w9 => Bx w9 w.heap.size #[.slice co con.length cc, .slice vo l.length vc, .int .u64 sd, .int .u32 ck] 45 ∧ By w9 co con)) (by kernel_rfl) ⟨XB.out.below (Below.refl wB.heap.size wB).drew, Y0.out.below BB.out.drew⟩ (fun hHeld => ?_)
      have HC := hid (HB.out.below (Below.refl wB.heap.size wB).drew)
      have KC := hid (KB.out.below (Below.refl wB.heap.size wB).drew)
      have BC := hid (BB.out.trans ((Below.refl wB.heap.size wB).drew.mono BB.out.size))
      have XC := hid (XB.out.below (Below.refl wB.heap.size wB).drew)
      clear HB KB BB XB
      generalize wB.drew = wC at *
      refine wpAnyH_take (i := 0) (v := ?_) (by simp only [List.getElem?_toArray, List.getElem?_cons_succ, List.getElem?_cons_zero]; rfl) (by kernel_rfl) (by kernel_rfl) (by kernel_rfl) (by intro _ _ _ h; exact h) (Or.inl ⟨by rfl, ?_⟩) (by assumption) ?_
      rotate_left
      · intro w' hSw; go_simp; (try with_reducible rfl)
      try simp only [Act.put, List.setIfInBounds_toArray, List.set_cons_zero, List.set_cons_succ]
      refine wpAnyH_take (i := 2) (v := ?_) (by simp only [List.getElem?_toArray, List.getElem?_cons_succ, List.getElem?_cons_zero]; rfl) (by kernel_rfl) (by kernel_rfl) (by kernel_rfl) (by intro _ _ _ h; exact h) (Or.inl ⟨by rfl, ?_⟩) (by assumption) ?_
      rotate_left
      · intro w' hSw; have q0 := hSw.1.cell 0; have q1 := hSw.1.cell 1; have q2 := hSw.1.cell 2; have q3 := hSw.1.cell 3; simp at q0 q1 q2 q3; go_simp; (try with_reducible rfl)
      try simp only [Act.put, List.setIfInBounds_toArray, List.set_cons_zero, List.set_cons_succ]
      have st := hid (state20 HC.out KC.out hM2.out hM4.out V0.out.wf)
      refine wpAnyH_ready (rs := [1]) (by kernel_rfl) (by simp) ?_
      refine AllReadyH.cons (by simp only [List.getElem?_toArray, List.getElem?_cons_succ, List.getElem?_cons_zero]; rfl) (fun K hK => ?_) AllReadyH.nil
      go_simp
      go_at_call 20
      refine st.out.mono ?_
      clear st
      rintro e wD ⟨⟨ao2, ac2, vo2, vc3, rfl, hYD, hVD⟩, hbD⟩
      have HD := hid (HC.out.below hbD)
      have XD := hid (XC.out.below hbD)
      have BD := hid (BC.out.trans (hbD.mono BC.out.size))
      have sm2 := hid (same18 ao2 co vo2 vo con.length l.length ac2 cc vc3 vc con rfl l rfl sd ck wD hVD (V0.out.below BD.out) hYD (Y0.out.below BD.out) (by have := hNN.out; omega))
      clear HC KC XC BC hbD hYD hVD hHeld
      go_wp2_with fail
      refine hK.out _ _ (show (fun w9 => Bx w9 w.heap.size #[.slice co con.length cc, .slice vo l.length vc, .int .u64 sd, .int .u32 ck] 45 ∧ By w9 co con) wD from ⟨XD.out, Y0.out.below BD.out⟩) (fun hHeld => ?_)
      clear hK K
      try simp only [Act.put, List.setIfInBounds_toArray, List.set_cons_zero, List.set_cons_succ]
      refine wpAnyH_ready (rs := [3]) (by kernel_rfl) (by simp) ?_
      refine AllReadyH.cons (by simp only [List.getElem?_toArray, List.getElem?_cons_succ, List.getElem?_cons_zero]; rfl) (fun K hK => ?_) AllReadyH.nil
      go_simp
      go_at_call 18
      refine sm2.out.mono ?_
      clear sm2
      rintro e wE ⟨rfl, hbE⟩
      have HE := hid (HD.out.below hbE)
      have XE := hid (XD.out.below hbE)
      have BE := hid (BD.out.trans (hbE.mono BD.out.size))
      clear HD XD BD hbE hHeld
      go_wp2_with fail
      refine hK.out _ _ (show (fun w9 => Bx w9 w.heap.size #[.slice co con.length cc, .slice vo l.length vc, .int .u64 sd, .int .u32 ck] 45 ∧ By w9 co con) wE from ⟨XE.out, Y0.out.below BE.out⟩) (fun hHeld => ?_)
      clear hK K
      try simp only [Act.put, List.setIfInBounds_toArray, List.set_cons_zero, List.set_cons_succ]
      refine wpAnyH_take (i := 4) (v := ?_) (by simp only [List.getElem?_toArray, List.getElem?_cons_succ, List.getElem?_cons_zero]; rfl) (by kernel_rfl) (by kernel_rfl) (by kernel_rfl) (by intro _ _ _ h; exact h) (Or.inl ⟨by rfl, ?_⟩) (by assumption) ?_
      rotate_left
      · intro w' hSw; go_simp; (try with_reducible rfl)
      try simp only [Act.put, List.setIfInBounds_toArray, List.set_cons_zero, List.set_cons_succ]
      refine wpAnyH_take (i := 5) (v := ?_) (by simp only [List.getElem?_toArray, List.getElem?_cons_succ, List.getElem?_cons_zero]; rfl) (by kernel_rfl) (by kernel_rfl) (by kernel_rfl) (by intro _ _ _ h; exact h) (Or.inl ⟨by rfl, ?_⟩) (by assumption) ?_
      rotate_left
      · intro w' hSw; go_simp; (try with_reducible rfl)
      try simp only [Act.put, List.setIfInBounds_toArray, List.set_cons_zero, List.set_cons_succ]
      refine wpAnyH_take (i := 7) (v := ?_) (by simp only [List.getElem?_toArray, List.getElem?_cons_succ, List.getElem?_cons_zero]; rfl) (by kernel_rfl) (by kernel_rfl) (by kernel_rfl) (by intro _ _ _ h; exact h) (Or.inl ⟨by rfl, ?_⟩) (by assumption) ?_
      rotate_left
      · intro w' hSw; go_simp; (try with_reducible rfl)
      try simp only [Act.put, List.setIfInBounds_toArray, List.set_cons_zero, List.set_cons_succ]
      refine wpAnyH_take (i := 8) (v := ?_) (by simp only [List.getElem?_toArray, List.getElem?_cons_succ, List.getElem?_cons_zero]; rfl) (by kernel_rfl) (by kernel_rfl) (by kernel_rfl) (by intro _ _ _ h; exact h) (Or.inl ⟨by rfl, ?_⟩) (by assumption) ?_
      rotate_left
      · intro w' hSw; have q0 := hSw.1.cell 0; have q1 := hSw.1.cell 1; have q2 := hSw.1.cell 2; have q3 := hSw.1.cell 3; simp at q0 q1 q2 q3; go_simp; (try with_reducible rfl)
      try simp only [Act.put, List.setIfInBounds_toArray, List.set_cons_zero, List.set_cons_succ]
      refine wpAnyH_take (i := 9) (v := ?_) (by simp only [List.getElem?_toArray, List.getElem?_cons_succ, List.getElem?_cons_zero]; rfl) (by kernel_rfl) (by kernel_rfl) (by kernel_rfl) (by intro _ _ _ h; exact h) (Or.inl ⟨by rfl, ?_⟩) (by assumption) ?_
      rotate_left
      · intro w' hSw; have q4 := convBy hSw.2 con.length cc rfl; go_simp; (try with_reducible rfl)
      try simp only [Act.put, List.setIfInBounds_toArray, List.set_cons_zero, List.set_cons_succ]
      have co15 := hid (console15 HE.out)
      refine wpAnyH_ready (rs := [6]) (by kernel_rfl) (by simp) ?_
      refine AllReadyH.cons (by simp only [List.getElem?_toArray, List.getElem?_cons_succ, List.getElem?_cons_zero]; rfl) (fun K hK => ?_) AllReadyH.nil
      go_simp
      go_at_call 15
      refine co15.out.mono ?_
      clear co15
      rintro e wF ⟨rfl, rfl⟩
      go_wp2_with fail
      refine hK.out _ _ hHeld (fun hHeld => ?_)
      clear hK K
      try simp only [Act.put, List.setIfInBounds_toArray, List.set_cons_zero, List.set_cons_succ]
      refine wpAnyH_take (i := 10) (v := ?_) (by simp only [List.getElem?_toArray, List.getElem?_cons_succ, List.getElem?_cons_zero]; rfl) (by kernel_rfl) (by kernel_rfl) (by kernel_rfl) (by intro _ _ _ h; exact h) (Or.inl ⟨by rfl, ?_⟩) (by assumption) ?_
      rotate_left
      · intro w' hSw; go_simp; (try with_reducible rfl)
      try simp only [Act.put, List.setIfInBounds_toArray, List.set_cons_zero, List.set_cons_succ]
      refine wpAnyH_take (i := 11) (v := ?_) (by simp only [List.getElem?_toArray, List.getElem?_cons_succ, List.getElem?_cons_zero]; rfl) (by kernel_rfl) (by kernel_rfl) (by kernel_rfl) (by intro _ _ _ h; exact h) (Or.inl ⟨by rfl, ?_⟩) (by assumption) ?_
      rotate_left
      · intro w' hSw; go_simp; (try with_reducible rfl)
      try simp only [Act.put, List.setIfInBounds_toArray, List.set_cons_zero, List.set_cons_succ]
      refine wpAnyH_take (i := 12) (v := ?_) (by simp only [List.getElem?_toArray, List.getElem?_cons_succ, List.getElem?_cons_zero]; rfl) (by kernel_rfl) (by kernel_rfl) (by kernel_rfl) (by intro _ _ _ h; exact h) (Or.inl ⟨by rfl, ?_⟩) (by assumption) ?_
      rotate_left
      · intro w' hSw; go_simp; (try with_reducible rfl)
      try simp only [Act.put, List.setIfInBounds_toArray, List.set_cons_zero, List.set_cons_succ]
      refine wpAnyH_done (by kernel_rfl) ?_ _
      clear hHeld
      go_wp2_with fail
      go_ret
      exact ⟨rfl, BE.out⟩

end Go.Proofs.YtmjholcpajfldaaGreatDoor
