/- ScriptSame: walks. No condition. -/
import Derived.Test.YtecpkadjnecbiaaGreatDoorTreeR
import Derived.RegionTactic
import Derived.ChangeAlike
namespace Go.Proofs.YtecpkadjnecbiaaGreatDoor
open Go.RowKit
set_option linter.unusedVariables false
set_option linter.unusedSimpArgs false

set_option maxHeartbeats 4000000 in
set_option maxRecDepth 100000 in
theorem copy23 (u : UT) (v : Value) (w : World) (ok : u.Ok) (hv : UIn w true none u v) : Calls Tryz.prog 5 #[v] w (CopyU w u) := by
  obtain ⟨vg, vh, vf, rfl, hG, hH, hF⟩ := hv
  obtain ⟨ga, gc, rfl⟩ := hG.shape
  obtain ⟨ha, hc, rfl⟩ := hH.shape
  obtain ⟨fa, fc, rfl⟩ := hF.shape
  obtain ⟨gs, gs1, gs2, gs3, -, gs5, gs6⟩ := SlR.cells (by omega) hG GloC (fun a b q h => h.cells)
  have hG12 := hid (And.intro gs1 gs2)
  obtain ⟨mg, hmg⟩ : ∃ m, m = u.gs.length := ⟨_, rfl⟩
  obtain ⟨mh, hmh⟩ : ∃ m, m = u.hs.length := ⟨_, rfl⟩
  obtain ⟨mf, hmf⟩ : ∃ m, m = u.fs.length := ⟨_, rfl⟩
  have hgb : mg ≤ 100000000 := by rw [hmg]; exact ok.g
  have hhb : mh ≤ 100000000 := by rw [hmh]; exact ok.h
  have hfb : mf ≤ 100000000 := by rw [hmf]; exact ok.f
  rw [← hmg] at gs5 gs6
  have G3 := hid gs3
  have G5 := hid gs5
  have G6 := hid gs6
  have HH0 := hid hH
  have HF0 := hid hF
  rw [← hmh] at HH0
  rw [← hmf] at HF0
  rw [← hmg, ← hmh, ← hmf]
  have hMG := hid hmg
  have hMH := hid hmh
  have hMF := hid hmf
  have OK := hid ok
  obtain ⟨hs, hs1, hs2, hs3, -, hs5, hs6⟩ := SlR.cells (by omega) hH (HosC w (fun _ => False) false) (fun a b q h => h.cells _ _)
  have hH12 := hid (And.intro hs1 hs2)
  rw [← hmh] at hs5 hs6
  have H3 := hid hs3
  have H5 := hid hs5
  have H6 := hid hs6
  obtain ⟨fs, fs1, fs2, fs3, -, fs5, fs6⟩ := SlR.cells (by omega) hF (FunC w (fun _ => False) false false) (fun a b q h => h.cells _ _)
  have hF12 := hid (And.intro fs1 fs2)
  rw [← hmf] at fs5 fs6
  have F3 := hid fs3
  have F5 := hid fs5
  have F6 := hid fs6
  clear hs1 hs2 hs3 hs5 hs6 fs1 fs2 fs3 fs5 fs6
  clear gs1 gs2 gs3 gs5 gs6 hG hH hF hmg hmh hmf ok
  have hC0 := hid (CU.start w #[.slice ga mg gc, .slice ha mh hc, .slice fa mf fc])
  go_enter Tryz.func5, Tryz.ntmps5
  go_wp2_with (first
    | (at_builtin
       refine wpList_append_whole rfl _ _ 22 rfl (w.heap.size + 3) 43 (.agg #[.int .i64 0, .string ⟨#[]⟩, .int .u8 0, .int .u32 0, .int .u32 0]) 5 40 mg Tryz.underlying22 (by kernel_rfl) rfl (by decide) ga gc gs.flatten G5.out (src_on G6.out hC0.out.below) G3.out (by unfold maxLen; omega) (by omega) hC0.out.size rfl rfl ?_
       intro v1 w1 hA1
       have hO1 : Hid (w1.ownsRow (w.heap.size + 3) 43 5 v1 mg gs.flatten) := hid (by have := hA1.own; rwa [Nat.zero_add, List.nil_append] at this)
       obtain ⟨a1, b1, rfl⟩ := own_sl hO1.out
       have hC1 := hid ((hC0.out.whole hA1).put 0 (.slice a1 mg b1) (.slice a1 mg b1) (.slice none 0 0) (.slice none 0 0) rfl)
       obtain ⟨⟨p0, p1, p2⟩, ⟨q0, q1, q2⟩, q3⟩ := (hC0.out.whole hA1).cells
       clear hA1)
    | (at_builtin
       refine wpList_append_str rfl _ _ 22 rfl (w.heap.size + 3) 43 43 (.agg #[.int .i64 0, .string ⟨#[]⟩, .int .u8 0, .int .u32 0, .int .u32 0]) 5 40 1 Tryz.underlying22 (by kernel_rfl) rfl (by decide) _ mg _ [.int .i64 (-7), .string ⟨#[]⟩, .int .u8 0, .int .u32 0, .int .u32 0] (0, 0) (ownsRow_setCell_below hO1.out (by show w.heap.size + 1 + 1 < w.heap.size + 3; omega) _) rfl (by simp [Value.oneCell']) (by unfold maxLen; omega) (by omega) hC1.out.size rfl (by rw [size_set]; rfl) ?_
       clear p0 p1 p2 q0 q1 q2 q3
       intro v2 w2 hA2
       obtain ⟨g2, c2, rfl, hg21, hg22, hg23, hg24⟩ := own_shape hA2.own (by omega)
       have hC2' := hC1.out.mark hA2 (ownsRow_setCell_below hO1.out (by show w.heap.size + 1 + 1 < w.heap.size + 3; omega) _)
       have hC2 := hid (hC2'.put 0 (.slice (some ⟨g2, 0, none⟩) (mg + 1) c2) (.slice (some ⟨g2, 0, none⟩) (mg + 1) c2) (.slice none 0 0) (.slice none 0 0) rfl)
       have hS2 : Hid (SlG (w2.setCell ⟨w.heap.size + 1 + 1, 0, none⟩ (.slice (some ⟨g2, 0, none⟩) (mg + 1) c2)) true (some fun b => w.heap.size + 3 ≤ b ∧ b < w2.heap.size) u.gs (.slice (some ⟨g2, 0, none⟩) mg c2)) := hid (SlG.move (GloC.done hA2 hG12.out.1 hG12.out.2 hg21 hMG.out) (grown_put (grown_refl _ _) _) (fun b hb => by simp; omega) (fun b hb => hb))
       obtain ⟨⟨p0, p1, p2⟩, ⟨q0, q1, q2⟩, q3⟩ := hC2'.cells
       clear hA2 hC2')
    | (at_builtin
       refine wpList_append_whole rfl _ _ 23 rfl (w.heap.size + 3) 36 (.agg #[.int .i64 0, .string ⟨#[]⟩, .slice none 0 0, .int .u8 0, .int .u32 0]) 5 56 mh Tryz.underlying23 (by kernel_rfl) rfl (by decide) ha hc hs.flatten H5.out (src_on H6.out hC2.out.below) H3.out (by unfold maxLen; omega) (by omega) hC2.out.size rfl rfl ?_
       clear p0 p1 p2 q0 q1 q2 q3
       intro v3 w3 hA3
       obtain ⟨a3, b3, rfl⟩ := own_sl hA3.own
       rw [Nat.zero_add] at hA3 ⊢
       have hC3' := hC2.out.whole hA3
       have hC3 := hid (hC3'.put 1 (.slice a3 mh b3) (.slice (some ⟨g2, 0, none⟩) (mg + 1) c2) (.slice a3 mh b3) (.slice none 0 0) rfl)
       have hG3 := hid (SlG.move (Z' := fun b => w.heap.size + 3 ≤ b ∧ b < w2.heap.size) (SlG.move hS2.out (row := none) hA3.grown (fun _ _ => by simp) (fun b hb => hb)) (grown_put (grown_refl _ _) (pb := w.heap.size + 1 + 1) (off := 1) (.slice a3 mh b3)) (fun b hb => by simp; omega) (fun b hb => hb))
       have hB3 := hid (HB.other (HB.start hA3 hH12.out.1 hH12.out.2 hMH.out) (grown_put (grown_refl _ _) (pb := w.heap.size + 1 + 1) (off := 1) (.slice a3 mh b3)) (by omega))
       have hS3 : Hid (w2.heap.size ≤ (w3.setCell ⟨w.heap.size + 1 + 1, 1, none⟩ (.slice a3 mh b3)).heap.size) := hid (by have := hA3.grown.size; rw [size_set] at this ⊢; exact this)
       have hP3 : Hid (∀ q, (Value.slice a3 mh b3).ownBlock = some q → w2.heap.size ≤ q) := hid (fun q hq => by have := new_own hA3 q hq; rwa [size_set] at this)
       obtain ⟨⟨p0, p1, p2⟩, ⟨q0, q1, q2⟩, q3⟩ := hC3'.cells
       clear hA3 hC3'))
  clear p0 p1 p2 q0 q1 q2 q3
  go_loopw [4] (fun i wr => ∃ k, k ≤ mh ∧ i = .int .i64 k ∧ CU w wr #[.slice ga mg gc, .slice ha mh hc, .slice fa mf fc] (.slice (some ⟨g2, 0, none⟩) (mg + 1) c2) (.slice a3 mh b3) (.slice none 0 0) ∧ SlG wr true (some fun b => w.heap.size + 3 ≤ b ∧ b < w2.heap.size) u.gs (.slice (some ⟨g2, 0, none⟩) mg c2) ∧ HB wr (w.heap.size + 3) u.hs (.slice a3 mh b3) k ∧ w2.heap.size ≤ wr.heap.size) (fun i _ => mh - (intOf i).toNat)
  case atStart => exact ⟨0, Nat.zero_le _, rfl, hC3.out, hG3.out, hB3.out, hS3.out⟩
  case round =>
    clear hC0 hC1 hC2 hC3 hG3 hB3 hS3
    obtain ⟨k, hk, rfl, hCU, hSG, hHB, hSz⟩ := hrel
    have hSZ := hid hSz
    clear hSz
    obtain ⟨⟨p0, p1, p2⟩, ⟨q0, q1, q2⟩, q3⟩ := hCU.cells
    have hC := hid hCU
    have hG := hid hSG
    have hB := hid hHB
    clear hCU hSG hHB
    by_cases hlt : k < mh
    · obtain ⟨kb, ko, hH, hka⟩ : ∃ kb ko, (∀ i (h : i < u.hs.length), HosR w true none u.hs[i] kb (ko + i * 5)) ∧ ha = some ⟨kb, ko, none⟩ := by
        obtain ⟨ka, kb, ko, kc, he, hz, hi⟩ := HH0.out
        cases he
        exact ⟨kb, ko, hi, by rcases hz with q | q; (· have := hMH.out; omega); (· exact q.1)⟩
      obtain ⟨cs, -, -, ho⟩ := hB.out
      obtain ⟨g3, c3, he, hg31, hg32, hg33, hg34⟩ := own_shape ho (by have := hMH.out; omega)
      obtain ⟨-, y1, ⟨pv, y2, hpv⟩, -, -⟩ := hH k (by have := hMH.out; omega)
      have hbl := World.block_lt_of_cell? w _ y1
      simp only [] at hbl
      have x2 := cell_on y2 hC.out.below
      obtain ⟨pa, pc, rfl⟩ := hpv.shape
      have hpl := OK.out.hp _ (List.getElem_mem (l := u.hs) (n := k) (by have := hMH.out; omega))
      have hPV := hid (And.intro hpl hpv)
      obtain ⟨pl, hpe⟩ : ∃ pl, pl = (u.hs[k]'(by have := hMH.out; omega)).params := ⟨_, rfl⟩
      rw [← hpe] at hPV x2 y2 hpv hpl
      obtain ⟨pn, hpn⟩ : ∃ pn, pn = pl.length := ⟨_, rfl⟩
      rw [← hpn] at x2 hPV
      have hPE := hid (And.intro hpe hpn)
      subst hka
      obtain ⟨rfl, rfl⟩ : a3 = some ⟨g3, 0, none⟩ ∧ b3 = c3 := by cases he; exact ⟨rfl, rfl⟩
      have hsz := hid hC.out.size
      clear hH ho he y1 y2 hpv hpl hpe hpn
      have hPost : Hid (∀ w5 u5, SlPz w5 (some fun b => wr.heap.size ≤ b ∧ b < w5.heap.size) pl u5 → wr.grownBy w5 none → CU w (w5.setCell ⟨g3, k * 5 + 2, none⟩ u5) #[.slice ga mg gc, .slice (some ⟨kb, ko, none⟩) mh hc, .slice fa mf fc] (.slice (some ⟨g2, 0, none⟩) (mg + 1) c2) (.slice (some ⟨g3, 0, none⟩) mh b3) (.slice none 0 0) ∧ SlG (w5.setCell ⟨g3, k * 5 + 2, none⟩ u5) true (some fun b => w.heap.size + 3 ≤ b ∧ b < w2.heap.size) u.gs (.slice (some ⟨g2, 0, none⟩) mg c2) ∧ HB (w5.setCell ⟨g3, k * 5 + 2, none⟩ u5) (w.heap.size + 3) u.hs (.slice (some ⟨g3, 0, none⟩) mh b3) (k + 1) ∧ w2.heap.size ≤ (w5.setCell ⟨g3, k * 5 + 2, none⟩ u5).heap.size) := hid (by
        intro w5 u5 hu5 hg5
        have hC5 := hC.out.step hg5 (fun k h => by cases h)
        have hp := grown_put (grown_refl w5 (some g3)) (pb := g3) (off := k * 5 + 2) u5
        refine ⟨hC5.step hp (fun q hq => by cases hq; exact hg31), ?_, ?_, by rw [size_set]; exact Nat.le_trans hSZ.out hg5.size⟩
        · exact SlG.move (Z' := fun b => w.heap.size + 3 ≤ b ∧ b < w2.heap.size) (SlG.move hG.out hg5 (fun _ _ => by simp) (fun _ h => h)) hp (fun b hb => by have := hP3.out g3 rfl; simp; omega) (fun _ h => h)
        · exact HB.put (Z0 := fun b => wr.heap.size ≤ b ∧ b < w5.heap.size) (HB.call hB.out hg5) hMH.out (by have := hMH.out; omega) (by rw [← hPE.out.1]; exact hu5) (fun b hb => ⟨by have := hC.out.size; omega, hb.2, by simp [Value.ownBlock]; omega⟩))
      have hCall := hid (copy36 pl (.slice pa pn pc) wr.drew (by rw [← hPE.out.2]; exact hPV.out.1) (hPV.out.2.mono ((hC.out.below.trans ((Below.refl wr.heap.size wr).drew.mono hC.out.below.size))) (fun _ _ _ h => h.mono (hC.out.below.trans ((Below.refl wr.heap.size wr).drew.mono hC.out.below.size)))))
      have hB5 := hid (fun w5 (hg5 : wr.grownBy w5 none) => And.intro (hC.out.step hg5 (fun k h => by cases h)).cells (And.intro (BldI.cell (HB.call hB.out hg5) hMH.out k (by have := hMH.out; omega) 2 (by omega)) (BldI.free (HB.call hB.out hg5) hMH.out (k * 5 + 2))))
      go_wp2_with fail
      go_region_law (go_simp; go_at_call 11; go_loud (refine hCall.out.mono ?_); rintro e w5 ⟨u5, rfl, hu5, hg5⟩; have hg5' := hid (grown_trans (grownBy_drew wr none) hg5); obtain ⟨ua, uc, rfl⟩ := hu5.shape; have hP5 := hid (hPost.out w5 _ hu5 hg5'.out); obtain ⟨⟨⟨p0', p1', p2'⟩, ⟨q0', q1', q2'⟩, q3'⟩, ⟨z, hz⟩, hfz⟩ := hB5.out w5 hg5'.out; clear hu5 hg5 hCall hB5 hPost)
      all_goals
        go_wp2_with fail
        go_roundw
        case rel => exact ⟨k + 1, by omega, by go_num, hP5.out⟩
        case measure => simp [intOf]; omega
    · obtain rfl : k = mh := by omega
      obtain ⟨cs, e1, e2, e3⟩ := hB.out
      have hO : Hid (wr.ownsRow (w.heap.size + 3) 36 5 (.slice a3 k b3) k cs.flatten) := hid (by rw [← hMH.out] at e3; exact e3)
      have hCS := hid (And.intro e1 e2)
      clear e1 e2 e3 HH0 hH12 H3 H5 H6
      go_wp2_with (first
        | (at_builtin
           refine wpList_append_str rfl _ _ 23 rfl (w.heap.size + 3) 36 36 (.agg #[.int .i64 0, .string ⟨#[]⟩, .slice none 0 0, .int .u8 0, .int .u32 0]) 5 56 1 Tryz.underlying23 (by kernel_rfl) rfl (by decide) _ k _ [.int .i64 (-7), .string ⟨#[]⟩, .slice none 0 0, .int .u8 0, .int .u32 0] (0, 0) hO.out rfl (by simp [Value.oneCell']) (by unfold maxLen; omega) (by omega) hC.out.size rfl rfl ?_
           clear p0 p1 p2 q0 q1 q2 q3
           intro v4 w4 hA4
           obtain ⟨g4, c4, rfl, hg41, hg42, hg43, hg44⟩ := own_shape hA4.own (by omega)
           have hC4' := hC.out.mark hA4 hO.out
           have hC4 := hid (hC4'.put 1 (.slice (some ⟨g4, 0, none⟩) (k + 1) c4) (.slice (some ⟨g2, 0, none⟩) (mg + 1) c2) (.slice (some ⟨g4, 0, none⟩) (k + 1) c4) (.slice none 0 0) rfl)
           have hG4 := hid (SlG.move (Z' := fun b => w.heap.size + 3 ≤ b ∧ b < w2.heap.size) (SlG.move (Z' := fun b => w.heap.size + 3 ≤ b ∧ b < w2.heap.size) hG.out hA4.grown (fun b hb e => by have := hP3.out b e.symm; omega) (fun b hb => hb)) (grown_put (grown_refl _ _) (pb := w.heap.size + 1 + 1) (off := 1) (.slice (some ⟨g4, 0, none⟩) (k + 1) c4)) (fun b hb => by simp; omega) (fun b hb => hb))
           have hH4 := hid (SlH.move (Z' := fun b => w.heap.size + 3 ≤ b ∧ b < w4.heap.size) (HB.done hA4 hCS.out.1 hCS.out.2 (fun q hq => (hO.out.lt q hq).2) hC.out.size hg41 hMH.out) (grown_put (grown_refl _ _) (pb := w.heap.size + 1 + 1) (off := 1) (.slice (some ⟨g4, 0, none⟩) (k + 1) c4)) (fun b hb => by simp; omega) (fun b hb => hb))
           have hS4 : Hid (w2.heap.size ≤ w4.heap.size) := hid (Nat.le_trans hSZ.out hA4.grown.size)
           obtain ⟨⟨p0, p1, p2⟩, ⟨q0, q1, q2⟩, q3⟩ := hC4'.cells
           clear hA4 hC4')
        | (at_builtin
           refine wpList_append_whole rfl _ _ 24 rfl (w.heap.size + 3) 39 (.agg #[.int .i64 0, .string ⟨#[]⟩, .slice none 0 0, .int .u8 0, .bool false, .slice none 0 0]) 6 80 mf Tryz.underlying24 (by kernel_rfl) rfl (by decide) fa fc fs.flatten F5.out (src_on F6.out hC4.out.below) F3.out (by unfold maxLen; omega) (by omega) hC4.out.size rfl rfl ?_
           clear p0 p1 p2 q0 q1 q2 q3
           intro v6 w6 hA6
           obtain ⟨a6, b6, rfl⟩ := own_sl hA6.own
           rw [Nat.zero_add] at hA6 ⊢
           have hC6' := hC4.out.whole hA6
           have hC6 := hid (hC6'.put 2 (.slice a6 mf b6) (.slice (some ⟨g2, 0, none⟩) (mg + 1) c2) (.slice (some ⟨g4, 0, none⟩) (k + 1) c4) (.slice a6 mf b6) rfl)
           have hG6 := hid (SlG.move (Z' := fun b => w.heap.size + 3 ≤ b ∧ b < w2.heap.size) (SlG.move hG4.out (row := none) hA6.grown (fun _ _ => by simp) (fun b hb => hb)) (grown_put (grown_refl _ _) (pb := w.heap.size + 1 + 1) (off := 2) (.slice a6 mf b6)) (fun b hb => by simp; omega) (fun b hb => hb))
           have hH6 := hid (SlH.move (Z' := fun b => w.heap.size + 3 ≤ b ∧ b < w4.heap.size) (SlH.move hH4.out (row := none) hA6.grown (fun _ _ => by simp) (fun b hb => hb)) (grown_put (grown_refl _ _) (pb := w.heap.size + 1 + 1) (off := 2) (.slice a6 mf b6)) (fun b hb => by simp; omega) (fun b hb => hb))
           have hB6 := hid (FB.other (FB.start hA6 hF12.out.1 hF12.out.2 hMF.out) (grown_put (grown_refl _ _) (pb := w.heap.size + 1 + 1) (off := 2) (.slice a6 mf b6)) (by omega))
           have hS6 : Hid (w4.heap.size ≤ (w6.setCell ⟨w.heap.size + 1 + 1, 2, none⟩ (.slice a6 mf b6)).heap.size) := hid (by have := hA6.grown.size; rw [size_set] at this ⊢; exact this)
           have hP6 : Hid (∀ q, (Value.slice a6 mf b6).ownBlock = some q → w4.heap.size ≤ q) := hid (fun q hq => by have := new_own hA6 q hq; rwa [size_set] at this)
           obtain ⟨⟨p0, p1, p2⟩, ⟨q0, q1, q2⟩, q3⟩ := hC6'.cells
           clear hA6 hC6'))
      clear p0 p1 p2 q0 q1 q2 q3 hC4 hG4 hH4
      have hF6 := hid (FSt.mk hC6.out hG6.out hH6.out hB6.out hS6.out)
      clear hC6 hG6 hH6 hB6 hS6 hB hO hCS hG hC hSZ
      go_loopw [5] (fun i wr => ∃ j, j ≤ mf ∧ i = .int .i64 j ∧ FSt w wr #[.slice ga mg gc, .slice ha k hc, .slice fa mf fc] (.slice (some ⟨g2, 0, none⟩) (mg + 1) c2) (.slice (some ⟨g4, 0, none⟩) (k + 1) c4) (.slice a6 mf b6) u (.slice (some ⟨g2, 0, none⟩) mg c2) (.slice (some ⟨g4, 0, none⟩) k c4) w2.heap.size w4.heap.size j j) (fun i _ => mf - (intOf i).toNat)
      case atStart => exact ⟨0, Nat.zero_le _, rfl, hF6.out⟩
      case round =>
        clear hF6
        obtain ⟨j, hj, rfl, hFS⟩ := hrel
        obtain ⟨⟨p0, p1, p2⟩, ⟨q0, q1, q2⟩, q3⟩ := hFS.c.cells
        have hFs := hid hFS
        clear hFS
        by_cases hlt : j < mf
        · obtain ⟨kb, ko, hF, hka⟩ : ∃ kb ko, (∀ i (h : i < u.fs.length), FunR w true none u.fs[i] kb (ko + i * 6)) ∧ fa = some ⟨kb, ko, none⟩ := by
            obtain ⟨ka, kb, ko, kc, he, hz, hi⟩ := HF0.out
            cases he
            exact ⟨kb, ko, hi, by rcases hz with q | q; (· have := hMF.out; omega); (· exact q.1)⟩
          obtain ⟨cs, -, -, ho⟩ := hFs.out.b
          obtain ⟨g7, c7, he, hg71, hg72, hg73, hg74⟩ := own_shape ho (by have := hMF.out; omega)
          obtain ⟨-, y1, ⟨pv, y2, hpv⟩, -, -, ⟨sv, y5, hsv⟩⟩ := hF j (by have := hMF.out; omega)
          have hbl := World.block_lt_of_cell? w _ y1
          simp only [] at hbl
          have x2 := cell_on y2 hFs.out.c.below
          have hx5 := hid y5
          obtain ⟨pa, pc, rfl⟩ := hpv.shape
          obtain ⟨sa, sn, sc, rfl⟩ := hsv.shape
          have hpl := OK.out.fp _ (List.getElem_mem (l := u.fs) (n := j) (by have := hMF.out; omega))
          have hbl2 := OK.out.fb _ (List.getElem_mem (l := u.fs) (n := j) (by have := hMF.out; omega))
          have hPV := hid (And.intro hpl hpv)
          have hSV := hid (And.intro hbl2 hsv)
          obtain ⟨pl, hpe⟩ : ∃ pl, pl = (u.fs[j]'(by have := hMF.out; omega)).params := ⟨_, rfl⟩
          obtain ⟨bd, hbd⟩ : ∃ bd, bd = (u.fs[j]'(by have := hMF.out; omega)).body := ⟨_, rfl⟩
          rw [← hpe] at hPV x2 y2 hpv hpl
          rw [← hbd] at hSV
          obtain ⟨pn, hpn⟩ : ∃ pn, pn = pl.length := ⟨_, rfl⟩
          rw [← hpn] at x2 hPV
          have hPE := hid (And.intro hpe hpn)
          have hBD := hid hbd
          subst hka
          obtain ⟨rfl, rfl⟩ : a6 = some ⟨g7, 0, none⟩ ∧ b6 = c7 := by cases he; exact ⟨rfl, rfl⟩
          have hsz := hid hFs.out.c.size
          have hg74' : g7 < wr.heap.size := hg72
          clear hF ho he y1 y2 y5 hpv hsv hpl hbl2 hpe hpn hbd
          have hBD0 : Hid (Below w.heap.size w wr.drew) := hid (hFs.out.c.below.trans ((Below.refl wr.heap.size wr).drew.mono hFs.out.c.below.size))
          have hCall := hid (copy36 pl (.slice pa pn pc) wr.drew (by rw [← hPE.out.2]; exact hPV.out.1) (hPV.out.2.mono hBD0.out (fun _ _ _ h => h.mono hBD0.out)))
          have hB7 := hid (fun w7 (hg7 : wr.grownBy w7 none) => And.intro (hFs.out.call hg7).c.cells ((hFs.out.call hg7).row hMF.out j (by have := hMF.out; omega) 2 (by omega)))
          have hPost : Hid (∀ w7 x, SlPz w7 (some fun b => wr.heap.size ≤ b ∧ b < w7.heap.size) pl x → wr.grownBy w7 none → FSt w (w7.setCell ⟨g7, j * 6 + 2, none⟩ x) #[.slice ga mg gc, .slice ha k hc, .slice (some ⟨kb, ko, none⟩) mf fc] (.slice (some ⟨g2, 0, none⟩) (mg + 1) c2) (.slice (some ⟨g4, 0, none⟩) (k + 1) c4) (.slice (some ⟨g7, 0, none⟩) mf b6) u (.slice (some ⟨g2, 0, none⟩) mg c2) (.slice (some ⟨g4, 0, none⟩) k c4) w2.heap.size w4.heap.size (j + 1) j) := hid (fun w7 x hx hg => (hFs.out.call hg).put2 hg71 (hP6.out g7 rfl) hS4.out hMF.out (by have := hMF.out; omega) (by rw [← hPE.out.1]; exact hx) (by have := hsz.out; omega) hg72)
          go_wp2_with fail
          go_region_law (go_simp; go_at_call 11; go_loud (refine hCall.out.mono ?_); rintro e w7 ⟨u7, rfl, hu7, hg7⟩; have hg7' := hid (grown_trans (grownBy_drew wr none) hg7); obtain ⟨ua, uc, rfl⟩ := hu7.shape; have hP7 := hid (hPost.out w7 _ hu7 hg7'.out); obtain ⟨⟨⟨p0', p1', p2'⟩, ⟨q0', q1', q2'⟩, q3'⟩, ⟨z, hz⟩, hfz⟩ := hB7.out w7 hg7'.out; clear hu7 hg7 hCall hB7 hPost)
          clear hFs hPV hPE p0 p1 p2 q0 q1 q2 q3
          all_goals
            obtain ⟨w8, hw8⟩ : ∃ w8, w8 = w7.setCell ⟨g7, j * 6 + 2, none⟩ (.slice ua pl.length uc) := ⟨_, rfl⟩
            rw [← hw8] at hP7 ⊢
            have hg78 : g7 < w8.heap.size := by rw [hw8, size_set]; exact Nat.lt_of_lt_of_le hg72 hg7'.out.size
            clear hw8 p0' p1' p2' q0' q1' q2' q3' hz hfz hg7'
            obtain ⟨⟨p0, p1, p2⟩, ⟨q0, q1, q2⟩, q3⟩ := hP7.out.c.cells
            have x5 := cell_on hx5.out hP7.out.c.below
            have hsz8 := hid hP7.out.c.size
            have hBD8 : Hid (Below w.heap.size w w8.drew) := hid (hP7.out.c.below.trans ((Below.refl w8.heap.size w8).drew.mono hP7.out.c.below.size))
            have hCall := hid (copy37 _ bd (.slice sa sn sc) w8.drew (Nat.lt_succ_self _) hSV.out.1 (hSV.out.2.mono hBD8.out))
            have hB9 := hid (fun w9 (hg9 : w8.grownBy w9 none) => And.intro (hP7.out.call hg9).c.cells ((hP7.out.call hg9).row hMF.out j (by have := hMF.out; omega) 5 (by omega)))
            have hPost : Hid (∀ w9 x, SlS w9 true (some fun b => w8.heap.size ≤ b ∧ b < w9.heap.size) bd x → w8.grownBy w9 none → FSt w (w9.setCell ⟨g7, j * 6 + 5, none⟩ x) #[.slice ga mg gc, .slice ha k hc, .slice (some ⟨kb, ko, none⟩) mf fc] (.slice (some ⟨g2, 0, none⟩) (mg + 1) c2) (.slice (some ⟨g4, 0, none⟩) (k + 1) c4) (.slice (some ⟨g7, 0, none⟩) mf b6) u (.slice (some ⟨g2, 0, none⟩) mg c2) (.slice (some ⟨g4, 0, none⟩) k c4) w2.heap.size w4.heap.size (j + 1) (j + 1)) := hid (fun w9 x hx hg => (hP7.out.call hg).put5 hg71 (hP6.out g7 rfl) hS4.out hMF.out (by have := hMF.out; omega) (by rw [← hBD.out]; exact hx) (by have := hsz8.out; omega) hg78)
            clear hP7
            go_wp2_with fail
            go_region_law (go_simp; go_at_call 12; go_loud (refine hCall.out.mono ?_); rintro e w9 ⟨u9, rfl, hu9, hg9⟩; have hg9' := hid (grown_trans (grownBy_drew w8 none) hg9); obtain ⟨va, vn, vc, rfl⟩ := hu9.shape; have hP9 := hid (hPost.out w9 _ hu9 hg9'.out); obtain ⟨⟨⟨p0', p1', p2'⟩, ⟨q0', q1', q2'⟩, q3'⟩, ⟨z, hz⟩, hfz⟩ := hB9.out w9 hg9'.out; clear hu9 hg9 hCall hB9 hPost)
            all_goals
              go_wp2_with fail
              go_roundw
              case rel => exact ⟨j + 1, by omega, by go_num, hP9.out⟩
              case measure => simp [intOf]; omega
        · obtain rfl : j = mf := by omega
          obtain ⟨cs, e1, e2, e3⟩ := hFs.out.b
          have hO : Hid (wr.ownsRow (w.heap.size + 3) 39 6 (.slice a6 j b6) j cs.flatten) := hid (by rw [← hMF.out] at e3; exact e3)
          have hCS := hid (And.intro e1 e2)
          clear e1 e2 e3
          go_wp2_with (first
            | (at_builtin
               refine wpList_append_str rfl _ _ 24 rfl (w.heap.size + 3) 39 39 (.agg #[.int .i64 0, .string ⟨#[]⟩, .slice none 0 0, .int .u8 0, .bool false, .slice none 0 0]) 6 80 1 Tryz.underlying24 (by kernel_rfl) rfl (by decide) _ j _ [.int .i64 (-7), .string ⟨#[]⟩, .slice none 0 0, .int .u8 0, .bool false, .slice none 0 0] (0, 0) hO.out rfl (by simp [Value.oneCell']) (by unfold maxLen; omega) (by omega) hFs.out.c.size rfl rfl ?_
               clear p0 p1 p2 q0 q1 q2 q3
               intro v4 w5 hA4
               obtain ⟨g5, c5, rfl, hg51, hg52, hg53, hg54⟩ := own_shape hA4.own (by omega)
               have hC4' := hFs.out.c.mark hA4 hO.out
               have hC4 := hid (hC4'.put 2 (.slice (some ⟨g5, 0, none⟩) (j + 1) c5) (.slice (some ⟨g2, 0, none⟩) (mg + 1) c2) (.slice (some ⟨g4, 0, none⟩) (k + 1) c4) (.slice (some ⟨g5, 0, none⟩) (j + 1) c5) rfl)
               have hG4 := hid (SlG.move (Z' := fun b => w.heap.size + 3 ≤ b ∧ b < w2.heap.size) (SlG.move (Z' := fun b => w.heap.size + 3 ≤ b ∧ b < w2.heap.size) hFs.out.g hA4.grown (fun b hb e => by have := hP6.out b e.symm; have := hS4.out; omega) (fun b hb => hb)) (grown_put (grown_refl _ _) (pb := w.heap.size + 1 + 1) (off := 2) (.slice (some ⟨g5, 0, none⟩) (j + 1) c5)) (fun b hb => by simp; omega) (fun b hb => hb))
               have hH4 := hid (SlH.move (Z' := fun b => w.heap.size + 3 ≤ b ∧ b < w4.heap.size) (SlH.move (Z' := fun b => w.heap.size + 3 ≤ b ∧ b < w4.heap.size) hFs.out.h hA4.grown (fun b hb e => by have := hP6.out b e.symm; omega) (fun b hb => hb)) (grown_put (grown_refl _ _) (pb := w.heap.size + 1 + 1) (off := 2) (.slice (some ⟨g5, 0, none⟩) (j + 1) c5)) (fun b hb => by simp; omega) (fun b hb => hb))
               have hF4 := hid (SlF.move (Z' := fun b => w.heap.size + 3 ≤ b ∧ b < w5.heap.size) (FB.done hA4 hCS.out.1 hCS.out.2 (fun q hq => (hO.out.lt q hq).2) hFs.out.c.size hg51 hMF.out) (grown_put (grown_refl _ _) (pb := w.heap.size + 1 + 1) (off := 2) (.slice (some ⟨g5, 0, none⟩) (j + 1) c5)) (fun b hb => by simp; omega) (fun b hb => hb))
               have hS5 : Hid (w4.heap.size ≤ w5.heap.size) := hid (Nat.le_trans hFs.out.s hA4.grown.size)
               obtain ⟨⟨p0, p1, p2⟩, ⟨q0, q1, q2⟩, q3⟩ := hC4'.cells
               clear hA4 hC4'))
          clear p0 p1 p2 q0 q1 q2 q3
          obtain ⟨w6, hw6⟩ : ∃ w6, w6 = w5.setCell ⟨w.heap.size + 1 + 1, 2, none⟩ (.slice (some ⟨g5, 0, none⟩) (j + 1) c5) := ⟨_, rfl⟩
          rw [← hw6] at hC4 hG4 hH4 hF4 ⊢
          have hsz6 : Hid (w6.heap.size = w5.heap.size) := hid (by rw [hw6, size_set])
          clear hw6 hFs hO hCS
          obtain ⟨⟨p0, p1, p2⟩, ⟨q0, q1, q2⟩, q3⟩ := hC4.out.cells
          have r0 := hC4.out.r.cell 0
          have r1 := hC4.out.r.cell 1
          have r2 := hC4.out.r.cell 2
          have r3 := hC4.out.r.free
          simp at r0 r1 r2
          go_region
          all_goals
            go_wp2_with fail
            refine bodyPost_ret (v := .agg #[.slice (some ⟨g2, 0, none⟩) mg c2, .slice (some ⟨g4, 0, none⟩) k c4, .slice (some ⟨g5, 0, none⟩) j c5]) (by simp [results, Tryz.results5, go_sem, r0, r1, r2]) rfl ⟨_, rfl, ⟨_, _, _, rfl, ?_, ?_, ?_⟩, grown_of_below ?_⟩
            · exact SlG.move hG4.out (row := some (w.heap.size + 1)) (grown_put (grown_put (grown_put (grownBy_drew w6 _) _) _) _) (fun b hb => by simp; omega) (fun b hb => ⟨by omega, by have := hsz6.out; have := hS4.out; have := hS5.out; simp; omega⟩)
            · exact SlH.move hH4.out (row := some (w.heap.size + 1)) (grown_put (grown_put (grown_put (grownBy_drew w6 _) _) _) _) (fun b hb => by simp; omega) (fun b hb => ⟨by omega, by have := hsz6.out; have := hS4.out; have := hS5.out; simp; omega⟩)
            · exact SlF.move hF4.out (row := some (w.heap.size + 1)) (grown_put (grown_put (grown_put (grownBy_drew w6 _) _) _) _) (fun b hb => by simp; omega) (fun b hb => ⟨by omega, by have := hsz6.out; have := hS4.out; have := hS5.out; simp; omega⟩)
            · exact ((hC4.out.drew.below.setCell (by simp) _).setCell (by simp) _).setCell (by simp) _

end Go.Proofs.YtecpkadjnecbiaaGreatDoor
