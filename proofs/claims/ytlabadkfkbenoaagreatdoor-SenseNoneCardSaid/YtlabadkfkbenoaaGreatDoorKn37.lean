/- Walks and plain laws, merged: IntS. No condition. -/
import Derived.Test.YtlabadkfkbenoaaGreatDoorKn01
import Derived.Test.YtlabadkfkbenoaaGreatDoorKn36
namespace Go.Proofs.YtlabadkfkbenoaaGreatDoor
open Go.RowKit
set_option linter.unusedVariables false
set_option linter.unusedSimpArgs false
set_option maxRecDepth 100000
section
open Go.Shelf
theorem under132 : Tryz.prog.underlying 132 = some (.int .u8) := by kernel_rfl
set_option maxHeartbeats 32000000 in
theorem expr79 (p : Pt) (cf : Cf) (u : UT) (n : Nat) (shp : List Nat) (k : Nat) (hOk : cf.Ok) (hRg : cf.Rg) (ha : cf.alu = aluV) (hal : cf.allowed ≤ 65536) (HE : Hid (WEx p cf u n shp k)) (HF : Hid (WFn p cf u n shp k)) : WEx p cf u n shp (k + 1) := by
 intro d m ve F fb g cap ms t h kids v ty w hx hw hkw hv hX hnl
 refine Calls.mono ?_ fun e w' hp => PostM.lift hX ((evl_keeps cf shp (k + 1)).E d (bareF fb) h kids m hX.inv) ((evl_rg hRg (k + 1)).E d (bareF fb) h kids m hw hkw hX.frg hX.rg) hp
 obtain ⟨ka, kc, rfl⟩ := hv.shape'
 obtain ⟨R, hR⟩ : ∃ x, x = PostM p cf.allowed n d w.heap.size ve (fun x => Ending.returned (.int .u32 x)) ((evl cf (k + 1)).E d (bareF fb) h kids m) w := ⟨_, rfl⟩
 rw [← hR]
 have HR := hid hR
 clear hR
 have hh9 := hid (show (evl cf (k + 1)).E d (bareF fb) h kids m = (tick cf m).bind fun _ m => exprB cf (evl cf k) d (bareF fb) h kids m from rfl)
 obtain ⟨a0, a1, a2, a3, a4, a5⟩ := h
 have hn := (okH_n hx.ok).1
 simp only [] at hn hw ⊢
 have hB0 := (Below.refl w.heap.size w).alloc (Nat.le_refl _) (.cells #[.int .i64 t, .int .u8 a1, .int .u32 a2, .int .u8 a3, .string a4, .string a5, .slice ka kids.len kc] 134)
 have hX0 := hX.below hB0
 have hb0 := Bx.new w #[.int .i64 t, .int .u8 a1, .int .u32 a2, .int .u8 a3, .string a4, .string a5, .slice ka kids.len kc] 134
 have cs := hid (step116 p cf n d m ve _ hal hX.inv.steps hX0.c.me)
 have V0 := hid (KV.of p ve hB0)
 have HHN := hid hnl
 by_cases hc : cf.allowed ≤ m.steps
 ·have ht : tick cf m = .stop 3 0 m := by unfold tick; rw [if_pos hc]
  rw [ht] at cs
  have hh := hid (show (evl cf (k + 1)).E d (bareF fb) ⟨a0, a1, a2, a3, a4, a5⟩ kids m = .stop 3 0 m by rw [hh9.out, ht]; rfl)
  clear hx hkw hv hnl ha hOk hRg hal hX hX0 hB0 hw hh9 hn hb0 hc ht HE HF
  go_enter Tryz.func79, Tryz.ntmps79
  go_wp2_with fail
  refine cs.out.mono ?_
  rintro e w1 ⟨rfl, ve1, d1, hM1, hK1, hV1⟩
  have F1 : Hid (PostM p cf.allowed n d w.heap.size ve (fun x => .returned (.int .u32 x)) (.stop 3 0 m) w (endE 3 0) w1) := hid (fin_stop hM1 (V0.out.trans ⟨hK1, hV1⟩) rfl)
  clear hM1 hK1 hV1 cs
  go_wp2_with fail
  refine bp_panic ?_
  rw [HR.out, hh.out]
  exact F1.out
 have ht : tick cf m = .ok () { m with steps := m.steps + 1 } := by unfold tick; rw [if_neg hc]
 have hh := hid (show (evl cf (k + 1)).E d (bareF fb) ⟨a0, a1, a2, a3, a4, a5⟩ kids m = exprB cf (evl cf k) d (bareF fb) ⟨a0, a1, a2, a3, a4, a5⟩ kids { m with steps := m.steps + 1 } by rw [hh9.out, ht]; rfl)
 have hi1 : Inv cf shp { m with steps := m.steps + 1 } := by have := tick_ok (cf := cf) m hX.inv; rw [ht] at this; exact this
 have hr1 : MS.Rg { m with steps := m.steps + 1 } := hX.rg
 have CS := hid (fun (e : Ending) (w1 : World) (hp : PostM p cf.allowed n d _ ve (fun _ => .returned (.tuple #[])) (tick cf m) _ e w1) => PostM.lift (P := fun _ => True) hX0 (by rw [ht]; exact hi1) (by rw [ht]; exact ⟨trivial, hr1⟩) hp)
 have hnl1 : exprB cf (evl cf k) d (bareF fb) ⟨a0, a1, a2, a3, a4, a5⟩ kids { m with steps := m.steps + 1 } ≠ .lost := by rw [← hh.out]; exact hnl
 generalize ({ m with steps := m.steps + 1 } : MS) = m1 at ht hh hnl1 hi1 hr1
 have HB0 := hid hb0
 have HX0 := hid hX0
 clear hi1 hr1 hb0
 go_enter Tryz.func79, Tryz.ntmps79
 go_wp2_with fail
 refine cs.out.mono ?_
 intro e w1 hp
 have h1 := CS.out e w1 hp
 rw [ht] at h1
 obtain ⟨rfl, -, ve1, hX1, hV1⟩ := h1
 have hbx := hV1.k.box HB0.out HB0.out.lt (HX0.out.c.me.notBox HB0.out (by decide) (by decide) (by decide))
 have e0 : w1.cell? ⟨w.heap.size, 0, none⟩ = some (.int .i64 t) := by simpa using hbx.cell 0
 have e1 : w1.cell? ⟨w.heap.size, 1, none⟩ = some (.int .u8 a1) := by simpa using hbx.cell 1
 have e2 : w1.cell? ⟨w.heap.size, 2, none⟩ = some (.int .u32 a2) := by simpa using hbx.cell 2
 have e3 : w1.cell? ⟨w.heap.size, 3, none⟩ = some (.int .u8 a3) := by simpa using hbx.cell 3
 have e4 : w1.cell? ⟨w.heap.size, 4, none⟩ = some (.string a4) := by simpa using hbx.cell 4
 have e5 : w1.cell? ⟨w.heap.size, 5, none⟩ = some (.string a5) := by simpa using hbx.cell 5
 have e6 : w1.cell? ⟨w.heap.size, 6, none⟩ = some (.slice ka kids.len kc) := by simpa using hbx.cell 6
 have b10 := hX1.c.b10
 have NE := hid (hX1.c.me.notBox hbx (by decide) (by decide) (by decide))
 have V1 := hid (V0.out.trans hV1)
 have hv1 := (hv.sub (cells_old_below hB0)).sub (hX0.c.cells (hV1.k.trans (Kpt.of ((Below.refl w1.heap.size w1).drew.mono hV1.size))))
 clear hp cs CS ht hc hbx hV1 HB0 HX0 hX0 V0
 rcases hn with hn | hn | hn | hn | hn | hn | hn | hn <;> subst hn
 ·have hkv := hid (show ∀ w9, Kpt (p.TE ve1) w1.heap.size w1 w9 → (Instr.lookup 117 (.map (some p.kb)) (.int .u8 1) false).run Tryz.prog w9 = .ok (.func (.func 74) #[] #[]) w9 from fun w9 hk => by
  obtain ⟨es, c9, q1, q2⟩ := hX1.c.st.kinds
  exact (MpI.at ⟨es, c9, q1, q2⟩ (hk.block _ hX1.c.st.kinds.lt (hX1.c.me.notMap q1))).lookup Tryz.underlying117 under132 1 _ rfl)
  have cx := hid (lit74 F t 1 a2 a3 a4 a5 ka kids.len kc w1.drew)
  have X1 := hid hX1
  have W0 := hid (KV.of p ve1 (Below.refl w1.heap.size w1).drew)
  have FIN := hid (show ∀ e w2, PostM p cf.allowed n d w1.drew.heap.size ve1 (fun x => .returned (.int .u32 x)) (exprB cf (evl cf k) d (bareF fb) ⟨t, 1, a2, a3, a4, a5⟩ kids m1) w1.drew e w2 → R e w2 from fun e w2 h => by
   rw [HR.out, hh.out]
   exact h.chain (V1.out.trans W0.out).k (V1.out.trans W0.out).v (V1.out.trans W0.out).size)
  clear hX1 hx hkw hv hv1 hnl ha hOk hRg hal hX hB0 hw hh9
  go_wp2_with fail
  refine wp_region_held_drew (S := (fun w9 => Kpt (p.TE ve1) w1.heap.size w1 w9 ∧ w9.cell? ⟨p.M, 10, none⟩ = some (.map (some p.kb)))) (by kernel_rfl) ⟨W0.out.k, cell_on b10 (Below.refl _ _).drew⟩ (fun hHeld => ?_)
  refine tk 0 ?_ (hy := ?_) (h := ?_)
  rotate_left
  ·intro w' hSw; go_simp; (try with_reducible rfl)
  try simp only [tpa, tpb, tpc, tpd, tpe]
  refine tk 1 ?_ (hy := ?_) (h := ?_)
  rotate_left
  ·intro w' hSw; go_simp; (try with_reducible rfl)
  try simp only [tpa, tpb, tpc, tpd, tpe]
  refine tk 2 ?_ (hy := ?_) (h := ?_)
  rotate_left
  ·intro w' hSw; go_simp; (try with_reducible rfl)
  try simp only [tpa, tpb, tpc, tpd, tpe]
  refine tk 3 ?_ (hy := ?_) (h := ?_)
  rotate_left
  ·intro w' hSw; have q1 := hSw.2; go_simp; (try with_reducible rfl)
  try simp only [tpa, tpb, tpc, tpd, tpe]
  refine tk 4 ?_ (hy := ?_) (h := ?_)
  rotate_left
  ·intro w' hSw; go_simp; (try with_reducible rfl)
  try simp only [tpa, tpb, tpc, tpd, tpe]
  refine tk 5 ?_ (hy := ?_) (h := ?_)
  rotate_left
  ·intro w' hSw; have q1 := hSw.1.at e1 NE.out; go_simp; (try with_reducible rfl)
  try simp only [tpa, tpb, tpc, tpd, tpe]
  refine tk 6 ?_ (hy := ?_) (h := ?_)
  rotate_left
  ·intro w' hSw; have q1 := hkv.out _ hSw.1; go_simp; (try with_reducible rfl)
  try simp only [tpa, tpb, tpc, tpd, tpe]
  refine tk 7 ?_ (hy := ?_) (h := ?_)
  rotate_left
  ·intro w' hSw; go_simp; (try with_reducible rfl)
  try simp only [tpa, tpb, tpc, tpd, tpe]
  refine tk 8 ?_ (hy := ?_) (h := ?_)
  rotate_left
  ·intro w' hSw; have q0 := hSw.1.at e0 NE.out; have q1 := hSw.1.at e1 NE.out; have q2 := hSw.1.at e2 NE.out; have q3 := hSw.1.at e3 NE.out; have q4 := hSw.1.at e4 NE.out; have q5 := hSw.1.at e5 NE.out; have q6 := hSw.1.at e6 NE.out; go_simp; (try with_reducible rfl)
  try simp only [tpa, tpb, tpc, tpd, tpe]
  refine tr 9 (h := fun K hK => ?_)
  go_simp
  refine cx.out.mono ?_
  rintro e w2 ⟨rfl, hb2⟩
  have FF := hid (FIN.out _ _ (show PostM p cf.allowed n d w1.drew.heap.size ve1 (fun x => .returned (.int .u32 x)) (exprB cf (evl cf k) d (bareF fb) ⟨t, 1, a2, a3, a4, a5⟩ kids m1) w1.drew (.returned (.int .u32 a2)) w2 by rw [exprB_1]; exact fin_ok (X1.out.below ((Below.refl _ _).drew.trans (hb2.mono (Below.refl w1.heap.size w1).drew.size))) (KV.of p ve1 hb2) rfl))
  have hk := hid (show (fun w9 => Kpt (p.TE ve1) w1.heap.size w1 w9 ∧ w9.cell? ⟨p.M, 10, none⟩ = some (.map (some p.kb))) w2 from ⟨W0.out.k.trans (Kpt.of (hb2.mono W0.out.size)), cell_on hHeld.2 hb2⟩)
  clear hb2 cx FIN hHeld
  go_wp2_with fail
  refine hK.out _ _ hk.out (fun hHeld => ?_)
  clear hK K
  try simp only [tpa, tpb, tpc, tpd, tpe]
  refine tk 10 ?_ (hy := ?_) (h := ?_)
  rotate_left
  ·intro w' hSw; go_simp; (try with_reducible rfl)
  try simp only [tpa, tpb, tpc, tpd, tpe]
  refine wpAnyH_done (by kernel_rfl) ?_ _
  go_wp2_with fail
  exact FF.out
 ·have hkv := hid (show ∀ w9, Kpt (p.TE ve1) w1.heap.size w1 w9 → (Instr.lookup 117 (.map (some p.kb)) (.int .u8 2) false).run Tryz.prog w9 = .ok (.func (.func 74) #[] #[]) w9 from fun w9 hk => by
  obtain ⟨es, c9, q1, q2⟩ := hX1.c.st.kinds
  exact (MpI.at ⟨es, c9, q1, q2⟩ (hk.block _ hX1.c.st.kinds.lt (hX1.c.me.notMap q1))).lookup Tryz.underlying117 under132 2 _ rfl)
  have cx := hid (lit74 F t 2 a2 a3 a4 a5 ka kids.len kc w1.drew)
  have X1 := hid hX1
  have W0 := hid (KV.of p ve1 (Below.refl w1.heap.size w1).drew)
  have FIN := hid (show ∀ e w2, PostM p cf.allowed n d w1.drew.heap.size ve1 (fun x => .returned (.int .u32 x)) (exprB cf (evl cf k) d (bareF fb) ⟨t, 2, a2, a3, a4, a5⟩ kids m1) w1.drew e w2 → R e w2 from fun e w2 h => by
   rw [HR.out, hh.out]
   exact h.chain (V1.out.trans W0.out).k (V1.out.trans W0.out).v (V1.out.trans W0.out).size)
  clear hX1 hx hkw hv hv1 hnl ha hOk hRg hal hX hB0 hw hh9
  go_wp2_with fail
  refine wp_region_held_drew (S := (fun w9 => Kpt (p.TE ve1) w1.heap.size w1 w9 ∧ w9.cell? ⟨p.M, 10, none⟩ = some (.map (some p.kb)))) (by kernel_rfl) ⟨W0.out.k, cell_on b10 (Below.refl _ _).drew⟩ (fun hHeld => ?_)
  refine tk 0 ?_ (hy := ?_) (h := ?_)
  rotate_left
  ·intro w' hSw; go_simp; (try with_reducible rfl)
  try simp only [tpa, tpb, tpc, tpd, tpe]
  refine tk 1 ?_ (hy := ?_) (h := ?_)
  rotate_left
  ·intro w' hSw; go_simp; (try with_reducible rfl)
  try simp only [tpa, tpb, tpc, tpd, tpe]
  refine tk 2 ?_ (hy := ?_) (h := ?_)
  rotate_left
  ·intro w' hSw; go_simp; (try with_reducible rfl)
  try simp only [tpa, tpb, tpc, tpd, tpe]
  refine tk 3 ?_ (hy := ?_) (h := ?_)
  rotate_left
  ·intro w' hSw; have q1 := hSw.2; go_simp; (try with_reducible rfl)
  try simp only [tpa, tpb, tpc, tpd, tpe]
  refine tk 4 ?_ (hy := ?_) (h := ?_)
  rotate_left
  ·intro w' hSw; go_simp; (try with_reducible rfl)
  try simp only [tpa, tpb, tpc, tpd, tpe]
  refine tk 5 ?_ (hy := ?_) (h := ?_)
  rotate_left
  ·intro w' hSw; have q1 := hSw.1.at e1 NE.out; go_simp; (try with_reducible rfl)
  try simp only [tpa, tpb, tpc, tpd, tpe]
  refine tk 6 ?_ (hy := ?_) (h := ?_)
  rotate_left
  ·intro w' hSw; have q1 := hkv.out _ hSw.1; go_simp; (try with_reducible rfl)
  try simp only [tpa, tpb, tpc, tpd, tpe]
  refine tk 7 ?_ (hy := ?_) (h := ?_)
  rotate_left
  ·intro w' hSw; go_simp; (try with_reducible rfl)
  try simp only [tpa, tpb, tpc, tpd, tpe]
  refine tk 8 ?_ (hy := ?_) (h := ?_)
  rotate_left
  ·intro w' hSw; have q0 := hSw.1.at e0 NE.out; have q1 := hSw.1.at e1 NE.out; have q2 := hSw.1.at e2 NE.out; have q3 := hSw.1.at e3 NE.out; have q4 := hSw.1.at e4 NE.out; have q5 := hSw.1.at e5 NE.out; have q6 := hSw.1.at e6 NE.out; go_simp; (try with_reducible rfl)
  try simp only [tpa, tpb, tpc, tpd, tpe]
  refine tr 9 (h := fun K hK => ?_)
  go_simp
  refine cx.out.mono ?_
  rintro e w2 ⟨rfl, hb2⟩
  have FF := hid (FIN.out _ _ (show PostM p cf.allowed n d w1.drew.heap.size ve1 (fun x => .returned (.int .u32 x)) (exprB cf (evl cf k) d (bareF fb) ⟨t, 2, a2, a3, a4, a5⟩ kids m1) w1.drew (.returned (.int .u32 a2)) w2 by rw [exprB_2]; exact fin_ok (X1.out.below ((Below.refl _ _).drew.trans (hb2.mono (Below.refl w1.heap.size w1).drew.size))) (KV.of p ve1 hb2) rfl))
  have hk := hid (show (fun w9 => Kpt (p.TE ve1) w1.heap.size w1 w9 ∧ w9.cell? ⟨p.M, 10, none⟩ = some (.map (some p.kb))) w2 from ⟨W0.out.k.trans (Kpt.of (hb2.mono W0.out.size)), cell_on hHeld.2 hb2⟩)
  clear hb2 cx FIN hHeld
  go_wp2_with fail
  refine hK.out _ _ hk.out (fun hHeld => ?_)
  clear hK K
  try simp only [tpa, tpb, tpc, tpd, tpe]
  refine tk 10 ?_ (hy := ?_) (h := ?_)
  rotate_left
  ·intro w' hSw; go_simp; (try with_reducible rfl)
  try simp only [tpa, tpb, tpc, tpd, tpe]
  refine wpAnyH_done (by kernel_rfl) ?_ _
  go_wp2_with fail
  exact FF.out
 ·have hkv := hid (show ∀ w9, Kpt (p.TE ve1) w1.heap.size w1 w9 → (Instr.lookup 117 (.map (some p.kb)) (.int .u8 3) false).run Tryz.prog w9 = .ok (.func (.func 75) #[] #[.pointer (some ⟨p.kc, 0, none⟩)]) w9 from fun w9 hk => by
  obtain ⟨es, c9, q1, q2⟩ := hX1.c.st.kinds
  exact (MpI.at ⟨es, c9, q1, q2⟩ (hk.block _ hX1.c.st.kinds.lt (hX1.c.me.notMap q1))).lookup Tryz.underlying117 under132 3 _ rfl)
  have cx := hid (name75 p cf u n shp k d m1 ve1 F fb g cap ms t a2 a3 a4 a5 kids (.slice ka kids.len kc) ty w1.drew HE ⟨hx.ok, hx.kids, hx.ty⟩ hkw hv1 (hX1.below (Below.refl _ _).drew) hnl1)
  have X1 := hid hX1
  have W0 := hid (KV.of p ve1 (Below.refl w1.heap.size w1).drew)
  have FIN := hid (show ∀ e w2, PostM p cf.allowed n d w1.drew.heap.size ve1 (fun x => .returned (.int .u32 x)) (exprB cf (evl cf k) d (bareF fb) ⟨t, 3, a2, a3, a4, a5⟩ kids m1) w1.drew e w2 → R e w2 from fun e w2 h => by
   rw [HR.out, hh.out]
   exact h.chain (V1.out.trans W0.out).k (V1.out.trans W0.out).v (V1.out.trans W0.out).size)
  clear hX1 hx hkw hv hv1 hnl ha hOk hRg hal hX hB0 hw hh9
  go_wp2_with fail
  refine wp_region_held_drew (S := (fun w9 => Kpt (p.TE ve1) w1.heap.size w1 w9 ∧ w9.cell? ⟨p.M, 10, none⟩ = some (.map (some p.kb)))) (by kernel_rfl) ⟨W0.out.k, cell_on b10 (Below.refl _ _).drew⟩ (fun hHeld => ?_)
  refine tk 0 ?_ (hy := ?_) (h := ?_)
  rotate_left
  ·intro w' hSw; go_simp; (try with_reducible rfl)
  try simp only [tpa, tpb, tpc, tpd, tpe]
  refine tk 1 ?_ (hy := ?_) (h := ?_)
  rotate_left
  ·intro w' hSw; go_simp; (try with_reducible rfl)
  try simp only [tpa, tpb, tpc, tpd, tpe]
  refine tk 2 ?_ (hy := ?_) (h := ?_)
  rotate_left
  ·intro w' hSw; go_simp; (try with_reducible rfl)
  try simp only [tpa, tpb, tpc, tpd, tpe]
  refine tk 3 ?_ (hy := ?_) (h := ?_)
  rotate_left
  ·intro w' hSw; have q1 := hSw.2; go_simp; (try with_reducible rfl)
  try simp only [tpa, tpb, tpc, tpd, tpe]
  refine tk 4 ?_ (hy := ?_) (h := ?_)
  rotate_left
  ·intro w' hSw; go_simp; (try with_reducible rfl)
  try simp only [tpa, tpb, tpc, tpd, tpe]
  refine tk 5 ?_ (hy := ?_) (h := ?_)
  rotate_left
  ·intro w' hSw; have q1 := hSw.1.at e1 NE.out; go_simp; (try with_reducible rfl)
  try simp only [tpa, tpb, tpc, tpd, tpe]
  refine tk 6 ?_ (hy := ?_) (h := ?_)
  rotate_left
  ·intro w' hSw; have q1 := hkv.out _ hSw.1; go_simp; (try with_reducible rfl)
  try simp only [tpa, tpb, tpc, tpd, tpe]
  refine tk 7 ?_ (hy := ?_) (h := ?_)
  rotate_left
  ·intro w' hSw; go_simp; (try with_reducible rfl)
  try simp only [tpa, tpb, tpc, tpd, tpe]
  refine tk 8 ?_ (hy := ?_) (h := ?_)
  rotate_left
  ·intro w' hSw; have q0 := hSw.1.at e0 NE.out; have q1 := hSw.1.at e1 NE.out; have q2 := hSw.1.at e2 NE.out; have q3 := hSw.1.at e3 NE.out; have q4 := hSw.1.at e4 NE.out; have q5 := hSw.1.at e5 NE.out; have q6 := hSw.1.at e6 NE.out; go_simp; (try with_reducible rfl)
  try simp only [tpa, tpb, tpc, tpd, tpe]
  refine tr 9 (h := fun K hK => ?_)
  go_simp
  refine cx.out.mono ?_
  intro e w2 hp
  have HP := hid hp
  cases ho : exprB cf (evl cf k) d (bareF fb) ⟨t, 3, a2, a3, a4, a5⟩ kids m1 with
  | lost => exact absurd ho hnl1
  | stop a b m2 =>
   rw [ho] at hp
   obtain ⟨rfl, -⟩ := hp
   have FF := hid (FIN.out _ _ HP.out)
   clear cx FIN hHeld hK HP ho hnl1
   go_wp2_with fail
   refine bp_panic ?_
   exact FF.out
  | ok x m2 =>
   rw [ho] at hp
   obtain ⟨rfl, ve2, hM2, hK2, hV2⟩ := hp
   have FF := hid (FIN.out _ _ HP.out)
   obtain ⟨en2, vx2, fa2, hb2⟩ := hM2.box
   have hk := hid (show (fun w9 => Kpt (p.TE ve1) w1.heap.size w1 w9 ∧ w9.cell? ⟨p.M, 10, none⟩ = some (.map (some p.kb))) w2 from ⟨(W0.out.trans ⟨hK2, hV2⟩).k, by simpa using hb2.cell 10⟩)
   clear cx FIN hHeld HP hM2 hK2 hV2 hb2 ho hnl1
   go_wp2_with fail
   refine hK.out _ _ hk.out (fun hHeld => ?_)
   clear hK K
   try simp only [tpa, tpb, tpc, tpd, tpe]
   refine tk 10 ?_ (hy := ?_) (h := ?_)
   rotate_left
   ·intro w' hSw; go_simp; (try with_reducible rfl)
   try simp only [tpa, tpb, tpc, tpd, tpe]
   refine wpAnyH_done (by kernel_rfl) ?_ _
   go_wp2_with fail
   exact FF.out
 ·have hkv := hid (show ∀ w9, Kpt (p.TE ve1) w1.heap.size w1 w9 → (Instr.lookup 117 (.map (some p.kb)) (.int .u8 4) false).run Tryz.prog w9 = .ok (.func (.func 77) #[] #[.pointer (some ⟨p.kc, 0, none⟩)]) w9 from fun w9 hk => by
  obtain ⟨es, c9, q1, q2⟩ := hX1.c.st.kinds
  exact (MpI.at ⟨es, c9, q1, q2⟩ (hk.block _ hX1.c.st.kinds.lt (hX1.c.me.notMap q1))).lookup Tryz.underlying117 under132 4 _ rfl)
  have cx := hid (index77 p cf u n shp k d m1 ve1 F fb g cap ms t a2 a3 a4 a5 kids (.slice ka kids.len kc) ty w1.drew HE ⟨hx.ok, hx.kids, hx.ty⟩ hkw hv1 (hX1.below (Below.refl _ _).drew) hnl1)
  have X1 := hid hX1
  have W0 := hid (KV.of p ve1 (Below.refl w1.heap.size w1).drew)
  have FIN := hid (show ∀ e w2, PostM p cf.allowed n d w1.drew.heap.size ve1 (fun x => .returned (.int .u32 x)) (exprB cf (evl cf k) d (bareF fb) ⟨t, 4, a2, a3, a4, a5⟩ kids m1) w1.drew e w2 → R e w2 from fun e w2 h => by
   rw [HR.out, hh.out]
   exact h.chain (V1.out.trans W0.out).k (V1.out.trans W0.out).v (V1.out.trans W0.out).size)
  clear hX1 hx hkw hv hv1 hnl ha hOk hRg hal hX hB0 hw hh9
  go_wp2_with fail
  refine wp_region_held_drew (S := (fun w9 => Kpt (p.TE ve1) w1.heap.size w1 w9 ∧ w9.cell? ⟨p.M, 10, none⟩ = some (.map (some p.kb)))) (by kernel_rfl) ⟨W0.out.k, cell_on b10 (Below.refl _ _).drew⟩ (fun hHeld => ?_)
  refine tk 0 ?_ (hy := ?_) (h := ?_)
  rotate_left
  ·intro w' hSw; go_simp; (try with_reducible rfl)
  try simp only [tpa, tpb, tpc, tpd, tpe]
  refine tk 1 ?_ (hy := ?_) (h := ?_)
  rotate_left
  ·intro w' hSw; go_simp; (try with_reducible rfl)
  try simp only [tpa, tpb, tpc, tpd, tpe]
  refine tk 2 ?_ (hy := ?_) (h := ?_)
  rotate_left
  ·intro w' hSw; go_simp; (try with_reducible rfl)
  try simp only [tpa, tpb, tpc, tpd, tpe]
  refine tk 3 ?_ (hy := ?_) (h := ?_)
  rotate_left
  ·intro w' hSw; have q1 := hSw.2; go_simp; (try with_reducible rfl)
  try simp only [tpa, tpb, tpc, tpd, tpe]
  refine tk 4 ?_ (hy := ?_) (h := ?_)
  rotate_left
  ·intro w' hSw; go_simp; (try with_reducible rfl)
  try simp only [tpa, tpb, tpc, tpd, tpe]
  refine tk 5 ?_ (hy := ?_) (h := ?_)
  rotate_left
  ·intro w' hSw; have q1 := hSw.1.at e1 NE.out; go_simp; (try with_reducible rfl)
  try simp only [tpa, tpb, tpc, tpd, tpe]
  refine tk 6 ?_ (hy := ?_) (h := ?_)
  rotate_left
  ·intro w' hSw; have q1 := hkv.out _ hSw.1; go_simp; (try with_reducible rfl)
  try simp only [tpa, tpb, tpc, tpd, tpe]
  refine tk 7 ?_ (hy := ?_) (h := ?_)
  rotate_left
  ·intro w' hSw; go_simp; (try with_reducible rfl)
  try simp only [tpa, tpb, tpc, tpd, tpe]
  refine tk 8 ?_ (hy := ?_) (h := ?_)
  rotate_left
  ·intro w' hSw; have q0 := hSw.1.at e0 NE.out; have q1 := hSw.1.at e1 NE.out; have q2 := hSw.1.at e2 NE.out; have q3 := hSw.1.at e3 NE.out; have q4 := hSw.1.at e4 NE.out; have q5 := hSw.1.at e5 NE.out; have q6 := hSw.1.at e6 NE.out; go_simp; (try with_reducible rfl)
  try simp only [tpa, tpb, tpc, tpd, tpe]
  refine tr 9 (h := fun K hK => ?_)
  go_simp
  refine cx.out.mono ?_
  intro e w2 hp
  have HP := hid hp
  cases ho : exprB cf (evl cf k) d (bareF fb) ⟨t, 4, a2, a3, a4, a5⟩ kids m1 with
  | lost => exact absurd ho hnl1
  | stop a b m2 =>
   rw [ho] at hp
   obtain ⟨rfl, -⟩ := hp
   have FF := hid (FIN.out _ _ HP.out)
   clear cx FIN hHeld hK HP ho hnl1
   go_wp2_with fail
   refine bp_panic ?_
   exact FF.out
  | ok x m2 =>
   rw [ho] at hp
   obtain ⟨rfl, ve2, hM2, hK2, hV2⟩ := hp
   have FF := hid (FIN.out _ _ HP.out)
   obtain ⟨en2, vx2, fa2, hb2⟩ := hM2.box
   have hk := hid (show (fun w9 => Kpt (p.TE ve1) w1.heap.size w1 w9 ∧ w9.cell? ⟨p.M, 10, none⟩ = some (.map (some p.kb))) w2 from ⟨(W0.out.trans ⟨hK2, hV2⟩).k, by simpa using hb2.cell 10⟩)
   clear cx FIN hHeld HP hM2 hK2 hV2 hb2 ho hnl1
   go_wp2_with fail
   refine hK.out _ _ hk.out (fun hHeld => ?_)
   clear hK K
   try simp only [tpa, tpb, tpc, tpd, tpe]
   refine tk 10 ?_ (hy := ?_) (h := ?_)
   rotate_left
   ·intro w' hSw; go_simp; (try with_reducible rfl)
   try simp only [tpa, tpb, tpc, tpd, tpe]
   refine wpAnyH_done (by kernel_rfl) ?_ _
   go_wp2_with fail
   exact FF.out
 ·have hkv := hid (show ∀ w9, Kpt (p.TE ve1) w1.heap.size w1 w9 → (Instr.lookup 117 (.map (some p.kb)) (.int .u8 5) false).run Tryz.prog w9 = .ok (.func (.func 80) #[.pointer (some ⟨p.M, 0, none⟩)] #[]) w9 from fun w9 hk => by
  obtain ⟨es, c9, q1, q2⟩ := hX1.c.st.kinds
  exact (MpI.at ⟨es, c9, q1, q2⟩ (hk.block _ hX1.c.st.kinds.lt (hX1.c.me.notMap q1))).lookup Tryz.underlying117 under132 5 _ rfl)
  have cx := hid (call80 p cf u n shp k d m1 ve1 F fb g cap ms t a2 a3 a4 a5 kids (.slice ka kids.len kc) ty w1.drew hOk HF HE ⟨hx.ok, hx.kids, hx.ty⟩ hkw hv1 (hX1.below (Below.refl _ _).drew) hnl1)
  have X1 := hid hX1
  have W0 := hid (KV.of p ve1 (Below.refl w1.heap.size w1).drew)
  have FIN := hid (show ∀ e w2, PostM p cf.allowed n d w1.drew.heap.size ve1 (fun x => .returned (.int .u32 x)) (exprB cf (evl cf k) d (bareF fb) ⟨t, 5, a2, a3, a4, a5⟩ kids m1) w1.drew e w2 → R e w2 from fun e w2 h => by
   rw [HR.out, hh.out]
   exact h.chain (V1.out.trans W0.out).k (V1.out.trans W0.out).v (V1.out.trans W0.out).size)
  clear hX1 hx hkw hv hv1 hnl ha hOk hRg hal hX hB0 hw hh9
  go_wp2_with fail
  refine wp_region_held_drew (S := (fun w9 => Kpt (p.TE ve1) w1.heap.size w1 w9 ∧ w9.cell? ⟨p.M, 10, none⟩ = some (.map (some p.kb)))) (by kernel_rfl) ⟨W0.out.k, cell_on b10 (Below.refl _ _).drew⟩ (fun hHeld => ?_)
  refine tk 0 ?_ (hy := ?_) (h := ?_)
  rotate_left
  ·intro w' hSw; go_simp; (try with_reducible rfl)
  try simp only [tpa, tpb, tpc, tpd, tpe]
  refine tk 1 ?_ (hy := ?_) (h := ?_)
  rotate_left
  ·intro w' hSw; go_simp; (try with_reducible rfl)
  try simp only [tpa, tpb, tpc, tpd, tpe]
  refine tk 2 ?_ (hy := ?_) (h := ?_)
  rotate_left
  ·intro w' hSw; go_simp; (try with_reducible rfl)
  try simp only [tpa, tpb, tpc, tpd, tpe]
  refine tk 3 ?_ (hy := ?_) (h := ?_)
  rotate_left
  ·intro w' hSw; have q1 := hSw.2; go_simp; (try with_reducible rfl)
  try simp only [tpa, tpb, tpc, tpd, tpe]
  refine tk 4 ?_ (hy := ?_) (h := ?_)
  rotate_left
  ·intro w' hSw; go_simp; (try with_reducible rfl)
  try simp only [tpa, tpb, tpc, tpd, tpe]
  refine tk 5 ?_ (hy := ?_) (h := ?_)
  rotate_left
  ·intro w' hSw; have q1 := hSw.1.at e1 NE.out; go_simp; (try with_reducible rfl)
  try simp only [tpa, tpb, tpc, tpd, tpe]
  refine tk 6 ?_ (hy := ?_) (h := ?_)
  rotate_left
  ·intro w' hSw; have q1 := hkv.out _ hSw.1; go_simp; (try with_reducible rfl)
  try simp only [tpa, tpb, tpc, tpd, tpe]
  refine tk 7 ?_ (hy := ?_) (h := ?_)
  rotate_left
  ·intro w' hSw; go_simp; (try with_reducible rfl)
  try simp only [tpa, tpb, tpc, tpd, tpe]
  refine tk 8 ?_ (hy := ?_) (h := ?_)
  rotate_left
  ·intro w' hSw; have q0 := hSw.1.at e0 NE.out; have q1 := hSw.1.at e1 NE.out; have q2 := hSw.1.at e2 NE.out; have q3 := hSw.1.at e3 NE.out; have q4 := hSw.1.at e4 NE.out; have q5 := hSw.1.at e5 NE.out; have q6 := hSw.1.at e6 NE.out; go_simp; (try with_reducible rfl)
  try simp only [tpa, tpb, tpc, tpd, tpe]
  refine tr 9 (h := fun K hK => ?_)
  go_simp
  refine cx.out.mono ?_
  intro e w2 hp
  have HP := hid hp
  cases ho : exprB cf (evl cf k) d (bareF fb) ⟨t, 5, a2, a3, a4, a5⟩ kids m1 with
  | lost => exact absurd ho hnl1
  | stop a b m2 =>
   rw [ho] at hp
   obtain ⟨rfl, -⟩ := hp
   have FF := hid (FIN.out _ _ HP.out)
   clear cx FIN hHeld hK HP ho hnl1
   go_wp2_with fail
   refine bp_panic ?_
   exact FF.out
  | ok x m2 =>
   rw [ho] at hp
   obtain ⟨rfl, ve2, hM2, hK2, hV2⟩ := hp
   have FF := hid (FIN.out _ _ HP.out)
   obtain ⟨en2, vx2, fa2, hb2⟩ := hM2.box
   have hk := hid (show (fun w9 => Kpt (p.TE ve1) w1.heap.size w1 w9 ∧ w9.cell? ⟨p.M, 10, none⟩ = some (.map (some p.kb))) w2 from ⟨(W0.out.trans ⟨hK2, hV2⟩).k, by simpa using hb2.cell 10⟩)
   clear cx FIN hHeld HP hM2 hK2 hV2 hb2 ho hnl1
   go_wp2_with fail
   refine hK.out _ _ hk.out (fun hHeld => ?_)
   clear hK K
   try simp only [tpa, tpb, tpc, tpd, tpe]
   refine tk 10 ?_ (hy := ?_) (h := ?_)
   rotate_left
   ·intro w' hSw; go_simp; (try with_reducible rfl)
   try simp only [tpa, tpb, tpc, tpd, tpe]
   refine wpAnyH_done (by kernel_rfl) ?_ _
   go_wp2_with fail
   exact FF.out
 ·have hkv := hid (show ∀ w9, Kpt (p.TE ve1) w1.heap.size w1 w9 → (Instr.lookup 117 (.map (some p.kb)) (.int .u8 6) false).run Tryz.prog w9 = .ok (.func (.func 81) #[.pointer (some ⟨p.M, 0, none⟩)] #[]) w9 from fun w9 hk => by
  obtain ⟨es, c9, q1, q2⟩ := hX1.c.st.kinds
  exact (MpI.at ⟨es, c9, q1, q2⟩ (hk.block _ hX1.c.st.kinds.lt (hX1.c.me.notMap q1))).lookup Tryz.underlying117 under132 6 _ rfl)
  have cx := hid (unary81 p cf u n shp k d m1 ve1 F fb g cap ms t a2 a3 a4 a5 kids (.slice ka kids.len kc) ty w1.drew ha HE ⟨hx.ok, hx.kids, hx.ty⟩ hkw hv1 (hX1.below (Below.refl _ _).drew) hnl1)
  have X1 := hid hX1
  have W0 := hid (KV.of p ve1 (Below.refl w1.heap.size w1).drew)
  have FIN := hid (show ∀ e w2, PostM p cf.allowed n d w1.drew.heap.size ve1 (fun x => .returned (.int .u32 x)) (exprB cf (evl cf k) d (bareF fb) ⟨t, 6, a2, a3, a4, a5⟩ kids m1) w1.drew e w2 → R e w2 from fun e w2 h => by
   rw [HR.out, hh.out]
   exact h.chain (V1.out.trans W0.out).k (V1.out.trans W0.out).v (V1.out.trans W0.out).size)
  clear hX1 hx hkw hv hv1 hnl ha hOk hRg hal hX hB0 hw hh9
  go_wp2_with fail
  refine wp_region_held_drew (S := (fun w9 => Kpt (p.TE ve1) w1.heap.size w1 w9 ∧ w9.cell? ⟨p.M, 10, none⟩ = some (.map (some p.kb)))) (by kernel_rfl) ⟨W0.out.k, cell_on b10 (Below.refl _ _).drew⟩ (fun hHeld => ?_)
  refine tk 0 ?_ (hy := ?_) (h := ?_)
  rotate_left
  ·intro w' hSw; go_simp; (try with_reducible rfl)
  try simp only [tpa, tpb, tpc, tpd, tpe]
  refine tk 1 ?_ (hy := ?_) (h := ?_)
  rotate_left
  ·intro w' hSw; go_simp; (try with_reducible rfl)
  try simp only [tpa, tpb, tpc, tpd, tpe]
  refine tk 2 ?_ (hy := ?_) (h := ?_)
  rotate_left
  ·intro w' hSw; go_simp; (try with_reducible rfl)
  try simp only [tpa, tpb, tpc, tpd, tpe]
  refine tk 3 ?_ (hy := ?_) (h := ?_)
  rotate_left
  ·intro w' hSw; have q1 := hSw.2; go_simp; (try with_reducible rfl)
  try simp only [tpa, tpb, tpc, tpd, tpe]
  refine tk 4 ?_ (hy := ?_) (h := ?_)
  rotate_left
  ·intro w' hSw; go_simp; (try with_reducible rfl)
  try simp only [tpa, tpb, tpc, tpd, tpe]
  refine tk 5 ?_ (hy := ?_) (h := ?_)
  rotate_left
  ·intro w' hSw; have q1 := hSw.1.at e1 NE.out; go_simp; (try with_reducible rfl)
  try simp only [tpa, tpb, tpc, tpd, tpe]
  refine tk 6 ?_ (hy := ?_) (h := ?_)
  rotate_left
  ·intro w' hSw; have q1 := hkv.out _ hSw.1; go_simp; (try with_reducible rfl)
  try simp only [tpa, tpb, tpc, tpd, tpe]
  refine tk 7 ?_ (hy := ?_) (h := ?_)
  rotate_left
  ·intro w' hSw; go_simp; (try with_reducible rfl)
  try simp only [tpa, tpb, tpc, tpd, tpe]
  refine tk 8 ?_ (hy := ?_) (h := ?_)
  rotate_left
  ·intro w' hSw; have q0 := hSw.1.at e0 NE.out; have q1 := hSw.1.at e1 NE.out; have q2 := hSw.1.at e2 NE.out; have q3 := hSw.1.at e3 NE.out; have q4 := hSw.1.at e4 NE.out; have q5 := hSw.1.at e5 NE.out; have q6 := hSw.1.at e6 NE.out; go_simp; (try with_reducible rfl)
  try simp only [tpa, tpb, tpc, tpd, tpe]
  refine tr 9 (h := fun K hK => ?_)
  go_simp
  refine cx.out.mono ?_
  intro e w2 hp
  have HP := hid hp
  cases ho : exprB cf (evl cf k) d (bareF fb) ⟨t, 6, a2, a3, a4, a5⟩ kids m1 with
  | lost => exact absurd ho hnl1
  | stop a b m2 =>
   rw [ho] at hp
   obtain ⟨rfl, -⟩ := hp
   have FF := hid (FIN.out _ _ HP.out)
   clear cx FIN hHeld hK HP ho hnl1
   go_wp2_with fail
   refine bp_panic ?_
   exact FF.out
  | ok x m2 =>
   rw [ho] at hp
   obtain ⟨rfl, ve2, hM2, hK2, hV2⟩ := hp
   have FF := hid (FIN.out _ _ HP.out)
   obtain ⟨en2, vx2, fa2, hb2⟩ := hM2.box
   have hk := hid (show (fun w9 => Kpt (p.TE ve1) w1.heap.size w1 w9 ∧ w9.cell? ⟨p.M, 10, none⟩ = some (.map (some p.kb))) w2 from ⟨(W0.out.trans ⟨hK2, hV2⟩).k, by simpa using hb2.cell 10⟩)
   clear cx FIN hHeld HP hM2 hK2 hV2 hb2 ho hnl1
   go_wp2_with fail
   refine hK.out _ _ hk.out (fun hHeld => ?_)
   clear hK K
   try simp only [tpa, tpb, tpc, tpd, tpe]
   refine tk 10 ?_ (hy := ?_) (h := ?_)
   rotate_left
   ·intro w' hSw; go_simp; (try with_reducible rfl)
   try simp only [tpa, tpb, tpc, tpd, tpe]
   refine wpAnyH_done (by kernel_rfl) ?_ _
   go_wp2_with fail
   exact FF.out
 ·have hkv := hid (show ∀ w9, Kpt (p.TE ve1) w1.heap.size w1 w9 → (Instr.lookup 117 (.map (some p.kb)) (.int .u8 7) false).run Tryz.prog w9 = .ok (.func (.func 82) #[.pointer (some ⟨p.M, 0, none⟩)] #[]) w9 from fun w9 hk => by
  obtain ⟨es, c9, q1, q2⟩ := hX1.c.st.kinds
  exact (MpI.at ⟨es, c9, q1, q2⟩ (hk.block _ hX1.c.st.kinds.lt (hX1.c.me.notMap q1))).lookup Tryz.underlying117 under132 7 _ rfl)
  have cx := hid (binary82 p cf u n shp k d m1 ve1 F fb g cap ms t a2 a3 a4 a5 kids (.slice ka kids.len kc) ty w1.drew ha HE ⟨hx.ok, hx.kids, hx.ty⟩ hkw hv1 (hX1.below (Below.refl _ _).drew) hnl1)
  have X1 := hid hX1
  have W0 := hid (KV.of p ve1 (Below.refl w1.heap.size w1).drew)
  have FIN := hid (show ∀ e w2, PostM p cf.allowed n d w1.drew.heap.size ve1 (fun x => .returned (.int .u32 x)) (exprB cf (evl cf k) d (bareF fb) ⟨t, 7, a2, a3, a4, a5⟩ kids m1) w1.drew e w2 → R e w2 from fun e w2 h => by
   rw [HR.out, hh.out]
   exact h.chain (V1.out.trans W0.out).k (V1.out.trans W0.out).v (V1.out.trans W0.out).size)
  clear hX1 hx hkw hv hv1 hnl ha hOk hRg hal hX hB0 hw hh9
  go_wp2_with fail
  refine wp_region_held_drew (S := (fun w9 => Kpt (p.TE ve1) w1.heap.size w1 w9 ∧ w9.cell? ⟨p.M, 10, none⟩ = some (.map (some p.kb)))) (by kernel_rfl) ⟨W0.out.k, cell_on b10 (Below.refl _ _).drew⟩ (fun hHeld => ?_)
  refine tk 0 ?_ (hy := ?_) (h := ?_)
  rotate_left
  ·intro w' hSw; go_simp; (try with_reducible rfl)
  try simp only [tpa, tpb, tpc, tpd, tpe]
  refine tk 1 ?_ (hy := ?_) (h := ?_)
  rotate_left
  ·intro w' hSw; go_simp; (try with_reducible rfl)
  try simp only [tpa, tpb, tpc, tpd, tpe]
  refine tk 2 ?_ (hy := ?_) (h := ?_)
  rotate_left
  ·intro w' hSw; go_simp; (try with_reducible rfl)
  try simp only [tpa, tpb, tpc, tpd, tpe]
  refine tk 3 ?_ (hy := ?_) (h := ?_)
  rotate_left
  ·intro w' hSw; have q1 := hSw.2; go_simp; (try with_reducible rfl)
  try simp only [tpa, tpb, tpc, tpd, tpe]
  refine tk 4 ?_ (hy := ?_) (h := ?_)
  rotate_left
  ·intro w' hSw; go_simp; (try with_reducible rfl)
  try simp only [tpa, tpb, tpc, tpd, tpe]
  refine tk 5 ?_ (hy := ?_) (h := ?_)
  rotate_left
  ·intro w' hSw; have q1 := hSw.1.at e1 NE.out; go_simp; (try with_reducible rfl)
  try simp only [tpa, tpb, tpc, tpd, tpe]
  refine tk 6 ?_ (hy := ?_) (h := ?_)
  rotate_left
  ·intro w' hSw; have q1 := hkv.out _ hSw.1; go_simp; (try with_reducible rfl)
  try simp only [tpa, tpb, tpc, tpd, tpe]
  refine tk 7 ?_ (hy := ?_) (h := ?_)
  rotate_left
  ·intro w' hSw; go_simp; (try with_reducible rfl)
  try simp only [tpa, tpb, tpc, tpd, tpe]
  refine tk 8 ?_ (hy := ?_) (h := ?_)
  rotate_left
  ·intro w' hSw; have q0 := hSw.1.at e0 NE.out; have q1 := hSw.1.at e1 NE.out; have q2 := hSw.1.at e2 NE.out; have q3 := hSw.1.at e3 NE.out; have q4 := hSw.1.at e4 NE.out; have q5 := hSw.1.at e5 NE.out; have q6 := hSw.1.at e6 NE.out; go_simp; (try with_reducible rfl)
  try simp only [tpa, tpb, tpc, tpd, tpe]
  refine tr 9 (h := fun K hK => ?_)
  go_simp
  refine cx.out.mono ?_
  intro e w2 hp
  have HP := hid hp
  cases ho : exprB cf (evl cf k) d (bareF fb) ⟨t, 7, a2, a3, a4, a5⟩ kids m1 with
  | lost => exact absurd ho hnl1
  | stop a b m2 =>
   rw [ho] at hp
   obtain ⟨rfl, -⟩ := hp
   have FF := hid (FIN.out _ _ HP.out)
   clear cx FIN hHeld hK HP ho hnl1
   go_wp2_with fail
   refine bp_panic ?_
   exact FF.out
  | ok x m2 =>
   rw [ho] at hp
   obtain ⟨rfl, ve2, hM2, hK2, hV2⟩ := hp
   have FF := hid (FIN.out _ _ HP.out)
   obtain ⟨en2, vx2, fa2, hb2⟩ := hM2.box
   have hk := hid (show (fun w9 => Kpt (p.TE ve1) w1.heap.size w1 w9 ∧ w9.cell? ⟨p.M, 10, none⟩ = some (.map (some p.kb))) w2 from ⟨(W0.out.trans ⟨hK2, hV2⟩).k, by simpa using hb2.cell 10⟩)
   clear cx FIN hHeld HP hM2 hK2 hV2 hb2 ho hnl1
   go_wp2_with fail
   refine hK.out _ _ hk.out (fun hHeld => ?_)
   clear hK K
   try simp only [tpa, tpb, tpc, tpd, tpe]
   refine tk 10 ?_ (hy := ?_) (h := ?_)
   rotate_left
   ·intro w' hSw; go_simp; (try with_reducible rfl)
   try simp only [tpa, tpb, tpc, tpd, tpe]
   refine wpAnyH_done (by kernel_rfl) ?_ _
   go_wp2_with fail
   exact FF.out
 ·have hkv := hid (show ∀ w9, Kpt (p.TE ve1) w1.heap.size w1 w9 → (Instr.lookup 117 (.map (some p.kb)) (.int .u8 8) false).run Tryz.prog w9 = .ok (.func (.func 83) #[] #[.pointer (some ⟨p.kc, 0, none⟩)]) w9 from fun w9 hk => by
  obtain ⟨es, c9, q1, q2⟩ := hX1.c.st.kinds
  exact (MpI.at ⟨es, c9, q1, q2⟩ (hk.block _ hX1.c.st.kinds.lt (hX1.c.me.notMap q1))).lookup Tryz.underlying117 under132 8 _ rfl)
  have cx := hid (cast83 p cf u n shp k d m1 ve1 F fb g cap ms t a2 a3 a4 a5 kids (.slice ka kids.len kc) ty w1.drew ha HE ⟨hx.ok, hx.kids, hx.ty⟩ hkw hv1 (hX1.below (Below.refl _ _).drew) hnl1)
  have X1 := hid hX1
  have W0 := hid (KV.of p ve1 (Below.refl w1.heap.size w1).drew)
  have FIN := hid (show ∀ e w2, PostM p cf.allowed n d w1.drew.heap.size ve1 (fun x => .returned (.int .u32 x)) (exprB cf (evl cf k) d (bareF fb) ⟨t, 8, a2, a3, a4, a5⟩ kids m1) w1.drew e w2 → R e w2 from fun e w2 h => by
   rw [HR.out, hh.out]
   exact h.chain (V1.out.trans W0.out).k (V1.out.trans W0.out).v (V1.out.trans W0.out).size)
  clear hX1 hx hkw hv hv1 hnl ha hOk hRg hal hX hB0 hw hh9
  go_wp2_with fail
  refine wp_region_held_drew (S := (fun w9 => Kpt (p.TE ve1) w1.heap.size w1 w9 ∧ w9.cell? ⟨p.M, 10, none⟩ = some (.map (some p.kb)))) (by kernel_rfl) ⟨W0.out.k, cell_on b10 (Below.refl _ _).drew⟩ (fun hHeld => ?_)
  refine tk 0 ?_ (hy := ?_) (h := ?_)
  rotate_left
  ·intro w' hSw; go_simp; (try with_reducible rfl)
  try simp only [tpa, tpb, tpc, tpd, tpe]
  refine tk 1 ?_ (hy := ?_) (h := ?_)
  rotate_left
  ·intro w' hSw; go_simp; (try with_reducible rfl)
  try simp only [tpa, tpb, tpc, tpd, tpe]
  refine tk 2 ?_ (hy := ?_) (h := ?_)
  rotate_left
  ·intro w' hSw; go_simp; (try with_reducible rfl)
  try simp only [tpa, tpb, tpc, tpd, tpe]
  refine tk 3 ?_ (hy := ?_) (h := ?_)
  rotate_left
  ·intro w' hSw; have q1 := hSw.2; go_simp; (try with_reducible rfl)
  try simp only [tpa, tpb, tpc, tpd, tpe]
  refine tk 4 ?_ (hy := ?_) (h := ?_)
  rotate_left
  ·intro w' hSw; go_simp; (try with_reducible rfl)
  try simp only [tpa, tpb, tpc, tpd, tpe]
  refine tk 5 ?_ (hy := ?_) (h := ?_)
  rotate_left
  ·intro w' hSw; have q1 := hSw.1.at e1 NE.out; go_simp; (try with_reducible rfl)
  try simp only [tpa, tpb, tpc, tpd, tpe]
  refine tk 6 ?_ (hy := ?_) (h := ?_)
  rotate_left
  ·intro w' hSw; have q1 := hkv.out _ hSw.1; go_simp; (try with_reducible rfl)
  try simp only [tpa, tpb, tpc, tpd, tpe]
  refine tk 7 ?_ (hy := ?_) (h := ?_)
  rotate_left
  ·intro w' hSw; go_simp; (try with_reducible rfl)
  try simp only [tpa, tpb, tpc, tpd, tpe]
  refine tk 8 ?_ (hy := ?_) (h := ?_)
  rotate_left
  ·intro w' hSw; have q0 := hSw.1.at e0 NE.out; have q1 := hSw.1.at e1 NE.out; have q2 := hSw.1.at e2 NE.out; have q3 := hSw.1.at e3 NE.out; have q4 := hSw.1.at e4 NE.out; have q5 := hSw.1.at e5 NE.out; have q6 := hSw.1.at e6 NE.out; go_simp; (try with_reducible rfl)
  try simp only [tpa, tpb, tpc, tpd, tpe]
  refine tr 9 (h := fun K hK => ?_)
  go_simp
  refine cx.out.mono ?_
  intro e w2 hp
  have HP := hid hp
  cases ho : exprB cf (evl cf k) d (bareF fb) ⟨t, 8, a2, a3, a4, a5⟩ kids m1 with
  | lost => exact absurd ho hnl1
  | stop a b m2 =>
   rw [ho] at hp
   obtain ⟨rfl, -⟩ := hp
   have FF := hid (FIN.out _ _ HP.out)
   clear cx FIN hHeld hK HP ho hnl1
   go_wp2_with fail
   refine bp_panic ?_
   exact FF.out
  | ok x m2 =>
   rw [ho] at hp
   obtain ⟨rfl, ve2, hM2, hK2, hV2⟩ := hp
   have FF := hid (FIN.out _ _ HP.out)
   obtain ⟨en2, vx2, fa2, hb2⟩ := hM2.box
   have hk := hid (show (fun w9 => Kpt (p.TE ve1) w1.heap.size w1 w9 ∧ w9.cell? ⟨p.M, 10, none⟩ = some (.map (some p.kb))) w2 from ⟨(W0.out.trans ⟨hK2, hV2⟩).k, by simpa using hb2.cell 10⟩)
   clear cx FIN hHeld HP hM2 hK2 hV2 hb2 ho hnl1
   go_wp2_with fail
   refine hK.out _ _ hk.out (fun hHeld => ?_)
   clear hK K
   try simp only [tpa, tpb, tpc, tpd, tpe]
   refine tk 10 ?_ (hy := ?_) (h := ?_)
   rotate_left
   ·intro w' hSw; go_simp; (try with_reducible rfl)
   try simp only [tpa, tpb, tpc, tpd, tpe]
   refine wpAnyH_done (by kernel_rfl) ?_ _
   go_wp2_with fail
   exact FF.out
end
end Go.Proofs.YtlabadkfkbenoaaGreatDoor
