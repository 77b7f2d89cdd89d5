/- Walks and plain laws, merged: IntS IntT. No condition. -/
import Derived.Test.YtlabadkfkbenoaaGreatDoorKm01
import Derived.Test.YtlabadkfkbenoaaGreatDoorKm20
namespace Go.Proofs.YtlabadkfkbenoaaGreatDoor
open Go.RowKit
set_option linter.unusedVariables false
set_option linter.unusedSimpArgs false
set_option maxRecDepth 100000
set_option maxHeartbeats 64000000
section
open Go.Shelf
theorem under132 : Tryz.prog.underlying 132 = some (.int .u8) := by kernel_rfl
theorem expr79 (p : Pt) (cf : Cf) (u : UT) (n : Nat) (shp : List Nat) (k : Nat) (hOk : cf.Ok) (hRg : cf.Rg) (ha : cf.alu = aluV) (hal : cf.allowed ≤ 65536) (HE : Hid (WEx p cf u n shp k)) (HF : Hid (WFn p cf u n shp k)) : WEx p cf u n shp (k + 1) := by
 intro d m ve F fb g cap ms t h kids v ty w hx hw hkw hv hX hnl
 refine Calls.mono ?_ fun e w' hp => PostM.lift hX ((evl_keeps cf shp (k + 1)).E d (bareF fb) h kids m hX.inv) ((evl_rg hRg (k + 1)).E d (bareF fb) h kids m hw hkw hX.frg hX.rg) hp
 obtain ⟨ka, kc, rfl⟩ := hv.shape'
 obtain ⟨R, hR⟩ : ∃ x, x = PostM p cf.allowed n d w.heap.size ve (fun x => Ending.returned (.int .u32 x)) ((evl cf (k + 1)).E d (bareF fb) h kids m) w := ⟨_, rfl⟩
 rw [← hR]
 have HR := hid hR
 clear hR
 have hh9 := hid (show (evl cf (k + 1)).E d (bareF fb) h kids m = (tick cf m).bind fun _ m => exprB cf (evl cf k) d (bareF fb) h kids m from rfl)
 obtain ⟨a0, a1, a2, a3, a4, a5⟩ := h
 have hn := (okH_n hx.ok).1
 simp only [] at hn hw ⊢
 have hB0 := (Below.refl w.heap.size w).alloc (Nat.le_refl _) (.cells #[.int .i64 t, .int .u8 a1, .int .u32 a2, .int .u8 a3, .string a4, .string a5, .slice ka kids.len kc] 134)
 have hX0 := hX.below hB0
 have hb0 := Bx.new w #[.int .i64 t, .int .u8 a1, .int .u32 a2, .int .u8 a3, .string a4, .string a5, .slice ka kids.len kc] 134
 have cs := hid (step116 p cf n d m ve _ hal hX.inv.steps hX0.c.me)
 have V0 := hid (KV.of p ve hB0)
 have HHN := hid hnl
 by_cases hc : cf.allowed ≤ m.steps
 ·have ht : tick cf m = .stop 3 0 m := by unfold tick; rw [if_pos hc]
  rw [ht] at cs
  have hh := hid (show (evl cf (k + 1)).E d (bareF fb) ⟨a0, a1, a2, a3, a4, a5⟩ kids m = .stop 3 0 m by rw [hh9.out, ht]; rfl)
  clear hx hkw hv hnl ha hOk hRg hal hX hX0 hB0 hw hh9 hn hb0 hc ht HE HF
  go_enter Tryz.func79, Tryz.ntmps79
  go_wp2_with fail
  refine cs.out.mono ?_
  rintro e w1 ⟨rfl, ve1, d1, hM1, hK1, hV1⟩
  have F1 : Hid (PostM p cf.allowed n d w.heap.size ve (fun x => .returned (.int .u32 x)) (.stop 3 0 m) w (endE 3 0) w1) := hid (fin_stop hM1 (V0.out.trans ⟨hK1, hV1⟩) rfl)
  clear hM1 hK1 hV1 cs
  go_wp2_with fail
  refine bp_panic ?_
  rw [HR.out, hh.out]
  exact F1.out
 have ht : tick cf m = .ok () { m with steps := m.steps + 1 } := by unfold tick; rw [if_neg hc]
 have hh := hid (show (evl cf (k + 1)).E d (bareF fb) ⟨a0, a1, a2, a3, a4, a5⟩ kids m = exprB cf (evl cf k) d (bareF fb) ⟨a0, a1, a2, a3, a4, a5⟩ kids { m with steps := m.steps + 1 } by rw [hh9.out, ht]; rfl)
 have hi1 : Inv cf shp { m with steps := m.steps + 1 } := by have := tick_ok (cf := cf) m hX.inv; rw [ht] at this; exact this
 have hr1 : MS.Rg { m with steps := m.steps + 1 } := hX.rg
 have CS := hid (fun (e : Ending) (w1 : World) (hp : PostM p cf.allowed n d _ ve (fun _ => .returned (.tuple #[])) (tick cf m) _ e w1) => PostM.lift (P := fun _ => True) hX0 (by rw [ht]; exact hi1) (by rw [ht]; exact ⟨trivial, hr1⟩) hp)
 have hnl1 : exprB cf (evl cf k) d (bareF fb) ⟨a0, a1, a2, a3, a4, a5⟩ kids { m with steps := m.steps + 1 } ≠ .lost := by rw [← hh.out]; exact hnl
 generalize ({ m with steps := m.steps + 1 } : MS) = m1 at ht hh hnl1 hi1 hr1
 have HB0 := hid hb0
 have HX0 := hid hX0
 clear hi1 hr1 hb0
 go_enter Tryz.func79, Tryz.ntmps79
 go_wp2_with fail
 refine cs.out.mono ?_
 intro e w1 hp
 have h1 := CS.out e w1 hp
 rw [ht] at h1
 obtain ⟨rfl, -, ve1, hX1, hV1⟩ := h1
 have hbx := hV1.k.box HB0.out HB0.out.lt (HX0.out.c.me.notBox HB0.out (by decide) (by decide) (by decide))
 have e0 : w1.cell? ⟨w.heap.size, 0, none⟩ = some (.int .i64 t) := by simpa using hbx.cell 0
 have e1 : w1.cell? ⟨w.heap.size, 1, none⟩ = some (.int .u8 a1) := by simpa using hbx.cell 1
 have e2 : w1.cell? ⟨w.heap.size, 2, none⟩ = some (.int .u32 a2) := by simpa using hbx.cell 2
 have e3 : w1.cell? ⟨w.heap.size, 3, none⟩ = some (.int .u8 a3) := by simpa using hbx.cell 3
 have e4 : w1.cell? ⟨w.heap.size, 4, none⟩ = some (.string a4) := by simpa using hbx.cell 4
 have e5 : w1.cell? ⟨w.heap.size, 5, none⟩ = some (.string a5) := by simpa using hbx.cell 5
 have e6 : w1.cell? ⟨w.heap.size, 6, none⟩ = some (.slice ka kids.len kc) := by simpa using hbx.cell 6
 have b10 := hX1.c.b10
 have NE := hid (hX1.c.me.notBox hbx (by decide) (by decide) (by decide))
 have V1 := hid (V0.out.trans hV1)
 have hv1 := (hv.sub (cells_old_below hB0)).sub (hX0.c.cells (hV1.k.trans (Kpt.of ((Below.refl w1.heap.size w1).drew.mono hV1.size))))
 clear hp cs CS ht hc hbx hV1 HB0 HX0 hX0 V0
 rcases hn with hn | hn | hn | hn | hn | hn | hn | hn <;> subst hn
 ·have hkv := hid (show ∀ w9, Kpt (p.TE ve1) w1.heap.size w1 w9 → (Instr.lookup 117 (.map (some p.kb)) (.int .u8 1) false).run Tryz.prog w9 = .ok (.func (.func 74) #[] #[]) w9 from fun w9 hk => by
  obtain ⟨es, c9, q1, q2⟩ := hX1.c.st.kinds
  exact (MpI.at ⟨es, c9, q1, q2⟩ (hk.block _ hX1.c.st.kinds.lt (hX1.c.me.notMap q1))).lookup Tryz.underlying117 under132 1 _ rfl)
  have cx := hid (lit74 F t 1 a2 a3 a4 a5 ka kids.len kc w1.drew)
  have X1 := hid hX1
  have W0 := hid (KV.of p ve1 (Below.refl w1.heap.size w1).drew)
  have FIN := hid (show ∀ e w2, PostM p cf.allowed n d w1.drew.heap.size ve1 (fun x => .returned (.int .u32 x)) (exprB cf (evl cf k) d (bareF fb) ⟨t, 1, a2, a3, a4, a5⟩ kids m1) w1.drew e w2 → R e w2 from fun e w2 h => by
   rw [HR.out, hh.out]
   exact h.chain (V1.out.trans W0.out).k (V1.out.trans W0.out).v (V1.out.trans W0.out).size)
  clear hX1 hx hkw hv hv1 hnl ha hOk hRg hal hX hB0 hw hh9
  go_wp2_with fail
  refine wp_region_held_drew (S := (fun w9 => Kpt (p.TE ve1) w1.heap.size w1 w9 ∧ w9.cell? ⟨p.M, 10, none⟩ = some (.map (some p.kb)))) (by kernel_rfl) ⟨W0.out.k, cell_on b10 (Below.refl _ _).drew⟩ (fun hHeld => ?_)
  refine tk 0 ?_
  refine tk 1 ?_
  refine tk 2 ?_
  refine tk 3 ?_ (hy := by intro w' hSw; have q1 := hSw.2; go_simp; (try with_reducible rfl))
  refine tk 4 ?_
  refine tk 5 ?_ (hy := by intro w' hSw; have q1 := hSw.1.at e1 NE.out; go_simp; (try with_reducible rfl))
  refine tk 6 ?_ (hy := by intro w' hSw; have q1 := hkv.out _ hSw.1; go_simp; (try with_reducible rfl))
  refine tk 7 ?_
  refine tk 8 ?_ (hy := by intro w' hSw; have q0 := hSw.1.at e0 NE.out; have q1 := hSw.1.at e1 NE.out; have q2 := hSw.1.at e2 NE.out; have q3 := hSw.1.at e3 NE.out; have q4 := hSw.1.at e4 NE.out; have q5 := hSw.1.at e5 NE.out; have q6 := hSw.1.at e6 NE.out; go_simp; (try with_reducible rfl))
  refine tr 9 fun K hK => ?_
  go_simp
  refine cx.out.mono ?_
  rintro e w2 ⟨rfl, hb2⟩
  have FF := hid (FIN.out _ _ (show PostM p cf.allowed n d w1.drew.heap.size ve1 (fun x => .returned (.int .u32 x)) (exprB cf (evl cf k) d (bareF fb) ⟨t, 1, a2, a3, a4, a5⟩ kids m1) w1.drew (.returned (.int .u32 a2)) w2 by rw [exprB_1]; exact fin_ok (X1.out.below ((Below.refl _ _).drew.trans (hb2.mono (Below.refl w1.heap.size w1).drew.size))) (KV.of p ve1 hb2) rfl))
  have hk := hid (show (fun w9 => Kpt (p.TE ve1) w1.heap.size w1 w9 ∧ w9.cell? ⟨p.M, 10, none⟩ = some (.map (some p.kb))) w2 from ⟨W0.out.k.trans (Kpt.of (hb2.mono W0.out.size)), cell_on hHeld.2 hb2⟩)
  clear hb2 cx FIN hHeld
  go_wp2_with fail
  refine hK.out _ _ hk.out (fun hHeld => ?_)
  clear hK K
  try simp only [tpa, tpb, tpc, tpd, tpe]
  refine tk 10 ?_
  refine td ?_
  go_wp2_with fail
  exact FF.out
 ·have hkv := hid (show ∀ w9, Kpt (p.TE ve1) w1.heap.size w1 w9 → (Instr.lookup 117 (.map (some p.kb)) (.int .u8 2) false).run Tryz.prog w9 = .ok (.func (.func 74) #[] #[]) w9 from fun w9 hk => by
  obtain ⟨es, c9, q1, q2⟩ := hX1.c.st.kinds
  exact (MpI.at ⟨es, c9, q1, q2⟩ (hk.block _ hX1.c.st.kinds.lt (hX1.c.me.notMap q1))).lookup Tryz.underlying117 under132 2 _ rfl)
  have cx := hid (lit74 F t 2 a2 a3 a4 a5 ka kids.len kc w1.drew)
  have X1 := hid hX1
  have W0 := hid (KV.of p ve1 (Below.refl w1.heap.size w1).drew)
  have FIN := hid (show ∀ e w2, PostM p cf.allowed n d w1.drew.heap.size ve1 (fun x => .returned (.int .u32 x)) (exprB cf (evl cf k) d (bareF fb) ⟨t, 2, a2, a3, a4, a5⟩ kids m1) w1.drew e w2 → R e w2 from fun e w2 h => by
   rw [HR.out, hh.out]
   exact h.chain (V1.out.trans W0.out).k (V1.out.trans W0.out).v (V1.out.trans W0.out).size)
  clear hX1 hx hkw hv hv1 hnl ha hOk hRg hal hX hB0 hw hh9
  go_wp2_with fail
  refine wp_region_held_drew (S := (fun w9 => Kpt (p.TE ve1) w1.heap.size w1 w9 ∧ w9.cell? ⟨p.M, 10, none⟩ = some (.map (some p.kb)))) (by kernel_rfl) ⟨W0.out.k, cell_on b10 (Below.refl _ _).drew⟩ (fun hHeld => ?_)
  refine tk 0 ?_
  refine tk 1 ?_
  refine tk 2 ?_
  refine tk 3 ?_ (hy := by intro w' hSw; have q1 := hSw.2; go_simp; (try with_reducible rfl))
  refine tk 4 ?_
  refine tk 5 ?_ (hy := by intro w' hSw; have q1 := hSw.1.at e1 NE.out; go_simp; (try with_reducible rfl))
  refine tk 6 ?_ (hy := by intro w' hSw; have q1 := hkv.out _ hSw.1; go_simp; (try with_reducible rfl))
  refine tk 7 ?_
  refine tk 8 ?_ (hy := by intro w' hSw; have q0 := hSw.1.at e0 NE.out; have q1 := hSw.1.at e1 NE.out; have q2 := hSw.1.at e2 NE.out; have q3 := hSw.1.at e3 NE.out; have q4 := hSw.1.at e4 NE.out; have q5 := hSw.1.at e5 NE.out; have q6 := hSw.1.at e6 NE.out; go_simp; (try with_reducible rfl))
  refine tr 9 fun K hK => ?_
  go_simp
  refine cx.out.mono ?_
  rintro e w2 ⟨rfl, hb2⟩
  have FF := hid (FIN.out _ _ (show PostM p cf.allowed n d w1.drew.heap.size ve1 (fun x => .returned (.int .u32 x)) (exprB cf (evl cf k) d (bareF fb) ⟨t, 2, a2, a3, a4, a5⟩ kids m1) w1.drew (.returned (.int .u32 a2)) w2 by rw [exprB_2]; exact fin_ok (X1.out.below ((Below.refl _ _).drew.trans (hb2.mono (Below.refl w1.heap.size w1).drew.size))) (KV.of p ve1 hb2) rfl))
  have hk := hid (show (fun w9 => Kpt (p.TE ve1) w1.heap.size w1 w9 ∧ w9.cell? ⟨p.M, 10, none⟩ = some (.map (some p.kb))) w2 from ⟨W0.out.k.trans (Kpt.of (hb2.mono W0.out.size)), cell_on hHeld.2 hb2⟩)
  clear hb2 cx FIN hHeld
  go_wp2_with fail
  refine hK.out _ _ hk.out (fun hHeld => ?_)
  clear hK K
  try simp only [tpa, tpb, tpc, tpd, tpe]
  refine tk 10 ?_
  refine td ?_
  go_wp2_with fail
  exact FF.out
 ·have hkv := hid (show ∀ w9, Kpt (p.TE ve1) w1.heap.size w1 w9 → (Instr.lookup 117 (.map (some p.kb)) (.int .u8 3) false).run Tryz.prog w9 = .ok (.func (.func 75) #[] #[.pointer (some ⟨p.kc, 0, none⟩)]) w9 from fun w9 hk => by
  obtain ⟨es, c9, q1, q2⟩ := hX1.c.st.kinds
  exact (MpI.at ⟨es, c9, q1, q2⟩ (hk.block _ hX1.c.st.kinds.lt (hX1.c.me.notMap q1))).lookup Tryz.underlying117 under132 3 _ rfl)
  have cx := hid (name75 p cf u n shp k d m1 ve1 F fb g cap ms t a2 a3 a4 a5 kids (.slice ka kids.len kc) ty w1.drew HE ⟨hx.ok, hx.kids, hx.ty⟩ hkw hv1 (hX1.below (Below.refl _ _).drew) hnl1)
  have X1 := hid hX1
  have W0 := hid (KV.of p ve1 (Below.refl w1.heap.size w1).drew)
  have FIN := hid (show ∀ e w2, PostM p cf.allowed n d w1.drew.heap.size ve1 (fun x => .returned (.int .u32 x)) (exprB cf (evl cf k) d (bareF fb) ⟨t, 3, a2, a3, a4, a5⟩ kids m1) w1.drew e w2 → R e w2 from fun e w2 h => by
   rw [HR.out, hh.out]
   exact h.chain (V1.out.trans W0.out).k (V1.out.trans W0.out).v (V1.out.trans W0.out).size)
  clear hX1 hx hkw hv hv1 hnl ha hOk hRg hal hX hB0 hw hh9
  go_wp2_with fail
  refine wp_region_held_drew (S := (fun w9 => Kpt (p.TE ve1) w1.heap.size w1 w9 ∧ w9.cell? ⟨p.M, 10, none⟩ = some (.map (some p.kb)))) (by kernel_rfl) ⟨W0.out.k, cell_on b10 (Below.refl _ _).drew⟩ (fun hHeld => ?_)
  refine tk 0 ?_
  refine tk 1 ?_
  refine tk 2 ?_
  refine tk 3 ?_ (hy := by intro w' hSw; have q1 := hSw.2; go_simp; (try with_reducible rfl))
  refine tk 4 ?_
  refine tk 5 ?_ (hy := by intro w' hSw; have q1 := hSw.1.at e1 NE.out; go_simp; (try with_reducible rfl))
  refine tk 6 ?_ (hy := by intro w' hSw; have q1 := hkv.out _ hSw.1; go_simp; (try with_reducible rfl))
  refine tk 7 ?_
  refine tk 8 ?_ (hy := by intro w' hSw; have q0 := hSw.1.at e0 NE.out; have q1 := hSw.1.at e1 NE.out; have q2 := hSw.1.at e2 NE.out; have q3 := hSw.1.at e3 NE.out; have q4 := hSw.1.at e4 NE.out; have q5 := hSw.1.at e5 NE.out; have q6 := hSw.1.at e6 NE.out; go_simp; (try with_reducible rfl))
  refine tr 9 fun K hK => ?_
  go_simp
  refine cx.out.mono ?_
  intro e w2 hp
  have HP := hid hp
  cases ho : exprB cf (evl cf k) d (bareF fb) ⟨t, 3, a2, a3, a4, a5⟩ kids m1 with
  | lost => exact absurd ho hnl1
  | stop a b m2 =>
   rw [ho] at hp
   obtain ⟨rfl, -⟩ := hp
   have FF := hid (FIN.out _ _ HP.out)
   clear cx FIN hHeld hK HP ho hnl1
   go_wp2_with fail
   refine bp_panic ?_
   exact FF.out
  | ok x m2 =>
   rw [ho] at hp
   obtain ⟨rfl, ve2, hM2, hK2, hV2⟩ := hp
   have FF := hid (FIN.out _ _ HP.out)
   obtain ⟨en2, vx2, fa2, hb2⟩ := hM2.box
   have hk := hid (show (fun w9 => Kpt (p.TE ve1) w1.heap.size w1 w9 ∧ w9.cell? ⟨p.M, 10, none⟩ = some (.map (some p.kb))) w2 from ⟨(W0.out.trans ⟨hK2, hV2⟩).k, by simpa using hb2.cell 10⟩)
   clear cx FIN hHeld HP hM2 hK2 hV2 hb2 ho hnl1
   go_wp2_with fail
   refine hK.out _ _ hk.out (fun hHeld => ?_)
   clear hK K
   try simp only [tpa, tpb, tpc, tpd, tpe]
   refine tk 10 ?_
   refine td ?_
   go_wp2_with fail
   exact FF.out
 ·have hkv := hid (show ∀ w9, Kpt (p.TE ve1) w1.heap.size w1 w9 → (Instr.lookup 117 (.map (some p.kb)) (.int .u8 4) false).run Tryz.prog w9 = .ok (.func (.func 77) #[] #[.pointer (some ⟨p.kc, 0, none⟩)]) w9 from fun w9 hk => by
  obtain ⟨es, c9, q1, q2⟩ := hX1.c.st.kinds
  exact (MpI.at ⟨es, c9, q1, q2⟩ (hk.block _ hX1.c.st.kinds.lt (hX1.c.me.notMap q1))).lookup Tryz.underlying117 under132 4 _ rfl)
  have cx := hid (index77 p cf u n shp k d m1 ve1 F fb g cap ms t a2 a3 a4 a5 kids (.slice ka kids.len kc) ty w1.drew HE ⟨hx.ok, hx.kids, hx.ty⟩ hkw hv1 (hX1.below (Below.refl _ _).drew) hnl1)
  have X1 := hid hX1
  have W0 := hid (KV.of p ve1 (Below.refl w1.heap.size w1).drew)
  have FIN := hid (show ∀ e w2, PostM p cf.allowed n d w1.drew.heap.size ve1 (fun x => .returned (.int .u32 x)) (exprB cf (evl cf k) d (bareF fb) ⟨t, 4, a2, a3, a4, a5⟩ kids m1) w1.drew e w2 → R e w2 from fun e w2 h => by
   rw [HR.out, hh.out]
   exact h.chain (V1.out.trans W0.out).k (V1.out.trans W0.out).v (V1.out.trans W0.out).size)
  clear hX1 hx hkw hv hv1 hnl ha hOk hRg hal hX hB0 hw hh9
  go_wp2_with fail
  refine wp_region_held_drew (S := (fun w9 => Kpt (p.TE ve1) w1.heap.size w1 w9 ∧ w9.cell? ⟨p.M, 10, none⟩ = some (.map (some p.kb)))) (by kernel_rfl) ⟨W0.out.k, cell_on b10 (Below.refl _ _).drew⟩ (fun hHeld => ?_)
  refine tk 0 ?_
  refine tk 1 ?_
  refine tk 2 ?_
  refine tk 3 ?_ (hy := by intro w' hSw; have q1 := hSw.2; go_simp; (try with_reducible rfl))
  refine tk 4 ?_
  refine tk 5 ?_ (hy := by intro w' hSw; have q1 := hSw.1.at e1 NE.out; go_simp; (try with_reducible rfl))
  refine tk 6 ?_ (hy := by intro w' hSw; have q1 := hkv.out _ hSw.1; go_simp; (try with_reducible rfl))
  refine tk 7 ?_
  refine tk 8 ?_ (hy := by intro w' hSw; have q0 := hSw.1.at e0 NE.out; have q1 := hSw.1.at e1 NE.out; have q2 := hSw.1.at e2 NE.out; have q3 := hSw.1.at e3 NE.out; have q4 := hSw.1.at e4 NE.out; have q5 := hSw.1.at e5 NE.out; have q6 := hSw.1.at e6 NE.out; go_simp; (try with_reducible rfl))
  refine tr 9 fun K hK => ?_
  go_simp
  refine cx.out.mono ?_
  intro e w2 hp
  have HP := hid hp
  cases ho : exprB cf (evl cf k) d (bareF fb) ⟨t, 4, a2, a3, a4, a5⟩ kids m1 with
  | lost => exact absurd ho hnl1
  | stop a b m2 =>
   rw [ho] at hp
   obtain ⟨rfl, -⟩ := hp
   have FF := hid (FIN.out _ _ HP.out)
   clear cx FIN hHeld hK HP ho hnl1
   go_wp2_with fail
   refine bp_panic ?_
   exact FF.out
  | ok x m2 =>
   rw [ho] at hp
   obtain ⟨rfl, ve2, hM2, hK2, hV2⟩ := hp
   have FF := hid (FIN.out _ _ HP.out)
   obtain ⟨en2, vx2, fa2, hb2⟩ := hM2.box
   have hk := hid (show (fun w9 => Kpt (p.TE ve1) w1.heap.size w1 w9 ∧ w9.cell? ⟨p.M, 10, none⟩ = some (.map (some p.kb))) w2 from ⟨(W0.out.trans ⟨hK2, hV2⟩).k, by simpa using hb2.cell 10⟩)
   clear cx FIN hHeld HP hM2 hK2 hV2 hb2 ho hnl1
   go_wp2_with fail
   refine hK.out _ _ hk.out (fun hHeld => ?_)
   clear hK K
   try simp only [tpa, tpb, tpc, tpd, tpe]
   refine tk 10 ?_
   refine td ?_
   go_wp2_with fail
   exact FF.out
 ·have hkv := hid (show ∀ w9, Kpt (p.TE ve1) w1.heap.size w1 w9 → (Instr.lookup 117 (.map (some p.kb)) (.int .u8 5) false).run Tryz.prog w9 = .ok (.func (.func 80) #[.pointer (some ⟨p.M, 0, none⟩)] #[]) w9 from fun w9 hk => by
  obtain ⟨es, c9, q1, q2⟩ := hX1.c.st.kinds
  exact (MpI.at ⟨es, c9, q1, q2⟩ (hk.block _ hX1.c.st.kinds.lt (hX1.c.me.notMap q1))).lookup Tryz.underlying117 under132 5 _ rfl)
  have cx := hid (call80 p cf u n shp k d m1 ve1 F fb g cap ms t a2 a3 a4 a5 kids (.slice ka kids.len kc) ty w1.drew hOk HF HE ⟨hx.ok, hx.kids, hx.ty⟩ hkw hv1 (hX1.below (Below.refl _ _).drew) hnl1)
  have X1 := hid hX1
  have W0 := hid (KV.of p ve1 (Below.refl w1.heap.size w1).drew)
  have FIN := hid (show ∀ e w2, PostM p cf.allowed n d w1.drew.heap.size ve1 (fun x => .returned (.int .u32 x)) (exprB cf (evl cf k) d (bareF fb) ⟨t, 5, a2, a3, a4, a5⟩ kids m1) w1.drew e w2 → R e w2 from fun e w2 h => by
   rw [HR.out, hh.out]
   exact h.chain (V1.out.trans W0.out).k (V1.out.trans W0.out).v (V1.out.trans W0.out).size)
  clear hX1 hx hkw hv hv1 hnl ha hOk hRg hal hX hB0 hw hh9
  go_wp2_with fail
  refine wp_region_held_drew (S := (fun w9 => Kpt (p.TE ve1) w1.heap.size w1 w9 ∧ w9.cell? ⟨p.M, 10, none⟩ = some (.map (some p.kb)))) (by kernel_rfl) ⟨W0.out.k, cell_on b10 (Below.refl _ _).drew⟩ (fun hHeld => ?_)
  refine tk 0 ?_
  refine tk 1 ?_
  refine tk 2 ?_
  refine tk 3 ?_ (hy := by intro w' hSw; have q1 := hSw.2; go_simp; (try with_reducible rfl))
  refine tk 4 ?_
  refine tk 5 ?_ (hy := by intro w' hSw; have q1 := hSw.1.at e1 NE.out; go_simp; (try with_reducible rfl))
  refine tk 6 ?_ (hy := by intro w' hSw; have q1 := hkv.out _ hSw.1; go_simp; (try with_reducible rfl))
  refine tk 7 ?_
  refine tk 8 ?_ (hy := by intro w' hSw; have q0 := hSw.1.at e0 NE.out; have q1 := hSw.1.at e1 NE.out; have q2 := hSw.1.at e2 NE.out; have q3 := hSw.1.at e3 NE.out; have q4 := hSw.1.at e4 NE.out; have q5 := hSw.1.at e5 NE.out; have q6 := hSw.1.at e6 NE.out; go_simp; (try with_reducible rfl))
  refine tr 9 fun K hK => ?_
  go_simp
  refine cx.out.mono ?_
  intro e w2 hp
  have HP := hid hp
  cases ho : exprB cf (evl cf k) d (bareF fb) ⟨t, 5, a2, a3, a4, a5⟩ kids m1 with
  | lost => exact absurd ho hnl1
  | stop a b m2 =>
   rw [ho] at hp
   obtain ⟨rfl, -⟩ := hp
   have FF := hid (FIN.out _ _ HP.out)
   clear cx FIN hHeld hK HP ho hnl1
   go_wp2_with fail
   refine bp_panic ?_
   exact FF.out
  | ok x m2 =>
   rw [ho] at hp
   obtain ⟨rfl, ve2, hM2, hK2, hV2⟩ := hp
   have FF := hid (FIN.out _ _ HP.out)
   obtain ⟨en2, vx2, fa2, hb2⟩ := hM2.box
   have hk := hid (show (fun w9 => Kpt (p.TE ve1) w1.heap.size w1 w9 ∧ w9.cell? ⟨p.M, 10, none⟩ = some (.map (some p.kb))) w2 from ⟨(W0.out.trans ⟨hK2, hV2⟩).k, by simpa using hb2.cell 10⟩)
   clear cx FIN hHeld HP hM2 hK2 hV2 hb2 ho hnl1
   go_wp2_with fail
   refine hK.out _ _ hk.out (fun hHeld => ?_)
   clear hK K
   try simp only [tpa, tpb, tpc, tpd, tpe]
   refine tk 10 ?_
   refine td ?_
   go_wp2_with fail
   exact FF.out
 ·have hkv := hid (show ∀ w9, Kpt (p.TE ve1) w1.heap.size w1 w9 → (Instr.lookup 117 (.map (some p.kb)) (.int .u8 6) false).run Tryz.prog w9 = .ok (.func (.func 81) #[.pointer (some ⟨p.M, 0, none⟩)] #[]) w9 from fun w9 hk => by
  obtain ⟨es, c9, q1, q2⟩ := hX1.c.st.kinds
  exact (MpI.at ⟨es, c9, q1, q2⟩ (hk.block _ hX1.c.st.kinds.lt (hX1.c.me.notMap q1))).lookup Tryz.underlying117 under132 6 _ rfl)
  have cx := hid (unary81 p cf u n shp k d m1 ve1 F fb g cap ms t a2 a3 a4 a5 kids (.slice ka kids.len kc) ty w1.drew ha HE ⟨hx.ok, hx.kids, hx.ty⟩ hkw hv1 (hX1.below (Below.refl _ _).drew) hnl1)
  have X1 := hid hX1
  have W0 := hid (KV.of p ve1 (Below.refl w1.heap.size w1).drew)
  have FIN := hid (show ∀ e w2, PostM p cf.allowed n d w1.drew.heap.size ve1 (fun x => .returned (.int .u32 x)) (exprB cf (evl cf k) d (bareF fb) ⟨t, 6, a2, a3, a4, a5⟩ kids m1) w1.drew e w2 → R e w2 from fun e w2 h => by
   rw [HR.out, hh.out]
   exact h.chain (V1.out.trans W0.out).k (V1.out.trans W0.out).v (V1.out.trans W0.out).size)
  clear hX1 hx hkw hv hv1 hnl ha hOk hRg hal hX hB0 hw hh9
  go_wp2_with fail
  refine wp_region_held_drew (S := (fun w9 => Kpt (p.TE ve1) w1.heap.size w1 w9 ∧ w9.cell? ⟨p.M, 10, none⟩ = some (.map (some p.kb)))) (by kernel_rfl) ⟨W0.out.k, cell_on b10 (Below.refl _ _).drew⟩ (fun hHeld => ?_)
  refine tk 0 ?_
  refine tk 1 ?_
  refine tk 2 ?_
  refine tk 3 ?_ (hy := by intro w' hSw; have q1 := hSw.2; go_simp; (try with_reducible rfl))
  refine tk 4 ?_
  refine tk 5 ?_ (hy := by intro w' hSw; have q1 := hSw.1.at e1 NE.out; go_simp; (try with_reducible rfl))
  refine tk 6 ?_ (hy := by intro w' hSw; have q1 := hkv.out _ hSw.1; go_simp; (try with_reducible rfl))
  refine tk 7 ?_
  refine tk 8 ?_ (hy := by intro w' hSw; have q0 := hSw.1.at e0 NE.out; have q1 := hSw.1.at e1 NE.out; have q2 := hSw.1.at e2 NE.out; have q3 := hSw.1.at e3 NE.out; have q4 := hSw.1.at e4 NE.out; have q5 := hSw.1.at e5 NE.out; have q6 := hSw.1.at e6 NE.out; go_simp; (try with_reducible rfl))
  refine tr 9 fun K hK => ?_
  go_simp
  refine cx.out.mono ?_
  intro e w2 hp
  have HP := hid hp
  cases ho : exprB cf (evl cf k) d (bareF fb) ⟨t, 6, a2, a3, a4, a5⟩ kids m1 with
  | lost => exact absurd ho hnl1
  | stop a b m2 =>
   rw [ho] at hp
   obtain ⟨rfl, -⟩ := hp
   have FF := hid (FIN.out _ _ HP.out)
   clear cx FIN hHeld hK HP ho hnl1
   go_wp2_with fail
   refine bp_panic ?_
   exact FF.out
  | ok x m2 =>
   rw [ho] at hp
   obtain ⟨rfl, ve2, hM2, hK2, hV2⟩ := hp
   have FF := hid (FIN.out _ _ HP.out)
   obtain ⟨en2, vx2, fa2, hb2⟩ := hM2.box
   have hk := hid (show (fun w9 => Kpt (p.TE ve1) w1.heap.size w1 w9 ∧ w9.cell? ⟨p.M, 10, none⟩ = some (.map (some p.kb))) w2 from ⟨(W0.out.trans ⟨hK2, hV2⟩).k, by simpa using hb2.cell 10⟩)
   clear cx FIN hHeld HP hM2 hK2 hV2 hb2 ho hnl1
   go_wp2_with fail
   refine hK.out _ _ hk.out (fun hHeld => ?_)
   clear hK K
   try simp only [tpa, tpb, tpc, tpd, tpe]
   refine tk 10 ?_
   refine td ?_
   go_wp2_with fail
   exact FF.out
 ·have hkv := hid (show ∀ w9, Kpt (p.TE ve1) w1.heap.size w1 w9 → (Instr.lookup 117 (.map (some p.kb)) (.int .u8 7) false).run Tryz.prog w9 = .ok (.func (.func 82) #[.pointer (some ⟨p.M, 0, none⟩)] #[]) w9 from fun w9 hk => by
  obtain ⟨es, c9, q1, q2⟩ := hX1.c.st.kinds
  exact (MpI.at ⟨es, c9, q1, q2⟩ (hk.block _ hX1.c.st.kinds.lt (hX1.c.me.notMap q1))).lookup Tryz.underlying117 under132 7 _ rfl)
  have cx := hid (binary82 p cf u n shp k d m1 ve1 F fb g cap ms t a2 a3 a4 a5 kids (.slice ka kids.len kc) ty w1.drew ha HE ⟨hx.ok, hx.kids, hx.ty⟩ hkw hv1 (hX1.below (Below.refl _ _).drew) hnl1)
  have X1 := hid hX1
  have W0 := hid (KV.of p ve1 (Below.refl w1.heap.size w1).drew)
  have FIN := hid (show ∀ e w2, PostM p cf.allowed n d w1.drew.heap.size ve1 (fun x => .returned (.int .u32 x)) (exprB cf (evl cf k) d (bareF fb) ⟨t, 7, a2, a3, a4, a5⟩ kids m1) w1.drew e w2 → R e w2 from fun e w2 h => by
   rw [HR.out, hh.out]
   exact h.chain (V1.out.trans W0.out).k (V1.out.trans W0.out).v (V1.out.trans W0.out).size)
  clear hX1 hx hkw hv hv1 hnl ha hOk hRg hal hX hB0 hw hh9
  go_wp2_with fail
  refine wp_region_held_drew (S := (fun w9 => Kpt (p.TE ve1) w1.heap.size w1 w9 ∧ w9.cell? ⟨p.M, 10, none⟩ = some (.map (some p.kb)))) (by kernel_rfl) ⟨W0.out.k, cell_on b10 (Below.refl _ _).drew⟩ (fun hHeld => ?_)
  refine tk 0 ?_
  refine tk 1 ?_
  refine tk 2 ?_
  refine tk 3 ?_ (hy := by intro w' hSw; have q1 := hSw.2; go_simp; (try with_reducible rfl))
  refine tk 4 ?_
  refine tk 5 ?_ (hy := by intro w' hSw; have q1 := hSw.1.at e1 NE.out; go_simp; (try with_reducible rfl))
  refine tk 6 ?_ (hy := by intro w' hSw; have q1 := hkv.out _ hSw.1; go_simp; (try with_reducible rfl))
  refine tk 7 ?_
  refine tk 8 ?_ (hy := by intro w' hSw; have q0 := hSw.1.at e0 NE.out; have q1 := hSw.1.at e1 NE.out; have q2 := hSw.1.at e2 NE.out; have q3 := hSw.1.at e3 NE.out; have q4 := hSw.1.at e4 NE.out; have q5 := hSw.1.at e5 NE.out; have q6 := hSw.1.at e6 NE.out; go_simp; (try with_reducible rfl))
  refine tr 9 fun K hK => ?_
  go_simp
  refine cx.out.mono ?_
  intro e w2 hp
  have HP := hid hp
  cases ho : exprB cf (evl cf k) d (bareF fb) ⟨t, 7, a2, a3, a4, a5⟩ kids m1 with
  | lost => exact absurd ho hnl1
  | stop a b m2 =>
   rw [ho] at hp
   obtain ⟨rfl, -⟩ := hp
   have FF := hid (FIN.out _ _ HP.out)
   clear cx FIN hHeld hK HP ho hnl1
   go_wp2_with fail
   refine bp_panic ?_
   exact FF.out
  | ok x m2 =>
   rw [ho] at hp
   obtain ⟨rfl, ve2, hM2, hK2, hV2⟩ := hp
   have FF := hid (FIN.out _ _ HP.out)
   obtain ⟨en2, vx2, fa2, hb2⟩ := hM2.box
   have hk := hid (show (fun w9 => Kpt (p.TE ve1) w1.heap.size w1 w9 ∧ w9.cell? ⟨p.M, 10, none⟩ = some (.map (some p.kb))) w2 from ⟨(W0.out.trans ⟨hK2, hV2⟩).k, by simpa using hb2.cell 10⟩)
   clear cx FIN hHeld HP hM2 hK2 hV2 hb2 ho hnl1
   go_wp2_with fail
   refine hK.out _ _ hk.out (fun hHeld => ?_)
   clear hK K
   try simp only [tpa, tpb, tpc, tpd, tpe]
   refine tk 10 ?_
   refine td ?_
   go_wp2_with fail
   exact FF.out
 ·have hkv := hid (show ∀ w9, Kpt (p.TE ve1) w1.heap.size w1 w9 → (Instr.lookup 117 (.map (some p.kb)) (.int .u8 8) false).run Tryz.prog w9 = .ok (.func (.func 83) #[] #[.pointer (some ⟨p.kc, 0, none⟩)]) w9 from fun w9 hk => by
  obtain ⟨es, c9, q1, q2⟩ := hX1.c.st.kinds
  exact (MpI.at ⟨es, c9, q1, q2⟩ (hk.block _ hX1.c.st.kinds.lt (hX1.c.me.notMap q1))).lookup Tryz.underlying117 under132 8 _ rfl)
  have cx := hid (cast83 p cf u n shp k d m1 ve1 F fb g cap ms t a2 a3 a4 a5 kids (.slice ka kids.len kc) ty w1.drew ha HE ⟨hx.ok, hx.kids, hx.ty⟩ hkw hv1 (hX1.below (Below.refl _ _).drew) hnl1)
  have X1 := hid hX1
  have W0 := hid (KV.of p ve1 (Below.refl w1.heap.size w1).drew)
  have FIN := hid (show ∀ e w2, PostM p cf.allowed n d w1.drew.heap.size ve1 (fun x => .returned (.int .u32 x)) (exprB cf (evl cf k) d (bareF fb) ⟨t, 8, a2, a3, a4, a5⟩ kids m1) w1.drew e w2 → R e w2 from fun e w2 h => by
   rw [HR.out, hh.out]
   exact h.chain (V1.out.trans W0.out).k (V1.out.trans W0.out).v (V1.out.trans W0.out).size)
  clear hX1 hx hkw hv hv1 hnl ha hOk hRg hal hX hB0 hw hh9
  go_wp2_with fail
  refine wp_region_held_drew (S := (fun w9 => Kpt (p.TE ve1) w1.heap.size w1 w9 ∧ w9.cell? ⟨p.M, 10, none⟩ = some (.map (some p.kb)))) (by kernel_rfl) ⟨W0.out.k, cell_on b10 (Below.refl _ _).drew⟩ (fun hHeld => ?_)
  refine tk 0 ?_
  refine tk 1 ?_
  refine tk 2 ?_
  refine tk 3 ?_ (hy := by intro w' hSw; have q1 := hSw.2; go_simp; (try with_reducible rfl))
  refine tk 4 ?_
  refine tk 5 ?_ (hy := by intro w' hSw; have q1 := hSw.1.at e1 NE.out; go_simp; (try with_reducible rfl))
  refine tk 6 ?_ (hy := by intro w' hSw; have q1 := hkv.out _ hSw.1; go_simp; (try with_reducible rfl))
  refine tk 7 ?_
  refine tk 8 ?_ (hy := by intro w' hSw; have q0 := hSw.1.at e0 NE.out; have q1 := hSw.1.at e1 NE.out; have q2 := hSw.1.at e2 NE.out; have q3 := hSw.1.at e3 NE.out; have q4 := hSw.1.at e4 NE.out; have q5 := hSw.1.at e5 NE.out; have q6 := hSw.1.at e6 NE.out; go_simp; (try with_reducible rfl))
  refine tr 9 fun K hK => ?_
  go_simp
  refine cx.out.mono ?_
  intro e w2 hp
  have HP := hid hp
  cases ho : exprB cf (evl cf k) d (bareF fb) ⟨t, 8, a2, a3, a4, a5⟩ kids m1 with
  | lost => exact absurd ho hnl1
  | stop a b m2 =>
   rw [ho] at hp
   obtain ⟨rfl, -⟩ := hp
   have FF := hid (FIN.out _ _ HP.out)
   clear cx FIN hHeld hK HP ho hnl1
   go_wp2_with fail
   refine bp_panic ?_
   exact FF.out
  | ok x m2 =>
   rw [ho] at hp
   obtain ⟨rfl, ve2, hM2, hK2, hV2⟩ := hp
   have FF := hid (FIN.out _ _ HP.out)
   obtain ⟨en2, vx2, fa2, hb2⟩ := hM2.box
   have hk := hid (show (fun w9 => Kpt (p.TE ve1) w1.heap.size w1 w9 ∧ w9.cell? ⟨p.M, 10, none⟩ = some (.map (some p.kb))) w2 from ⟨(W0.out.trans ⟨hK2, hV2⟩).k, by simpa using hb2.cell 10⟩)
   clear cx FIN hHeld HP hM2 hK2 hV2 hb2 ho hnl1
   go_wp2_with fail
   refine hK.out _ _ hk.out (fun hHeld => ?_)
   clear hK K
   try simp only [tpa, tpb, tpc, tpd, tpe]
   refine tk 10 ?_
   refine td ?_
   go_wp2_with fail
   exact FF.out
end
section
open Go.Shelf
def PostS (p : Pt) (cf : Cf) (u : UT) (n : Nat) (shp : List Nat) (d F : Nat) (ve : EvS) (old : Nat → Prop) {α : Type} (P : α → Prop) (fr : α → Fr) (f : α → Ending) (o : Out α) (w : World) (e : Ending) (w' : World) : Prop := match o with
 | .ok x m => e = f x ∧ P x ∧ ∃ ve' fb' g' cap' ms', bareF fb' = fr x ∧ CtX p cf u n shp d m ve' F fb' g' cap' ms' w' ∧ KS p ve ve' old (FS F g' ms' fb') w w'
 | .stop x y m => e = endE x y ∧ ∃ ve' d', MeR p cf.allowed n d' m ve' w' ∧ KS p ve ve' old (fun _ => False) w w'
 | .lost => True
theorem KS.weak {p : Pt} {ve ve1 : EvS} {old new : Nat → Prop} {w w1 : World} (h : KS p ve ve1 old new w w1) : KS p ve ve1 old (fun _ => False) w w1 := ⟨h.k, h.v, fun _ h => h.elim⟩
section
variable {p : Pt} {cf : Cf} {u : UT} {n : Nat} {shp : List Nat} {d : Nat} {m : MS} {ve : EvS} {F : Nat} {fb : List BSc} {g cap : Nat} {ms : List Nat} {w w' : World}
theorem finS_ok {α : Type} {P : α → Prop} {fr : α → Fr} {f : α → Ending} {x : α} {old : Nat → Prop} {e : Ending} {ve0 : EvS} {w0 : World} (hX : CtX p cf u n shp d m ve F fb g cap ms w) (hb : bareF fb = fr x) (hP : P x) (hK : KS p ve0 ve old (FS F g ms fb) w0 w) (he : e = f x) : PostS p cf u n shp d F ve0 old P fr f (.ok x m) w0 e w :=
 ⟨he, hP, ve, fb, g, cap, ms, hb, hX, hK⟩
theorem finS_stop {α : Type} {P : α → Prop} {fr : α → Fr} {f : α → Ending} {x y : Int} {old new : Nat → Prop} {e : Ending} {ve0 : EvS} {w0 : World} {d' : Nat} (hM : MeR p cf.allowed n d' m ve w) (hK : KS p ve0 ve old new w0 w) (he : e = endE x y) : PostS p cf u n shp d F ve0 old P fr f (.stop x y m) w0 e w :=
 ⟨he, ve, d', hM, hK.weak⟩
theorem PostS.chain {α : Type} {P : α → Prop} {fr : α → Fr} {f : α → Ending} {o : Out α} {old mid : Nat → Prop} {e : Ending} {ve0 ve1 : EvS} {w0 w1 w2 : World} (hK : KS p ve0 ve1 old mid w0 w1) (h : PostS p cf u n shp d F ve1 mid P fr f o w1 e w2) : PostS p cf u n shp d F ve0 old P fr f o w0 e w2 := by
 cases o with
 | ok x m =>
  obtain ⟨h1, h2, ve', fb', g', cap', ms', h3, h4, h5⟩ := h
  exact ⟨h1, h2, ve', fb', g', cap', ms', h3, h4, hK.trans h5⟩
 | stop x y m =>
  obtain ⟨h1, ve', d', h2, h3⟩ := h
  exact ⟨h1, ve', d', h2, hK.trans h3⟩
 | lost => trivial
def Plc (p : Pt) (cf : Cf) (fb : List BSc) (s : ByteArray) (b : Nat) : Prop :=
 (∃ x, seesB s fb = some x ∧ b = x.2) ∨ (seesB s fb = none ∧ ∃ (i : Nat) (hi : i < p.xs.length), placeOf cf s = i ∧ b = rowB p.xs[i] ∧ p.xs[i].ownBlock = some b)
theorem CtX.placed (hX : CtX p cf u n shp d m ve F fb g cap ms w) {s : ByteArray} {b : Nat} (hb : Plc p cf fb s b) : w.cell? ⟨b, 0, none⟩ = some (.int .u32 (readV cf (bareF fb) m s).2) ∧ w.frozen? ⟨b, 0, none⟩ = false := by
 unfold readV
 rw [seesB_bare]
 rcases hb with ⟨x, q1, rfl⟩ | ⟨q1, i, hi, hp, rfl, hob⟩
 ·rw [q1]
  obtain ⟨sc, r1, r2⟩ := seesB_mem q1
  have hb := hX.c.fr.boxes sc r1 _ r2
  exact ⟨by simpa using hb.cell 0, hb.free 0⟩
 ·rw [q1]
  have hi2 : i < m.held.length := by have := hX.c.me.len; omega
  have hw := hX.c.me.words i hi hi2
  have hl0 := (hX.c.pos _ (List.getElem_mem hi2)).1
  obtain ⟨gx, cx, e1, k1, k2⟩ := row_shape hw hl0
  have hr : rowB p.xs[i] = gx := by rw [e1]; rfl
  obtain ⟨cs, hbx⟩ := row_block hw hob
  refine ⟨?_, hbx.free 0⟩
  rw [hr]
  have hw2 := hw
  rw [e1] at hw2
  have := hw2.cellAt 0 (by omega)
  rw [this]
  simp only [Option.map_none, wordsAt, hp, List.getD_eq_getElem?_getD, List.getElem?_eq_getElem hi2, Option.getD_some]
  simp [hl0]
theorem CtX.write (hX : CtX p cf u n shp d m ve F fb g cap ms w) {s : ByteArray} {b : Nat} (hb : Plc p cf fb s b) {v : Int} (hv : U v) :
  ∃ fb', bareF fb' = (writeV cf (bareF fb) m s v).1 ∧ CtX p cf u n shp d (writeV cf (bareF fb) m s v).2 ve F fb' g cap ms (w.setCell ⟨b, 0, none⟩ (.int .u32 v)) ∧ KS p ve ve (FS F g ms fb) (FS F g ms fb') w (w.setCell ⟨b, 0, none⟩ (.int .u32 v)) := by
 unfold writeV
 rw [seesB_bare]
 rcases hb with ⟨x, q1, rfl⟩ | ⟨q1, i, hi, hp, -, hob⟩
 ·rw [q1]
  obtain ⟨h1, h2⟩ := hX.setL q1 hv
  exact ⟨setB s v fb, setB_bare s v fb, h1, h2⟩
 ·rw [q1]
  obtain ⟨h1, h2⟩ := hX.setW (s := s) hi hp hob 0 hv
  exact ⟨fb, rfl, h1, h2.ks _⟩
theorem CtX.wordP (hX : CtX p cf u n shp d m ve F fb g cap ms w) {s : ByteArray} {ty : Int} (ht : varT cf.vs (tysF fb) s = .ok ty) :
  ∃ b, Plc p cf fb s b ∧ (readV cf (bareF fb) m s).1 = ty ∧
   Calls Tryz.prog 76 #[.pointer (some ⟨p.M, 0, none⟩), .pointer (some ⟨F, 0, none⟩), .string s] w fun e w' => e = .returned (.tuple #[.pointer (some ⟨b, 0, none⟩), .int .u8 ty]) ∧ Below w.heap.size w w' := by
 obtain ⟨b, ⟨r1, -, -, r4⟩, c⟩ := hX.word ht
 exact ⟨b, r4, r1, c⟩
theorem CtX.elem (hX : CtX p cf u n shp d m ve F fb g cap ms w) {s : ByteArray} {t ln : Int} (hv : getM s cf.vs = some (t, ln)) :
  ∃ (i gx : Nat) (hi : i < p.xs.length) (hi2 : i < m.held.length), getM s cf.pl = some (i : Int) ∧ placeOf cf s = i ∧ p.xs[i].ownBlock = some gx ∧ rowB p.xs[i] = gx ∧ wordsAt cf m s = m.held[i] := by
 obtain ⟨i, hp, hi⟩ := hX.c.st.pl s _ hv
 have hi2 : i < m.held.length := by have := hX.c.me.len; omega
 have hpl : placeOf cf s = i := by unfold placeOf; rw [hp]; rfl
 obtain ⟨gx, cx, e1, -, -⟩ := row_shape (hX.c.me.words i hi hi2) (hX.c.pos _ (List.getElem_mem hi2)).1
 exact ⟨i, gx, hi, hi2, hp, hpl, by rw [e1]; rfl, by rw [e1]; rfl, by unfold wordsAt; rw [hpl, List.getD_eq_getElem?_getD, List.getElem?_eq_getElem hi2]; rfl⟩
theorem CtX.elemCell (hX : CtX p cf u n shp d m ve F fb g cap ms w) {i gx : Nat} (hi : i < p.xs.length) (hi2 : i < m.held.length) (hb : p.xs[i].ownBlock = some gx) (j : Nat) (hj : j < m.held[i].length) : w.cell? ⟨gx, j, none⟩ = some (.int .u32 m.held[i][j]) ∧ w.frozen? ⟨gx, j, none⟩ = false := by
 have hw := hX.c.me.words i hi hi2
 obtain ⟨cs, hbx⟩ := row_block hw hb
 refine ⟨?_, hbx.free j⟩
 obtain ⟨gx', cx, e1, -, -⟩ := row_shape hw (by omega)
 have : gx' = gx := by rw [e1] at hb; simpa [Value.ownBlock] using hb
 subst this
 rw [e1] at hw
 have := hw.cellAt j (by omega)
 rw [this]
 simp [hj]
end
theorem KS.kk {p : Pt} {ve ve1 : EvS} {old new : Nat → Prop} {w w1 : World} (h : KS p ve ve1 old new w w1) : Kpt (fun b => p.TE ve b ∨ old b) w.heap.size w w1 := h.k
theorem CtX.oldKS {p : Pt} {cf : Cf} {u : UT} {n : Nat} {shp : List Nat} {d : Nat} {m : MS} {ve : EvS} {F : Nat} {fb : List BSc} {g cap : Nat} {ms : List Nat} {w w' : World} (hX : CtX p cf u n shp d m ve F fb g cap ms w) (hk : Kpt (fun b => p.TE ve b ∨ FS F g ms fb b) w.heap.size w w') : Cells (onlyW w (oldB p.B)) (onlyW w' (oldB p.B)) :=
 (hk.mono hX.c.me.size (U := p.TE ve) fun b hb q => q.elim id fun q => by have := (hX.c.fr.fs q).1; omega).cells fun b hb => ⟨by have := hX.c.st.Bn; simp at hb; omega, hX.c.me.old hX.c.st.M hX.c.st.Bn (by simpa using hb)⟩
theorem CtX.boxKS {p : Pt} {cf : Cf} {u : UT} {n : Nat} {shp : List Nat} {d : Nat} {m : MS} {ve : EvS} {F : Nat} {fb : List BSc} {g cap : Nat} {ms : List Nat} {w w' : World} (hX : CtX p cf u n shp d m ve F fb g cap ms w) (hk : Kpt (fun b => p.TE ve b ∨ FS F g ms fb b) w.heap.size w w') {q : Nat} {cs : Array Value} {t : TypeId} (hb : Bx w q cs t) (h1 : t ≠ 119 ∧ t ≠ 52 ∧ t ≠ 127) (h2 : t ≠ 213 ∧ t ≠ 210 ∧ t ≠ 201) : Bx w' q cs t := by
 refine hk.box hb hb.lt ?_
 rintro (q1 | q1)
 ·exact hX.c.me.notBox hb h1.1 h1.2.1 h1.2.2 q1
 ·rcases q1 with rfl | rfl | q1 | ⟨y, hy, rfl⟩
  ·exact hb.ne_box hX.c.fr.box h2.1 rfl
  ·obtain ⟨cs2, hc⟩ := row_block hX.c.fr.row (b := q) rfl
   exact hb.ne_box hc h2.2.1 rfl
  ·obtain ⟨i, hi, rfl⟩ := List.getElem_of_mem q1
   exact hb.not_map (hX.c.fr.maps i hi (by have := hX.c.fr.len; omega)) rfl
  ·exact hb.ne_box (hX.c.fr.flat hy).1 h2.2.2 rfl
end
end Go.Proofs.YtlabadkfkbenoaaGreatDoor
