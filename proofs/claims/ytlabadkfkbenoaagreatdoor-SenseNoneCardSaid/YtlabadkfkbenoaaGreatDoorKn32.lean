/- Walks and plain laws, merged: IntL. No condition. -/
import Derived.Outline
import Derived.Deep.RegionHeld3
import Derived.Test.YtlabadkfkbenoaaGreatDoorKn01
import Derived.Test.YtlabadkfkbenoaaGreatDoorKn31
namespace Go.Proofs.YtlabadkfkbenoaaGreatDoor
open Go.RowKit
set_option linter.unusedVariables false
set_option linter.unusedSimpArgs false
set_option maxRecDepth 100000
section
open Go.Shelf
theorem exprB_1 {cf : Cf} {ev : Evl} {d : Nat} {fr : Fr} {a0 a2 a3 : Int} {a4 a5 : ByteArray} {k : Exs} {m : MS} : exprB cf ev d fr ⟨a0, 1, a2, a3, a4, a5⟩ k m = .ok a2 m := by
 unfold exprB
 exact if_pos (show (1 : Int) = 1 ∨ (1 : Int) = 2 by decide)
theorem exprB_2 {cf : Cf} {ev : Evl} {d : Nat} {fr : Fr} {a0 a2 a3 : Int} {a4 a5 : ByteArray} {k : Exs} {m : MS} : exprB cf ev d fr ⟨a0, 2, a2, a3, a4, a5⟩ k m = .ok a2 m := by
 unfold exprB
 exact if_pos (show (2 : Int) = 1 ∨ (2 : Int) = 2 by decide)
theorem exprB_3 {cf : Cf} {ev : Evl} {d : Nat} {fr : Fr} {a0 a2 a3 : Int} {a4 a5 : ByteArray} {k : Exs} {m : MS} : exprB cf ev d fr ⟨a0, 3, a2, a3, a4, a5⟩ k m = .ok (readV cf fr m a4).2 m := by
 unfold exprB
 exact (if_neg (show ¬ ((3 : Int) = 1 ∨ (3 : Int) = 2) by decide)).trans (if_pos (show (3 : Int) = 3 by decide))
theorem exprB_4 {cf : Cf} {ev : Evl} {d : Nat} {fr : Fr} {a0 a2 a3 : Int} {a4 a5 : ByteArray} {k : Exs} {m : MS} : exprB cf ev d fr ⟨a0, 4, a2, a3, a4, a5⟩ k m = (evK ev d fr k 0 m).bind fun i m => match (wordsAt cf m a4)[i.toNat]? with
  | some x => .ok x m
  | none => .stop 2 1 m := by
 unfold exprB
 exact (if_neg (show ¬ ((4 : Int) = 1 ∨ (4 : Int) = 2) by decide)).trans ((if_neg (show ¬ ((4 : Int) = 3) by decide)).trans (if_pos (show (4 : Int) = 4 by decide)))
theorem exprB_5 {cf : Cf} {ev : Evl} {d : Nat} {fr : Fr} {a0 a2 a3 : Int} {a4 a5 : ByteArray} {k : Exs} {m : MS} : exprB cf ev d fr ⟨a0, 5, a2, a3, a4, a5⟩ k m = (evArgs ev d fr k m).bind fun args m => match getM a4 cf.cs with
  | none => .lost
  | some g => if g.host < 0 then ev.F d g args m else hostV cf g args m := by
 unfold exprB
 exact (if_neg (show ¬ ((5 : Int) = 1 ∨ (5 : Int) = 2) by decide)).trans ((if_neg (show ¬ ((5 : Int) = 3) by decide)).trans ((if_neg (show ¬ ((5 : Int) = 4) by decide)).trans (if_pos (show (5 : Int) = 5 by decide))))
theorem exprB_6 {cf : Cf} {ev : Evl} {d : Nat} {fr : Fr} {a0 a2 a3 : Int} {a4 a5 : ByteArray} {k : Exs} {m : MS} : exprB cf ev d fr ⟨a0, 6, a2, a3, a4, a5⟩ k m = (evK ev d fr k 0 m).bind fun v m =>
  if a5.toList == [126] then .ok (cf.alu.U 49 v) m
  else if a5.toList == [33] then .ok (truth (v == 0)) m
  else if typK cf fr k 0 = 2 then .ok (cf.alu.U 53 v) m else .ok (cf.alu.U 38 v) m := by
 unfold exprB
 exact (if_neg (show ¬ ((6 : Int) = 1 ∨ (6 : Int) = 2) by decide)).trans ((if_neg (show ¬ ((6 : Int) = 3) by decide)).trans ((if_neg (show ¬ ((6 : Int) = 4) by decide)).trans ((if_neg (show ¬ ((6 : Int) = 5) by decide)).trans (if_pos (show (6 : Int) = 6 by decide)))))
theorem exprB_7 {cf : Cf} {ev : Evl} {d : Nat} {fr : Fr} {a0 a2 a3 : Int} {a4 a5 : ByteArray} {k : Exs} {m : MS} : exprB cf ev d fr ⟨a0, 7, a2, a3, a4, a5⟩ k m = (evK ev d fr k 0 m).bind fun a m =>
  if a5.toList == [38, 38] && a == 0 then .ok 0 m
  else if a5.toList == [124, 124] && a != 0 then .ok 1 m
  else (evK ev d fr k 1 m).bind fun b m =>
   if a5.toList == [38, 38] || a5.toList == [124, 124] then .ok (truth (b != 0)) m
   else match workedV cf.alu a5 (typK cf fr k 0) a b with
    | some x => .ok x m
    | none => .stop 2 2 m := by
 unfold exprB
 exact (if_neg (show ¬ ((7 : Int) = 1 ∨ (7 : Int) = 2) by decide)).trans ((if_neg (show ¬ ((7 : Int) = 3) by decide)).trans ((if_neg (show ¬ ((7 : Int) = 4) by decide)).trans ((if_neg (show ¬ ((7 : Int) = 5) by decide)).trans ((if_neg (show ¬ ((7 : Int) = 6) by decide)).trans (if_pos (show (7 : Int) = 7 by decide))))))
theorem exprB_8 {cf : Cf} {ev : Evl} {d : Nat} {fr : Fr} {a0 a2 a3 : Int} {a4 a5 : ByteArray} {k : Exs} {m : MS} : exprB cf ev d fr ⟨a0, 8, a2, a3, a4, a5⟩ k m = (evK ev d fr k 0 m).bind fun v m =>
  if typK cf fr k 0 = a3 then .ok v m else if a3 = 1 then .ok (cf.alu.U 59 v) m else .ok (cf.alu.U 58 v) m := by
 unfold exprB
 exact (if_neg (show ¬ ((8 : Int) = 1 ∨ (8 : Int) = 2) by decide)).trans ((if_neg (show ¬ ((8 : Int) = 3) by decide)).trans ((if_neg (show ¬ ((8 : Int) = 4) by decide)).trans ((if_neg (show ¬ ((8 : Int) = 5) by decide)).trans ((if_neg (show ¬ ((8 : Int) = 6) by decide)).trans ((if_neg (show ¬ ((8 : Int) = 7) by decide)).trans (if_pos (show (8 : Int) = 8 by decide)))))))
set_option maxHeartbeats 4000000 in
theorem lit74 (F : Nat) (a0 a1 a2 a3 : Int) (a4 a5 : ByteArray) (ka : Option Addr) (len kc : Nat) (w : World) :
  Calls Tryz.prog 74 #[.pointer (some ⟨F, 0, none⟩), .agg #[.int .i64 a0, .int .u8 a1, .int .u32 a2, .int .u8 a3, .string a4, .string a5, .slice ka len kc]] w fun e w' => e = .returned (.int .u32 a2) ∧ Below w.heap.size w w' := by
 have hB := hid ((Below.refl w.heap.size w).alloc (Nat.le_refl _) (.cells #[.int .i64 a0, .int .u8 a1, .int .u32 a2, .int .u8 a3, .string a4, .string a5, .slice ka len kc] 134))
 go_enter Tryz.func74, Tryz.ntmps74
 go_wp2_with fail
 go_ret
 exact ⟨rfl, hB.out⟩
set_option maxHeartbeats 8000000 in
theorem name75 (p : Pt) (cf : Cf) (u : UT) (n : Nat) (shp : List Nat) (k d : Nat) (m : MS) (ve : EvS) (F : Nat) (fb : List BSc) (g cap : Nat) (ms : List Nat) (a0 a2 a3 : Int) (a4 a5 : ByteArray) (kids : Exs) (v : Value) (ty : Int) (w : World) (HE : Hid (WEx p cf u n shp k)) (hx : XT cf (tysF fb) ⟨a0, 3, a2, a3, a4, a5⟩ kids ty) (hkw : kids.Wf) (hv : SlE (onlyW w (oldB p.B)) false none kids v) (hX : CtX p cf u n shp d m ve F fb g cap ms w) (hnl : exprB cf (evl cf k) d (bareF fb) ⟨a0, 3, a2, a3, a4, a5⟩ kids m ≠ .lost) :
  Calls Tryz.prog 75 #[.pointer (some ⟨F, 0, none⟩), aggE a0 ⟨a0, 3, a2, a3, a4, a5⟩ v, .pointer (some ⟨p.kc, 0, none⟩)] w (PostM p cf.allowed n d w.heap.size ve (fun x => .returned (.int .u32 x)) (exprB cf (evl cf k) d (bareF fb) ⟨a0, 3, a2, a3, a4, a5⟩ kids m) w) := by
 obtain ⟨ka, kc, rfl⟩ := hv.shape'
 obtain ⟨ks, hks, hty⟩ := hx.kinds
 have hn := okH_n hx.ok
 obtain ⟨R, hR⟩ : ∃ x, x = (PostM p cf.allowed n d w.heap.size ve (fun x => .returned (.int .u32 x)) (exprB cf (evl cf k) d (bareF fb) ⟨a0, 3, a2, a3, a4, a5⟩ kids m) w) := ⟨_, rfl⟩
 rw [← hR]
 have HR := hid hR
 clear hR
 simp only [] at hn ⊢
 have hvt : varT cf.vs (tysF fb) a4 = .ok ty := by simpa [tyH] using hty
 obtain ⟨len, hlen⟩ : ∃ q, q = kids.len := ⟨_, rfl⟩
 rw [← hlen] at hv hn ⊢
 have hB0 := (Below.refl w.heap.size w).alloc (Nat.le_refl _) (.cells #[.int .i64 a0, .int .u8 3, .int .u32 a2, .int .u8 a3, .string a4, .string a5, .slice ka len kc] 134)
 have hX0 := hX.below hB0
 have hb0 := Bx.new w #[.int .i64 a0, .int .u8 3, .int .u32 a2, .int .u8 a3, .string a4, .string a5, .slice ka len kc] 134
 obtain ⟨b, ⟨r1, r2, r3, -⟩, cx⟩ := hX0.word hvt
 have CX := hid cx
 have EK := hid (show _ = _ from hX0.c.boxcell (i := 0) (Kpt.refl _ _ _) hX0.c.st.kbox (by decide) (by decide) (by decide))
 have HX := hid hX0
 have HB := hid hB0
 have RB := hid r2
 have e := EK.out
 simp at e
 clear hv hx hnl hX hX0 cx hb0 hB0 r1 r2 r3 hks hty hn hvt HE hlen
 go_enter Tryz.func75, Tryz.ntmps75
 go_wp2_with fail
 refine CX.out.mono ?_
 rintro e w2 ⟨rfl, hb2⟩
 have rb := cell_on RB.out hb2
 have H2 := hid hb2
 clear hb2 CX
 go_wp2_with fail
 rw [HR.out, exprB_3]
 exact fin_ok (HX.out.below H2.out) (KV.of p ve (HB.out.trans (H2.out.mono HB.out.size))) rfl
set_option maxHeartbeats 16000000 in
theorem index77 (p : Pt) (cf : Cf) (u : UT) (n : Nat) (shp : List Nat) (k d : Nat) (m : MS) (ve : EvS) (F : Nat) (fb : List BSc) (g cap : Nat) (ms : List Nat) (a0 a2 a3 : Int) (a4 a5 : ByteArray) (kids : Exs) (v : Value) (ty : Int) (w : World) (HE : Hid (WEx p cf u n shp k)) (hx : XT cf (tysF fb) ⟨a0, 4, a2, a3, a4, a5⟩ kids ty) (hkw : kids.Wf) (hv : SlE (onlyW w (oldB p.B)) false none kids v) (hX : CtX p cf u n shp d m ve F fb g cap ms w) (hnl : exprB cf (evl cf k) d (bareF fb) ⟨a0, 4, a2, a3, a4, a5⟩ kids m ≠ .lost) :
  Calls Tryz.prog 77 #[.pointer (some ⟨F, 0, none⟩), aggE a0 ⟨a0, 4, a2, a3, a4, a5⟩ v, .pointer (some ⟨p.kc, 0, none⟩)] w (PostM p cf.allowed n d w.heap.size ve (fun x => .returned (.int .u32 x)) (exprB cf (evl cf k) d (bareF fb) ⟨a0, 4, a2, a3, a4, a5⟩ kids m) w) := by
 obtain ⟨ka, kc, rfl⟩ := hv.shape'
 obtain ⟨ks, hks, hty⟩ := hx.kinds
 have hn := okH_n hx.ok
 obtain ⟨R, hR⟩ : ∃ x, x = (PostM p cf.allowed n d w.heap.size ve (fun x => .returned (.int .u32 x)) (exprB cf (evl cf k) d (bareF fb) ⟨a0, 4, a2, a3, a4, a5⟩ kids m) w) := ⟨_, rfl⟩
 rw [← hR]
 have HR := hid hR
 clear hR
 simp only [] at hn ⊢
 obtain ⟨ln, hvs, -⟩ := tyH_4 hty
 have hl : kids.len = 1 := hn.2.1 (by trivial)
 obtain ⟨len, hlen⟩ : ∃ q, q = kids.len := ⟨_, rfl⟩
 rw [← hlen] at hv hl hn ⊢
 have hl0 : 0 < len := by omega
 obtain ⟨b0, o0, t0, xa0, xc0, k0, hk0, hka0, hr0, hs0⟩ := hv.kidW (w' := w) 0 (by omega)
 obtain ⟨ty0, hx0, hy0⟩ := tyE_xt hx.kids hks 0 k0 hk0
 have hw0 := Exs.wf_at hkw 0 k0 hk0
 have hk0 := hid hk0
 subst hka0
 have hB0 := (Below.refl w.heap.size w).alloc (Nat.le_refl _) (.cells #[.int .i64 a0, .int .u8 4, .int .u32 a2, .int .u8 a3, .string a4, .string a5, .slice (some ⟨b0, o0, none⟩) len kc] 134)
 have hX0 := hX.below hB0
 have hb0 := Bx.new w #[.int .i64 a0, .int .u8 4, .int .u32 a2, .int .u8 a3, .string a4, .string a5, .slice (some ⟨b0, o0, none⟩) len kc] 134
 clear hl hlen hn
 go_enter Tryz.func77, Tryz.ntmps77
 go_wp2_with fail
 generalize w.alloc (.cells #[.int .i64 a0, .int .u8 4, .int .u32 a2, .int .u8 a3, .string a4, .string a5, .slice (some ⟨b0, o0, none⟩) len kc] 134) = w0 at hX0 hb0 hB0 ⊢
 have K0 : Hid (∀ w', Kpt (p.TE ve) w0.heap.size w0 w' → KidR w' b0 (o0) t0 k0 (.slice xa0 k0.2.len xc0)) := hid fun w' hk => by
  have h := ((hr0.sub (cells_old_below hB0)).sub (hX0.c.cells hk)).sub (cells_only _ _)
  simpa only [Nat.zero_mul, Nat.add_zero, Nat.one_mul] using h
 have E4 : Hid (∀ w', Kpt (p.TE ve) w0.heap.size w0 w' → w'.cell? ⟨w.heap.size, 4, none⟩ = some (.string a4)) := hid fun w' hk => by simpa using hX0.c.boxcell (i := 4) hk hb0 (by decide) (by decide) (by decide)
 have E6 : Hid (∀ w', Kpt (p.TE ve) w0.heap.size w0 w' → w'.cell? ⟨w.heap.size, 6, none⟩ = some (.slice (some ⟨b0, o0, none⟩) len kc)) := hid fun w' hk => by simpa using hX0.c.boxcell (i := 6) hk hb0 (by decide) (by decide) (by decide)
 have EK : Hid (∀ w', Kpt (p.TE ve) w0.heap.size w0 w' → w'.cell? ⟨p.kc, 0, none⟩ = some (.pointer (some ⟨p.M, 0, none⟩))) := hid fun w' hk => by simpa using hX0.c.boxcell (i := 0) hk hX0.c.st.kbox (by decide) (by decide) (by decide)
 have DR := hid ((KV.of p ve hB0).below (Below.refl w0.heap.size w0).drew)
 have W0 := hid (KV.of p ve (Below.refl w0.heap.size w0).drew)
 have hh := hid (show exprB cf (evl cf k) d (bareF fb) ⟨a0, 4, a2, a3, a4, a5⟩ kids m = _ by rw [exprB_4, evK_at hk0.out])
 have hnl0 : (evl cf k).E d (bareF fb) k0.1 k0.2 m ≠ .lost := Out.of_bind (f := fun i m => match (wordsAt cf m a4)[i.toNat]? with
   | some x => .ok x m
   | none => .stop 2 1 m) (by rw [← hh.out]; exact hnl)
 have cx := hid (HE.out d m ve F fb g cap ms t0 k0.1 k0.2 _ ty0 w0.drew hx0 hw0.1 hw0.2 (hs0.sub (cells_old_below (hB0.trans ((Below.refl w0.heap.size w0).drew.mono hB0.size)))) (hX0.below (Below.refl _ _).drew) hnl0)
 obtain ⟨⟨c0, c1, c2, c3, c4, c5⟩, kk⟩ := k0
 clear hx hkw hv hr0 hs0 hx0 hy0 hw0 hty hks hnl HE hX0 hb0 hB0
 refine wp_region_held_drew (S := (Kpt (p.TE ve) w0.heap.size w0)) (by kernel_rfl) (Kpt.of (Below.refl _ _).drew) (fun hHeld => ?_)
 refine tk 0 ?_ (hy := ?_) (h := ?_)
 rotate_left
 ·intro w' hSw; have q := EK.out w' hSw; go_simp; (try with_reducible rfl)
 try simp only [tpa, tpb, tpc, tpd, tpe]
 refine tk 1 ?_ (hy := ?_) (h := ?_)
 rotate_left
 ·intro w' hSw; go_simp; (try with_reducible rfl)
 try simp only [tpa, tpb, tpc, tpd, tpe]
 refine tk 2 ?_ (hy := ?_) (h := ?_)
 rotate_left
 ·intro w' hSw; have q := E4.out w' hSw; go_simp; (try with_reducible rfl)
 try simp only [tpa, tpb, tpc, tpd, tpe]
 refine tk 3 ?_ (hy := ?_) (h := ?_)
 rotate_left
 ·intro w' hSw; have q := EK.out w' hSw; go_simp; (try with_reducible rfl)
 try simp only [tpa, tpb, tpc, tpd, tpe]
 refine tk 4 ?_ (hy := ?_) (h := ?_)
 rotate_left
 ·intro w' hSw; go_simp; (try with_reducible rfl)
 try simp only [tpa, tpb, tpc, tpd, tpe]
 refine tk 5 ?_ (hy := ?_) (h := ?_)
 rotate_left
 ·intro w' hSw; go_simp; (try with_reducible rfl)
 try simp only [tpa, tpb, tpc, tpd, tpe]
 refine tk 6 ?_ (hy := ?_) (h := ?_)
 rotate_left
 ·intro w' hSw; have q := E6.out w' hSw; go_simp; (try with_reducible rfl)
 try simp only [tpa, tpb, tpc, tpd, tpe]
 refine tk 7 ?_ (hy := ?_) (h := ?_)
 rotate_left
 ·intro w' hSw; go_simp; (try with_reducible rfl)
 try simp only [tpa, tpb, tpc, tpd, tpe]
 refine tk 8 ?_ (hy := ?_) (h := ?_)
 rotate_left
 ·intro w' hSw; obtain ⟨q0, q1, q2, q3, q4, q5, q6⟩ := K0.out w' hSw; go_simp; (try with_reducible rfl)
 try simp only [tpa, tpb, tpc, tpd, tpe]
 refine tr 9 (h := fun K hK => ?_)
 go_simp
 go_at_call 79
 cases ho : (evl cf k).E d (bareF fb) ⟨c0, c1, c2, c3, c4, c5⟩ kk m with
 | lost => exact absurd ho hnl0
 | stop a b m1 =>
  simp only [] at cx hh
  rw [ho] at cx hh
  have hh := hid (show _ = Out.stop a b m1 from hh.out)
  refine cx.out.mono ?_
  rintro e w1 ⟨rfl, ve1, d1, hM1, hV1⟩
  have F1 : Hid (PostM p cf.allowed n d w.heap.size ve (fun x => .returned (.int .u32 x)) (.stop a b m1) w (endE a b) w1) := hid (fin_stop hM1 (DR.out.trans hV1) rfl)
  clear hM1 hV1 cx hK hHeld
  go_wp2_with fail
  refine bp_panic ?_
  rw [HR.out, hh.out]
  exact F1.out
 | ok x m1 =>
  simp only [] at cx hh
  rw [ho] at cx hh
  have hh : Hid (exprB cf (evl cf k) d (bareF fb) ⟨a0, 4, a2, a3, a4, a5⟩ kids m = match (wordsAt cf m1 a4)[x.toNat]? with
   | some x => .ok x m1
   | none => .stop 2 1 m1) := hid hh.out
  obtain ⟨i, hp, hi⟩ := hX.c.st.pl a4 _ hvs
  have hpl : placeOf cf a4 = i := by unfold placeOf; rw [hp]; rfl
  refine cx.out.mono ?_
  rintro e w1 ⟨rfl, hU, ve1, hX1, hV1⟩
  have hi2 : i < m1.held.length := by have := hX1.c.me.len; omega
  have hwd : wordsAt cf m1 a4 = m1.held[i] := by unfold wordsAt; rw [hpl, List.getD_eq_getElem?_getD, List.getElem?_eq_getElem hi2]; rfl
  have hps := hX1.c.pos _ (List.getElem_mem hi2)
  have hwr := hX1.c.me.words i hi hi2
  have c78 := hid (element78 p cf u cf.allowed n d m1 ve1 a4 i x w1 hX1.c.st hX1.c.me hp hi hi2 hps.1 hps.2 hU)
  rw [hwd] at hh
  obtain ⟨gx, cx2, e1, -, -⟩ := row_shape hwr hps.1
  have hgx : rowB p.xs[i] = gx := by rw [e1]; rfl
  rw [hgx] at c78
  rw [e1] at hwr
  have hk := (W0.out.trans hV1).k
  have X1 := hid hX1
  have V1 := hid (DR.out.trans hV1)
  have V1w := hid (W0.out.trans hV1)
  have U1 := hid hU
  have W1 := hid hwr
  have DR2 := DR
  generalize m1.held[i] = lw at c78 hh hwr W1 hps
  clear hHeld hX1 hV1 hU hwr hi2 hwd hp hi hpl cx hgx hps e1
  go_wp2_with fail
  refine hK.out _ _ hk (fun hHeld => ?_)
  clear hK K hk
  try simp only [tpa, tpb, tpc, tpd, tpe]
  refine tr 10 (h := fun K hK => ?_)
  go_simp
  go_at_call 78
  unfold elOut at c78
  by_cases hc : (lw.length : Int) ≤ x
  ·rw [if_pos hc] at c78
   have hz := hid (show exprB cf (evl cf k) d (bareF fb) ⟨a0, 4, a2, a3, a4, a5⟩ kids m = .stop 2 1 m1 by rw [hh.out, List.getElem?_eq_none (by have := U1.out.1; omega)])
   refine c78.out.mono ?_
   rintro e w2 ⟨rfl, hb2⟩
   have F2 : Hid (PostM p cf.allowed n d w.heap.size ve (fun x => .returned (.int .u32 x)) (.stop 2 1 m1) w (endE 2 1) w2) := hid (fin_stop (X1.out.c.me.below hb2) (V1.out.below hb2) rfl)
   clear c78 hK hHeld hb2
   go_wp2_with fail
   refine bp_panic ?_
   rw [HR.out, hz.out]
   exact F2.out
  ·rw [if_neg hc] at c78
   have hlt : x.toNat < lw.length := by have := U1.out.1; omega
   have hz := hid (show exprB cf (evl cf k) d (bareF fb) ⟨a0, 4, a2, a3, a4, a5⟩ kids m = .ok lw[x.toNat] m1 by rw [hh.out, List.getElem?_eq_getElem hlt])
   refine c78.out.mono ?_
   rintro e w2 ⟨rfl, hb2⟩
   have hcell : w2.cell? ⟨gx, x.toNat, none⟩ = some (.int .u32 lw[x.toNat]) := by
     rw [cell_on (v := .int .u32 lw[x.toNat]) ?_ hb2]
     rw [W1.out.cellAt x.toNat (by omega)]
     simp [hlt]
   have F2 : Hid (PostM p cf.allowed n d w.heap.size ve (fun x => .returned (.int .u32 x)) (.ok lw[x.toNat] m1) w (.returned (.int .u32 lw[x.toNat])) w2) := hid (fin_ok (X1.out.below hb2) (V1.out.below hb2) rfl)
   have hk := (V1w.out.below hb2).k
   clear hHeld c78 hb2
   generalize lw[x.toNat] = y at hz hcell F2
   go_wp2_with fail
   refine hK.out _ _ hk (fun hHeld => ?_)
   clear hK K hk
   try simp only [tpa, tpb, tpc, tpd, tpe]
   refine tk 11 ?_ (hy := ?_) (h := ?_)
   rotate_left
   ·intro w' hSw; go_simp; (try with_reducible rfl)
   try simp only [tpa, tpb, tpc, tpd, tpe]
   refine tr 12 (h := fun K hK => ?_)
   go_simp
   refine hK.out _ _ hHeld (fun hHeld => ?_)
   clear hK K
   try simp only [tpa, tpb, tpc, tpd, tpe]
   refine tk 13 ?_ (hy := ?_) (h := ?_)
   rotate_left
   ·intro w' hSw; go_simp; (try with_reducible rfl)
   try simp only [tpa, tpb, tpc, tpd, tpe]
   refine wpAnyH_done (by kernel_rfl) ?_ _
   go_wp2_with fail
   rw [HR.out, hz.out]
   exact F2.out
end
end Go.Proofs.YtlabadkfkbenoaaGreatDoor
