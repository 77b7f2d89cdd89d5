/- Walks and plain laws, merged: IntN. No condition. -/
import Derived.Test.YtlabadkfkbenoaaGreatDoorKn01
import Derived.Test.YtlabadkfkbenoaaGreatDoorKn32
namespace Go.Proofs.YtlabadkfkbenoaaGreatDoor
open Go.RowKit
set_option linter.unusedVariables false
set_option linter.unusedSimpArgs false
set_option maxRecDepth 100000
section
open Go.Shelf
set_option maxHeartbeats 16000000 in
theorem unary81 (p : Pt) (cf : Cf) (u : UT) (n : Nat) (shp : List Nat) (k d : Nat) (m : MS) (ve : EvS) (F : Nat) (fb : List BSc) (g cap : Nat) (ms : List Nat) (a0 a2 a3 : Int) (a4 a5 : ByteArray) (kids : Exs) (v : Value) (ty : Int) (w : World) (ha : cf.alu = aluV) (HE : Hid (WEx p cf u n shp k)) (hx : XT cf (tysF fb) ⟨a0, 6, a2, a3, a4, a5⟩ kids ty) (hkw : kids.Wf) (hv : SlE (onlyW w (oldB p.B)) false none kids v) (hX : CtX p cf u n shp d m ve F fb g cap ms w) (hnl : exprB cf (evl cf k) d (bareF fb) ⟨a0, 6, a2, a3, a4, a5⟩ kids m ≠ .lost) :
  Calls Tryz.prog 81 #[.pointer (some ⟨p.M, 0, none⟩), .pointer (some ⟨F, 0, none⟩), aggE a0 ⟨a0, 6, a2, a3, a4, a5⟩ v] w (PostM p cf.allowed n d w.heap.size ve (fun x => .returned (.int .u32 x)) (exprB cf (evl cf k) d (bareF fb) ⟨a0, 6, a2, a3, a4, a5⟩ kids m) w) := by
 obtain ⟨ka, kc, rfl⟩ := hv.shape'
 obtain ⟨ks, hks, hty⟩ := hx.kinds
 have hn := okH_n hx.ok
 obtain ⟨R, hR⟩ : ∃ x, x = (PostM p cf.allowed n d w.heap.size ve (fun x => .returned (.int .u32 x)) (exprB cf (evl cf k) d (bareF fb) ⟨a0, 6, a2, a3, a4, a5⟩ kids m) w) := ⟨_, rfl⟩
 rw [← hR]
 have HR := hid hR
 clear hR
 simp only [] at hn ⊢
 have hl : kids.len = 1 := hn.2.2.1 (by trivial)
 obtain ⟨len, hlen⟩ : ∃ q, q = kids.len := ⟨_, rfl⟩
 rw [← hlen] at hv hl hn ⊢
 have hl0 : 0 < len := by omega
 obtain ⟨b0, o0, t0, xa0, xc0, k0, hk0, hka0, hr0, hs0⟩ := hv.kidW (w' := w) 0 (by omega)
 obtain ⟨ty0, hx0, hy0⟩ := tyE_xt hx.kids hks 0 k0 hk0
 have hw0 := Exs.wf_at hkw 0 k0 hk0
 have hk0 := hid hk0
 subst hka0
 have hB0 := (Below.refl w.heap.size w).alloc (Nat.le_refl _) (.cells #[.int .i64 a0, .int .u8 6, .int .u32 a2, .int .u8 a3, .string a4, .string a5, .slice (some ⟨b0, o0, none⟩) len kc] 134)
 have hX0 := hX.below hB0
 have hb0 := Bx.new w #[.int .i64 a0, .int .u8 6, .int .u32 a2, .int .u8 a3, .string a4, .string a5, .slice (some ⟨b0, o0, none⟩) len kc] 134
 have K0 : Hid (∀ w' ve', KV p ve ve' (w.alloc (.cells #[.int .i64 a0, .int .u8 6, .int .u32 a2, .int .u8 a3, .string a4, .string a5, .slice (some ⟨b0, o0, none⟩) len kc] 134)) w' → KidR w' b0 (o0) t0 k0 (.slice xa0 k0.2.len xc0) ∧ SlE (onlyW w' (oldB p.B)) false none k0.2 (.slice xa0 k0.2.len xc0)) := hid fun w' ve' hk => ⟨by
  have h := ((hr0.sub (cells_old_below hB0)).sub (hX0.c.cells hk.k)).sub (cells_only _ _)
  simpa only [Nat.zero_mul, Nat.add_zero, Nat.one_mul] using h, (hs0.sub (cells_old_below hB0)).sub (hX0.c.cells hk.k)⟩
 have E5 : Hid (∀ w' ve', KV p ve ve' (w.alloc (.cells #[.int .i64 a0, .int .u8 6, .int .u32 a2, .int .u8 a3, .string a4, .string a5, .slice (some ⟨b0, o0, none⟩) len kc] 134)) w' → w'.cell? ⟨w.heap.size, 5, none⟩ = some (.string a5)) := hid fun w' ve' hk => by simpa using hX0.c.boxcell (i := 5) hk.k hb0 (by decide) (by decide) (by decide)
 have E6 : Hid (∀ w' ve', KV p ve ve' (w.alloc (.cells #[.int .i64 a0, .int .u8 6, .int .u32 a2, .int .u8 a3, .string a4, .string a5, .slice (some ⟨b0, o0, none⟩) len kc] 134)) w' → w'.cell? ⟨w.heap.size, 6, none⟩ = some (.slice (some ⟨b0, o0, none⟩) len kc)) := hid fun w' ve' hk => by simpa using hX0.c.boxcell (i := 6) hk.k hb0 (by decide) (by decide) (by decide)
 have e6 := E6.out _ _ (KV.refl _ _ _)
 obtain ⟨⟨y0, y1, y2, y3, y4, y5, y6⟩, hs9⟩ := K0.out _ _ (KV.refl _ _ _)
 have hh := hid (show exprB cf (evl cf k) d (bareF fb) ⟨a0, 6, a2, a3, a4, a5⟩ kids m = _ by rw [exprB_6, evK_at hk0.out])
 have hnl0 : (evl cf k).E d (bareF fb) k0.1 k0.2 m ≠ .lost := Out.of_bind (by rw [← hh.out]; exact hnl)
 have htk := hid (typK_at (cf := cf) hk0.out hx0)
 rw [htk.out, ha] at hh
 have cx := hid (HE.out d m ve F fb g cap ms t0 k0.1 k0.2 _ ty0 _ hx0 hw0.1 hw0.2 hs9 hX0 hnl0)
 have c84 := hid (fun (m1 : MS) (ve1 : EvS) (w1 : World) (hC : CtR p cf u n d m1 ve1 F fb g cap ms w1) (hs : SlE (onlyW w1 (oldB p.B)) false none k0.2 (.slice xa0 k0.2.len xc0)) => typ84 p cf u n d m1 ve1 F fb g cap ms (k0.2.sz + 1) t0 k0.1 k0.2 _ ty0 w1 (Nat.lt_succ_self _) hx0 hs hC)
 have V0 := hid (KV.of p ve hB0)
 obtain ⟨⟨c0, c1, c2, c3, c4, c5⟩, kk⟩ := k0
 simp only [] at y1 y2 y3 y4 y5 y6
 clear hx hkw hv hr0 hs0 hs9 hx0 hy0 hw0 hty hks hn hnl HE hX0 hX hb0 hB0 hl hlen htk ha
 go_enter Tryz.func81, Tryz.ntmps81
 go_wp2_with fail
 cases ho : (evl cf k).E d (bareF fb) ⟨c0, c1, c2, c3, c4, c5⟩ kk m with
 | lost => exact absurd ho hnl0
 | stop a b m1 =>
  try simp only [] at cx hh
  rw [ho] at cx hh
  have hh := hid (show _ = Out.stop a b m1 from hh.out)
  refine cx.out.mono ?_
  rintro e w1 ⟨rfl, ve1, d1, hM1, hV1⟩
  have F1 : Hid (PostM p cf.allowed n d w.heap.size ve (fun x => .returned (.int .u32 x)) (.stop a b m1) w (endE a b) w1) := hid (fin_stop hM1 (V0.out.trans hV1) rfl)
  clear hM1 hV1 cx
  go_wp2_with fail
  refine bp_panic ?_
  rw [HR.out, hh.out]
  exact F1.out
 | ok x m1 =>
  try simp only [] at cx hh
  rw [ho] at cx hh
  have hh := hid (show _ = (if (a5.toList == [126]) = true then Out.ok (unaryV 49 x) m1 else if (a5.toList == [33]) = true then .ok (truth (x == 0)) m1 else if ty0 = 2 then .ok (unaryV 53 x) m1 else .ok (unaryV 38 x) m1) from hh.out)
  refine cx.out.mono ?_
  rintro e w1 ⟨rfl, hU, ve1, hX1, hV1⟩
  have e5 := E5.out _ _ hV1
  have e6b := E6.out _ _ hV1
  obtain ⟨⟨z0, z1, z2, z3, z4, z5, z6⟩, hs1⟩ := K0.out _ _ hV1
  simp only [] at z1 z2 z3 z4 z5 z6
  have F1 : ∀ y, Hid (PostM p cf.allowed n d w.heap.size ve (fun x => .returned (.int .u32 x)) (.ok y m1) w (.returned (.int .u32 y)) w1) := fun y => hid (fin_ok hX1 (V0.out.trans hV1) rfl)
  have cty := hid (c84.out m1 ve1 w1 hX1.c hs1)
  have F84 : ∀ y w2, Below w1.heap.size w1 w2 → Hid (PostM p cf.allowed n d w.heap.size ve (fun x => .returned (.int .u32 x)) (.ok y m1) w (.returned (.int .u32 y)) w2) := fun y w2 hb => hid (fin_ok (hX1.below hb) ((V0.out.trans hV1).below hb) rfl)
  have E5b := E5
  have E5w := hid (show ∀ w2, Below w1.heap.size w1 w2 → _ from fun w2 hb => cell_on e5 hb)
  clear hX1 hV1 cx hs1 c84 ho hnl0 y0 y1 y2 y3 y4 y5 y6 e6 E5 E5b K0 E6 V0
  cases h126 : a5.toList == [126]
  case true =>
   have F1 := F1 (unaryV 49 x)
   have hz := hid (show exprB cf (evl cf k) d (bareF fb) ⟨a0, 6, a2, a3, a4, a5⟩ kids m = .ok (unaryV 49 x) m1 by rw [hh.out, h126]; rfl)
   clear hh cty F84 E5w
   have c1 := hid (unary86_49 x w1)
   have c2 := hid (of85 (unaryV 49 x) 0 w1)
   generalize unaryV 49 x = y at c1 c2 hz F1
   go_wp2_with fail
   refine c1.out.mono ?_
   rintro e w3 ⟨rfl, hw3⟩
   subst w3
   clear c1
   go_wp2_with fail
   refine c2.out.mono ?_
   rintro e w3 ⟨rfl, hw3⟩
   subst w3
   clear c2
   go_wp2_with fail
   rw [HR.out, hz.out]
   exact F1.out
  case false =>
   cases h33 : a5.toList == [33]
   case true =>
    have F1 := F1 (truth (x == 0))
    have hz := hid (show exprB cf (evl cf k) d (bareF fb) ⟨a0, 6, a2, a3, a4, a5⟩ kids m = .ok (truth (x == 0)) m1 by rw [hh.out, h126, h33]; rfl)
    clear hh cty F84 E5w
    have c1 := hid (truth117 (x == 0) w1)
    have ht : (if (x == 0) = true then (1 : Int) else 0) = truth (x == 0) := rfl
    rw [ht] at c1
    generalize truth (x == 0) = y at c1 hz F1
    clear ht
    go_wp2_with fail
    refine c1.out.mono ?_
    rintro e w3 ⟨rfl, hw3⟩
    subst w3
    clear c1
    go_wp2_with fail
    rw [HR.out, hz.out]
    exact F1.out
   case false =>
    by_cases h2 : ty0 = 2
    ·have hz := hid (show exprB cf (evl cf k) d (bareF fb) ⟨a0, 6, a2, a3, a4, a5⟩ kids m = .ok (unaryV 53 x) m1 by rw [hh.out, h126, h33]; simp [h2])
     clear hh F1
     go_wp2_with fail
     refine cty.out.mono ?_
     rintro e w2 ⟨rfl, hb2⟩
     have F1 := F84 (unaryV 53 x) w2 hb2
     have e5 := E5w.out w2 hb2
     clear hb2 cty F84 E5w
     have c1 := hid (unary86_53 x w2)
     have c2 := hid (of85 (unaryV 53 x) 0 w2)
     generalize unaryV 53 x = y at c1 c2 hz F1
     go_wp2_with fail
     refine c1.out.mono ?_
     rintro e w3 ⟨rfl, hw3⟩
     subst w3
     clear c1
     go_wp2_with fail
     refine c2.out.mono ?_
     rintro e w3 ⟨rfl, hw3⟩
     subst w3
     clear c2
     go_wp2_with fail
     rw [HR.out, hz.out]
     exact F1.out
    ·have hz := hid (show exprB cf (evl cf k) d (bareF fb) ⟨a0, 6, a2, a3, a4, a5⟩ kids m = .ok (unaryV 38 x) m1 by rw [hh.out, h126, h33]; simp [h2])
     clear hh F1
     go_wp2_with fail
     refine cty.out.mono ?_
     rintro e w2 ⟨rfl, hb2⟩
     have F1 := F84 (unaryV 38 x) w2 hb2
     have e5 := E5w.out w2 hb2
     clear hb2 cty F84 E5w
     have c1 := hid (unary86_38 x w2)
     have c2 := hid (of85 (unaryV 38 x) 0 w2)
     generalize unaryV 38 x = y at c1 c2 hz F1
     go_wp2_with fail
     refine c1.out.mono ?_
     rintro e w3 ⟨rfl, hw3⟩
     subst w3
     clear c1
     go_wp2_with fail
     refine c2.out.mono ?_
     rintro e w3 ⟨rfl, hw3⟩
     subst w3
     clear c2
     go_wp2_with fail
     rw [HR.out, hz.out]
     exact F1.out
set_option maxHeartbeats 16000000 in
theorem cast83 (p : Pt) (cf : Cf) (u : UT) (n : Nat) (shp : List Nat) (k d : Nat) (m : MS) (ve : EvS) (F : Nat) (fb : List BSc) (g cap : Nat) (ms : List Nat) (a0 a2 a3 : Int) (a4 a5 : ByteArray) (kids : Exs) (v : Value) (ty : Int) (w : World) (ha : cf.alu = aluV) (HE : Hid (WEx p cf u n shp k)) (hx : XT cf (tysF fb) ⟨a0, 8, a2, a3, a4, a5⟩ kids ty) (hkw : kids.Wf) (hv : SlE (onlyW w (oldB p.B)) false none kids v) (hX : CtX p cf u n shp d m ve F fb g cap ms w) (hnl : exprB cf (evl cf k) d (bareF fb) ⟨a0, 8, a2, a3, a4, a5⟩ kids m ≠ .lost) :
  Calls Tryz.prog 83 #[.pointer (some ⟨F, 0, none⟩), aggE a0 ⟨a0, 8, a2, a3, a4, a5⟩ v, .pointer (some ⟨p.kc, 0, none⟩)] w (PostM p cf.allowed n d w.heap.size ve (fun x => .returned (.int .u32 x)) (exprB cf (evl cf k) d (bareF fb) ⟨a0, 8, a2, a3, a4, a5⟩ kids m) w) := by
 obtain ⟨ka, kc, rfl⟩ := hv.shape'
 obtain ⟨ks, hks, hty⟩ := hx.kinds
 have hn := okH_n hx.ok
 obtain ⟨R, hR⟩ : ∃ x, x = (PostM p cf.allowed n d w.heap.size ve (fun x => .returned (.int .u32 x)) (exprB cf (evl cf k) d (bareF fb) ⟨a0, 8, a2, a3, a4, a5⟩ kids m) w) := ⟨_, rfl⟩
 rw [← hR]
 have HR := hid hR
 clear hR
 simp only [] at hn ⊢
 have hl : kids.len = 1 := hn.2.2.2.2.1 (by trivial)
 obtain ⟨len, hlen⟩ : ∃ q, q = kids.len := ⟨_, rfl⟩
 rw [← hlen] at hv hl hn ⊢
 have hl0 : 0 < len := by omega
 obtain ⟨b0, o0, t0, xa0, xc0, k0, hk0, hka0, hr0, hs0⟩ := hv.kidW (w' := w) 0 (by omega)
 obtain ⟨ty0, hx0, hy0⟩ := tyE_xt hx.kids hks 0 k0 hk0
 have hw0 := Exs.wf_at hkw 0 k0 hk0
 have hk0 := hid hk0
 subst hka0
 have hB0 := (Below.refl w.heap.size w).alloc (Nat.le_refl _) (.cells #[.int .i64 a0, .int .u8 8, .int .u32 a2, .int .u8 a3, .string a4, .string a5, .slice (some ⟨b0, o0, none⟩) len kc] 134)
 have hX0 := hX.below hB0
 have hb0 := Bx.new w #[.int .i64 a0, .int .u8 8, .int .u32 a2, .int .u8 a3, .string a4, .string a5, .slice (some ⟨b0, o0, none⟩) len kc] 134
 clear hl hlen hn
 go_enter Tryz.func83, Tryz.ntmps83
 go_wp2_with fail
 generalize w.alloc (.cells #[.int .i64 a0, .int .u8 8, .int .u32 a2, .int .u8 a3, .string a4, .string a5, .slice (some ⟨b0, o0, none⟩) len kc] 134) = w0 at hX0 hb0 hB0 ⊢
 have K0 : Hid (∀ w', Kpt (p.TE ve) w0.heap.size w0 w' → KidR w' b0 (o0) t0 k0 (.slice xa0 k0.2.len xc0)) := hid fun w' hk => by
  have h := ((hr0.sub (cells_old_below hB0)).sub (hX0.c.cells hk)).sub (cells_only _ _)
  simpa only [Nat.zero_mul, Nat.add_zero, Nat.one_mul] using h
 have E3 : Hid (∀ w', Kpt (p.TE ve) w0.heap.size w0 w' → w'.cell? ⟨w.heap.size, 3, none⟩ = some (.int .u8 a3)) := hid fun w' hk => by simpa using hX0.c.boxcell (i := 3) hk hb0 (by decide) (by decide) (by decide)
 have E6 : Hid (∀ w', Kpt (p.TE ve) w0.heap.size w0 w' → w'.cell? ⟨w.heap.size, 6, none⟩ = some (.slice (some ⟨b0, o0, none⟩) len kc)) := hid fun w' hk => by simpa using hX0.c.boxcell (i := 6) hk hb0 (by decide) (by decide) (by decide)
 have EK : Hid (∀ w', Kpt (p.TE ve) w0.heap.size w0 w' → w'.cell? ⟨p.kc, 0, none⟩ = some (.pointer (some ⟨p.M, 0, none⟩))) := hid fun w' hk => by simpa using hX0.c.boxcell (i := 0) hk hX0.c.st.kbox (by decide) (by decide) (by decide)
 have DR := hid ((KV.of p ve hB0).below (Below.refl w0.heap.size w0).drew)
 have hh := hid (show exprB cf (evl cf k) d (bareF fb) ⟨a0, 8, a2, a3, a4, a5⟩ kids m = _ by rw [exprB_8, evK_at hk0.out])
 have hnl0 : (evl cf k).E d (bareF fb) k0.1 k0.2 m ≠ .lost := Out.of_bind (by rw [← hh.out]; exact hnl)
 have htk := hid (typK_at (cf := cf) hk0.out hx0)
 rw [htk.out, ha] at hh
 have X0d := hid (hX0.below (Below.refl _ _).drew)
 have T0 := hid ((hs0.sub (cells_old_below hB0)))
 have X0 := hid hX0
 have c84 := hid (typ84 p cf u n d m ve F fb g cap ms (k0.2.sz + 1) t0 k0.1 k0.2 (.slice xa0 k0.2.len xc0) ty0 w0.drew (Nat.lt_succ_self _) hx0 (T0.out.sub (cells_old_below (Below.refl _ _).drew)) X0d.out.c)
 have c79 := hid (fun (w1 : World) (hb : Below w0.heap.size w0 w1) => HE.out d m ve F fb g cap ms t0 k0.1 k0.2 (.slice xa0 k0.2.len xc0) ty0 w1 hx0 hw0.1 hw0.2 (T0.out.sub (cells_old_below hb)) (X0.out.below hb) hnl0)
 obtain ⟨⟨c0, c1, c2, c3, c4, c5⟩, kk⟩ := k0
 simp only [] at c84 c79
 have B0 := hid hB0
 clear hx hkw hv hr0 hs0 hx0 hy0 hw0 hty hks hnl HE hX hX0 hb0 hB0 htk ha X0d T0
 refine wp_region_held_drew (S := (Kpt (p.TE ve) w0.heap.size w0)) (by kernel_rfl) (Kpt.of (Below.refl _ _).drew) (fun hHeld => ?_)
 refine tk 0 ?_ (hy := ?_) (h := ?_)
 rotate_left
 ·intro w' hSw; have q := EK.out w' hSw; go_simp; (try with_reducible rfl)
 try simp only [tpa, tpb, tpc, tpd, tpe]
 refine tk 1 ?_ (hy := ?_) (h := ?_)
 rotate_left
 ·intro w' hSw; go_simp; (try with_reducible rfl)
 try simp only [tpa, tpb, tpc, tpd, tpe]
 refine tk 2 ?_ (hy := ?_) (h := ?_)
 rotate_left
 ·intro w' hSw; go_simp; (try with_reducible rfl)
 try simp only [tpa, tpb, tpc, tpd, tpe]
 refine tk 3 ?_ (hy := ?_) (h := ?_)
 rotate_left
 ·intro w' hSw; have q := E6.out w' hSw; go_simp; (try with_reducible rfl)
 try simp only [tpa, tpb, tpc, tpd, tpe]
 refine tk 4 ?_ (hy := ?_) (h := ?_)
 rotate_left
 ·intro w' hSw; go_simp; (try with_reducible rfl)
 try simp only [tpa, tpb, tpc, tpd, tpe]
 refine tk 5 ?_ (hy := ?_) (h := ?_)
 rotate_left
 ·intro w' hSw; obtain ⟨q0, q1, q2, q3, q4, q5, q6⟩ := K0.out w' hSw; go_simp; (try with_reducible rfl)
 try simp only [tpa, tpb, tpc, tpd, tpe]
 refine tr 6 (h := fun K hK => ?_)
 go_simp
 go_at_call 84
 refine (c84.out).mono ?_
 rintro e w2 ⟨rfl, hb2⟩
 have hk := hHeld.trans (Kpt.of (hb2.mono hHeld.size))
 have B2 := hid ((Below.refl w0.heap.size w0).drew.trans (hb2.mono (Below.refl w0.heap.size w0).drew.size))
 clear hb2 c84
 clear hHeld
 go_wp2_with fail
 refine hK.out _ _ hk (fun hHeld => ?_)
 clear hK K hk
 try simp only [tpa, tpb, tpc, tpd, tpe]
 refine tk 7 ?_ (hy := ?_) (h := ?_)
 rotate_left
 ·intro w' hSw; go_simp; (try with_reducible rfl)
 try simp only [tpa, tpb, tpc, tpd, tpe]
 refine wpAnyH_done (by kernel_rfl) ?_ _
 go_wp2_with fail
 have K2 := hid hHeld
 clear hHeld
 refine wp_region_held_drew (S := (Kpt (p.TE ve) w0.heap.size w0)) (by kernel_rfl) (K2.out.trans (Kpt.of ((Below.refl _ _).drew.mono K2.out.size))) (fun hHeld => ?_)
 refine tk 0 ?_ (hy := ?_) (h := ?_)
 rotate_left
 ·intro w' hSw; have q := EK.out w' hSw; go_simp; (try with_reducible rfl)
 try simp only [tpa, tpb, tpc, tpd, tpe]
 refine tk 1 ?_ (hy := ?_) (h := ?_)
 rotate_left
 ·intro w' hSw; go_simp; (try with_reducible rfl)
 try simp only [tpa, tpb, tpc, tpd, tpe]
 refine tk 2 ?_ (hy := ?_) (h := ?_)
 rotate_left
 ·intro w' hSw; go_simp; (try with_reducible rfl)
 try simp only [tpa, tpb, tpc, tpd, tpe]
 refine tk 3 ?_ (hy := ?_) (h := ?_)
 rotate_left
 ·intro w' hSw; have q := E6.out w' hSw; go_simp; (try with_reducible rfl)
 try simp only [tpa, tpb, tpc, tpd, tpe]
 refine tk 4 ?_ (hy := ?_) (h := ?_)
 rotate_left
 ·intro w' hSw; go_simp; (try with_reducible rfl)
 try simp only [tpa, tpb, tpc, tpd, tpe]
 refine tk 5 ?_ (hy := ?_) (h := ?_)
 rotate_left
 ·intro w' hSw; obtain ⟨q0, q1, q2, q3, q4, q5, q6⟩ := K0.out w' hSw; go_simp; (try with_reducible rfl)
 try simp only [tpa, tpb, tpc, tpd, tpe]
 refine tr 6 (h := fun K hK => ?_)
 go_simp
 go_at_call 79
 have cx := hid (c79.out _ (B2.out.trans ((Below.refl _ _).drew.mono B2.out.size)))
 have V0 := hid ((KV.of p ve B0.out).below (B2.out.trans ((Below.refl _ _).drew.mono B2.out.size)))
 have W0 := hid (KV.of p ve (B2.out.trans ((Below.refl _ _).drew.mono B2.out.size)))
 clear c79 K2 K0
 cases ho : (evl cf k).E d (bareF fb) ⟨c0, c1, c2, c3, c4, c5⟩ kk m with
 | lost => exact absurd ho hnl0
 | stop a b m1 =>
  try simp only [] at cx hh
  rw [ho] at cx hh
  have hh := hid (show _ = Out.stop a b m1 from hh.out)
  refine cx.out.mono ?_
  rintro e w1 ⟨rfl, ve1, d1, hM1, hV1⟩
  have F1 : Hid (PostM p cf.allowed n d w.heap.size ve (fun x => .returned (.int .u32 x)) (.stop a b m1) w (endE a b) w1) := hid (fin_stop hM1 (V0.out.trans hV1) rfl)
  clear hM1 hV1 cx hK hHeld
  go_wp2_with fail
  refine bp_panic ?_
  rw [HR.out, hh.out]
  exact F1.out
 | ok x m1 =>
  try simp only [] at cx hh
  rw [ho] at cx hh
  have hh := hid (show _ = (if ty0 = a3 then Out.ok x m1 else if a3 = 1 then .ok (unaryV 59 x) m1 else .ok (unaryV 58 x) m1) from hh.out)
  refine cx.out.mono ?_
  rintro e w1 ⟨rfl, hU, ve1, hX1, hV1⟩
  have e3 := E3.out w1 (W0.out.trans hV1).k
  have hk := (W0.out.trans hV1).k
  have F1 : ∀ y, Hid (PostM p cf.allowed n d w.heap.size ve (fun x => .returned (.int .u32 x)) (.ok y m1) w (.returned (.int .u32 y)) w1) := fun y => hid (fin_ok hX1 (V0.out.trans hV1) rfl)
  clear hHeld hX1 hV1 hU cx ho hnl0 E3 E6 EK V0 W0 X0 B0 B2 DR
  go_wp2_with fail
  refine hK.out _ _ hk (fun hHeld => ?_)
  clear hK K hk
  try simp only [tpa, tpb, tpc, tpd, tpe]
  refine tk 7 ?_ (hy := ?_) (h := ?_)
  rotate_left
  ·intro w' hSw; go_simp; (try with_reducible rfl)
  try simp only [tpa, tpb, tpc, tpd, tpe]
  refine wpAnyH_done (by kernel_rfl) ?_ _
  by_cases h1 : ty0 = a3
  ·subst h1
   have hz := hid (show exprB cf (evl cf k) d (bareF fb) ⟨a0, 8, a2, ty0, a4, a5⟩ kids m = .ok x m1 by rw [hh.out]; simp)
   have F1 := F1 x
   clear hh
   go_wp2_with fail
   rw [HR.out, hz.out]
   exact F1.out
  ·by_cases h2 : a3 = 1
   ·subst h2
    have hz := hid (show exprB cf (evl cf k) d (bareF fb) ⟨a0, 8, a2, 1, a4, a5⟩ kids m = .ok (unaryV 59 x) m1 by rw [hh.out]; simp [h1])
    have F1 := F1 (unaryV 59 x)
    have c1 := hid (unary86_59 x w1)
    have c2 := hid (of85 (unaryV 59 x) 0 w1)
    generalize unaryV 59 x = y at c1 c2 hz F1
    clear hh
    go_wp2_with fail
    refine c1.out.mono ?_
    rintro e w3 ⟨rfl, hw3⟩
    subst w3
    clear c1
    go_wp2_with fail
    refine c2.out.mono ?_
    rintro e w3 ⟨rfl, hw3⟩
    subst w3
    clear c2
    go_wp2_with fail
    rw [HR.out, hz.out]
    exact F1.out
   ·have hne : (ty0 == a3) = false := by simpa using h1
    have hne2 : (a3 == 1) = false := by simpa using h2
    have hz := hid (show exprB cf (evl cf k) d (bareF fb) ⟨a0, 8, a2, a3, a4, a5⟩ kids m = .ok (unaryV 58 x) m1 by rw [hh.out]; simp [h1, h2])
    have F1 := F1 (unaryV 58 x)
    have c1 := hid (unary86_58 x w1)
    have c2 := hid (of85 (unaryV 58 x) 0 w1)
    generalize unaryV 58 x = y at c1 c2 hz F1
    clear hh
    go_wp2_with fail
    refine c1.out.mono ?_
    rintro e w3 ⟨rfl, hw3⟩
    subst w3
    clear c1
    go_wp2_with fail
    refine c2.out.mono ?_
    rintro e w3 ⟨rfl, hw3⟩
    subst w3
    clear c2
    go_wp2_with fail
    rw [HR.out, hz.out]
    exact F1.out
set_option maxHeartbeats 32000000 in
theorem binary82 (p : Pt) (cf : Cf) (u : UT) (n : Nat) (shp : List Nat) (k d : Nat) (m : MS) (ve : EvS) (F : Nat) (fb : List BSc) (g cap : Nat) (ms : List Nat) (a0 a2 a3 : Int) (a4 a5 : ByteArray) (kids : Exs) (v : Value) (ty : Int) (w : World) (ha : cf.alu = aluV) (HE : Hid (WEx p cf u n shp k)) (hx : XT cf (tysF fb) ⟨a0, 7, a2, a3, a4, a5⟩ kids ty) (hkw : kids.Wf) (hv : SlE (onlyW w (oldB p.B)) false none kids v) (hX : CtX p cf u n shp d m ve F fb g cap ms w) (hnl : exprB cf (evl cf k) d (bareF fb) ⟨a0, 7, a2, a3, a4, a5⟩ kids m ≠ .lost) :
  Calls Tryz.prog 82 #[.pointer (some ⟨p.M, 0, none⟩), .pointer (some ⟨F, 0, none⟩), aggE a0 ⟨a0, 7, a2, a3, a4, a5⟩ v] w (PostM p cf.allowed n d w.heap.size ve (fun x => .returned (.int .u32 x)) (exprB cf (evl cf k) d (bareF fb) ⟨a0, 7, a2, a3, a4, a5⟩ kids m) w) := by
 obtain ⟨ka, kc, rfl⟩ := hv.shape'
 obtain ⟨ks, hks, hty⟩ := hx.kinds
 have hn := okH_n hx.ok
 obtain ⟨R, hR⟩ : ∃ x, x = (PostM p cf.allowed n d w.heap.size ve (fun x => .returned (.int .u32 x)) (exprB cf (evl cf k) d (bareF fb) ⟨a0, 7, a2, a3, a4, a5⟩ kids m) w) := ⟨_, rfl⟩
 rw [← hR]
 have HR := hid hR
 clear hR
 simp only [] at hn ⊢
 have hl : kids.len = 2 := hn.2.2.2.1 (by trivial)
 obtain ⟨len, hlen⟩ : ∃ q, q = kids.len := ⟨_, rfl⟩
 rw [← hlen] at hv hl hn ⊢
 have hl0 : 0 < len := by omega
 have hl1 : 1 < len := by omega
 have hl2 : (1 : Int) < (len : Int) := by omega
 obtain ⟨b0, o0, t0, xa0, xc0, k0, hk0, hka0, hr0, hs0⟩ := hv.kidW (w' := w) 0 (by omega)
 obtain ⟨ty0, hx0, hy0⟩ := tyE_xt hx.kids hks 0 k0 hk0
 have hw0 := Exs.wf_at hkw 0 k0 hk0
 have hk0 := hid hk0
 obtain ⟨b1, o1, t1, xa1, xc1, k1, hk1, hka1, hr1, hs1⟩ := hv.kidW (w' := w) 1 (by omega)
 obtain ⟨ty1, hx1, hy1⟩ := tyE_xt hx.kids hks 1 k1 hk1
 have hw1 := Exs.wf_at hkw 1 k1 hk1
 have hk1 := hid hk1
 subst hka0
 obtain ⟨rfl, rfl⟩ : b1 = b0 ∧ o1 = o0 := by cases hka1; exact ⟨rfl, rfl⟩
 clear hka1
 have hB0 := (Below.refl w.heap.size w).alloc (Nat.le_refl _) (.cells #[.int .i64 a0, .int .u8 7, .int .u32 a2, .int .u8 a3, .string a4, .string a5, .slice (some ⟨b1, o1, none⟩) len kc] 134)
 have hX0 := hX.below hB0
 have hb0 := Bx.new w #[.int .i64 a0, .int .u8 7, .int .u32 a2, .int .u8 a3, .string a4, .string a5, .slice (some ⟨b1, o1, none⟩) len kc] 134
 have K0 : Hid (∀ w' ve', KV p ve ve' (w.alloc (.cells #[.int .i64 a0, .int .u8 7, .int .u32 a2, .int .u8 a3, .string a4, .string a5, .slice (some ⟨b1, o1, none⟩) len kc] 134)) w' → KidR w' b1 (o1) t0 k0 (.slice xa0 k0.2.len xc0) ∧ SlE (onlyW w' (oldB p.B)) false none k0.2 (.slice xa0 k0.2.len xc0)) := hid fun w' ve' hk => ⟨by
  have h := ((hr0.sub (cells_old_below hB0)).sub (hX0.c.cells hk.k)).sub (cells_only _ _)
  simpa only [Nat.zero_mul, Nat.add_zero, Nat.one_mul] using h, (hs0.sub (cells_old_below hB0)).sub (hX0.c.cells hk.k)⟩
 have K1 : Hid (∀ w' ve', KV p ve ve' (w.alloc (.cells #[.int .i64 a0, .int .u8 7, .int .u32 a2, .int .u8 a3, .string a4, .string a5, .slice (some ⟨b1, o1, none⟩) len kc] 134)) w' → KidR w' b1 (o1 + 7) t1 k1 (.slice xa1 k1.2.len xc1) ∧ SlE (onlyW w' (oldB p.B)) false none k1.2 (.slice xa1 k1.2.len xc1)) := hid fun w' ve' hk => ⟨by
  have h := ((hr1.sub (cells_old_below hB0)).sub (hX0.c.cells hk.k)).sub (cells_only _ _)
  simpa only [Nat.zero_mul, Nat.add_zero, Nat.one_mul] using h, (hs1.sub (cells_old_below hB0)).sub (hX0.c.cells hk.k)⟩
 have E5 : Hid (∀ w' ve', KV p ve ve' (w.alloc (.cells #[.int .i64 a0, .int .u8 7, .int .u32 a2, .int .u8 a3, .string a4, .string a5, .slice (some ⟨b1, o1, none⟩) len kc] 134)) w' → w'.cell? ⟨w.heap.size, 5, none⟩ = some (.string a5)) := hid fun w' ve' hk => by simpa using hX0.c.boxcell (i := 5) hk.k hb0 (by decide) (by decide) (by decide)
 have E6 : Hid (∀ w' ve', KV p ve ve' (w.alloc (.cells #[.int .i64 a0, .int .u8 7, .int .u32 a2, .int .u8 a3, .string a4, .string a5, .slice (some ⟨b1, o1, none⟩) len kc] 134)) w' → w'.cell? ⟨w.heap.size, 6, none⟩ = some (.slice (some ⟨b1, o1, none⟩) len kc)) := hid fun w' ve' hk => by simpa using hX0.c.boxcell (i := 6) hk.k hb0 (by decide) (by decide) (by decide)
 have e6 := E6.out _ _ (KV.refl _ _ _)
 obtain ⟨⟨y0, y1, y2, y3, y4, y5, y6⟩, hs9⟩ := K0.out _ _ (KV.refl _ _ _)
 have hh := hid (show exprB cf (evl cf k) d (bareF fb) ⟨a0, 7, a2, a3, a4, a5⟩ kids m = _ by rw [exprB_7, evK_at hk0.out])
 have hnl0 : (evl cf k).E d (bareF fb) k0.1 k0.2 m ≠ .lost := Out.of_bind (by rw [← hh.out]; exact hnl)
 have htk := hid (typK_at (cf := cf) hk0.out hx0)
 rw [htk.out, ha] at hh
 have hek := hid (fun (m1 : MS) => evK_at (ev := evl cf k) (d := d) (fr := bareF fb) (m := m1) hk1.out)
 have cx := hid (HE.out d m ve F fb g cap ms t0 k0.1 k0.2 _ ty0 _ hx0 hw0.1 hw0.2 hs9 hX0 hnl0)
 have c79 := hid (fun (m1 : MS) (ve1 : EvS) (w1 : World) (hX1 : CtX p cf u n shp d m1 ve1 F fb g cap ms w1) (hs : SlE (onlyW w1 (oldB p.B)) false none k1.2 (.slice xa1 k1.2.len xc1)) (hnl1 : (evl cf k).E d (bareF fb) k1.1 k1.2 m1 ≠ .lost) => HE.out d m1 ve1 F fb g cap ms t1 k1.1 k1.2 _ ty1 w1 hx1 hw1.1 hw1.2 hs hX1 hnl1)
 have c84 := hid (fun (m1 : MS) (ve1 : EvS) (w1 : World) (hC : CtR p cf u n d m1 ve1 F fb g cap ms w1) (hs : SlE (onlyW w1 (oldB p.B)) false none k0.2 (.slice xa0 k0.2.len xc0)) => typ84 p cf u n d m1 ve1 F fb g cap ms (k0.2.sz + 1) t0 k0.1 k0.2 _ ty0 w1 (Nat.lt_succ_self _) hx0 hs hC)
 have V0 := hid (KV.of p ve hB0)
 have HNL := hid hnl
 obtain ⟨⟨c0, c1, c2, c3, c4, c5⟩, kk⟩ := k0
 obtain ⟨⟨f0, f1, f2, f3, f4, f5⟩, kl⟩ := k1
 simp only [] at y1 y2 y3 y4 y5 y6 c79 c84
 clear hx hkw hv hr0 hs0 hs9 hx0 hy0 hw0 hr1 hs1 hx1 hy1 hw1 hty hks hn hnl HE hX0 hX hb0 hB0 hl hlen htk ha
 go_enter Tryz.func82, Tryz.ntmps82
 go_wp2_with fail
 cases ho : (evl cf k).E d (bareF fb) ⟨c0, c1, c2, c3, c4, c5⟩ kk m with
 | lost => exact absurd ho hnl0
 | stop a b m1 =>
  try simp only [] at cx hh
  rw [ho] at cx hh
  have hh := hid (show _ = Out.stop a b m1 from hh.out)
  refine cx.out.mono ?_
  rintro e w1 ⟨rfl, ve1, d1, hM1, hV1⟩
  have F1 : Hid (PostM p cf.allowed n d w.heap.size ve (fun x => .returned (.int .u32 x)) (.stop a b m1) w (endE a b) w1) := hid (fin_stop hM1 (V0.out.trans hV1) rfl)
  clear hM1 hV1 cx
  go_wp2_with fail
  refine bp_panic ?_
  rw [HR.out, hh.out]
  exact F1.out
 | ok x m1 =>
  try simp only [] at cx hh
  rw [ho] at cx hh
  have hh := hid (show _ = (if (a5.toList == [38, 38] && x == 0) = true then Out.ok 0 m1 else if (a5.toList == [124, 124] && x != 0) = true then .ok 1 m1 else (evK (evl cf k) d (bareF fb) kids 1 m1).bind fun b m => if (a5.toList == [38, 38] || a5.toList == [124, 124]) = true then .ok (truth (b != 0)) m else match workedV aluV a5 ty0 x b with | some x => .ok x m | none => .stop 2 2 m) from hh.out)
  rw [hek.out] at hh
  refine cx.out.mono ?_
  rintro e w1 ⟨rfl, hU, ve1, hX1, hV1⟩
  have e5 := E5.out _ _ hV1
  have e6b := E6.out _ _ hV1
  have F1 : ∀ y, Hid (PostM p cf.allowed n d w.heap.size ve (fun x => .returned (.int .u32 x)) (.ok y m1) w (.returned (.int .u32 y)) w1) := fun y => hid (fin_ok hX1 (V0.out.trans hV1) rfl)
  have X1 := hid hX1
  have V1 := hid hV1
  have U1 := hid hU
  clear hX1 hV1 hU cx ho hnl0 y0 y1 y2 y3 y4 y5 y6 e6
  cases h38 : a5.toList == [38, 38]
  case true =>
   have h124 : (a5.toList == [124, 124]) = false := by rw [show a5.toList = [38, 38] by simpa using h38]; rfl
   by_cases hx0 : x = 0
   ·subst hx0
    have hz := hid (show exprB cf (evl cf k) d (bareF fb) ⟨a0, 7, a2, a3, a4, a5⟩ kids m = .ok 0 m1 by rw [hh.out, h38]; rfl)
    have F1 := F1 0
    clear hh c79 c84
    go_wp2_with fail
    rw [HR.out, hz.out]
    exact F1.out
   ·have hx1 : (x == 0) = false := by simpa using hx0
    have hh := hid (show exprB cf (evl cf k) d (bareF fb) ⟨a0, 7, a2, a3, a4, a5⟩ kids m = ((evl cf k).E d (bareF fb) ⟨f0, f1, f2, f3, f4, f5⟩ kl m1).bind fun b m => .ok (truth (b != 0)) m by rw [hh.out]; rw [h38, h124, hx1]; rfl)
    have hnl1 : (evl cf k).E d (bareF fb) ⟨f0, f1, f2, f3, f4, f5⟩ kl m1 ≠ .lost := Out.of_bind (by rw [← hh.out]; exact HNL.out)
    obtain ⟨⟨z0, z1, z2, z3, z4, z5, z6⟩, hs1⟩ := K1.out _ _ V1.out
    simp only [] at z1 z2 z3 z4 z5 z6
    have cx := hid (c79.out m1 ve1 w1 X1.out hs1 hnl1)
    clear hs1 c79 F1
    go_wp2_with fail
    cases ho : (evl cf k).E d (bareF fb) ⟨f0, f1, f2, f3, f4, f5⟩ kl m1 with
    | lost => exact absurd ho hnl1
    | stop a b m2 =>
     rw [ho] at cx hh
     have hh := hid (show _ = Out.stop a b m2 from hh.out)
     refine cx.out.mono ?_
     rintro e w2 ⟨rfl, ve2, d2, hM2, hV2⟩
     have F1 : Hid (PostM p cf.allowed n d w.heap.size ve (fun x => .returned (.int .u32 x)) (.stop a b m2) w (endE a b) w2) := hid (fin_stop hM2 ((V0.out.trans V1.out).trans hV2) rfl)
     clear hM2 hV2 cx
     go_wp2_with fail
     refine bp_panic ?_
     rw [HR.out, hh.out]
     exact F1.out
    | ok y m2 =>
     rw [ho] at cx hh
     refine cx.out.mono ?_
     rintro e w2 ⟨rfl, hU2, ve2, hX2, hV2⟩
     have e5 := E5.out _ _ (V1.out.trans hV2)
     have F1 : Hid (PostM p cf.allowed n d w.heap.size ve (fun x => .returned (.int .u32 x)) (.ok (truth (y != 0)) m2) w (.returned (.int .u32 (truth (y != 0)))) w2) := hid (fin_ok hX2 ((V0.out.trans V1.out).trans hV2) rfl)
     have hz := hid (show exprB cf (evl cf k) d (bareF fb) ⟨a0, 7, a2, a3, a4, a5⟩ kids m = .ok (truth (y != 0)) m2 from hh.out)
     have c1 := hid (truth117 (y != 0) w2)
     have ht : (if (y != 0) = true then (1 : Int) else 0) = truth (y != 0) := rfl
     rw [ht] at c1
     clear ht hh hX2 hV2 hU2 cx ho hnl1 z0 z1 z2 z3 z4 z5 z6 e6b E6 K0 K1 c84
     go_wp2_with fail
     refine c1.out.mono ?_
     rintro e w3 ⟨rfl, hw3⟩
     subst w3
     clear c1
     go_wp2_with fail
     rw [HR.out, hz.out]
     exact F1.out
  case false =>
   cases h124 : a5.toList == [124, 124]
   case true =>
    by_cases hx0 : x = 0
    ·subst hx0
     have hh := hid (show exprB cf (evl cf k) d (bareF fb) ⟨a0, 7, a2, a3, a4, a5⟩ kids m = ((evl cf k).E d (bareF fb) ⟨f0, f1, f2, f3, f4, f5⟩ kl m1).bind fun b m => .ok (truth (b != 0)) m by rw [hh.out]; rw [h38, h124]; rfl)
     have hnl1 : (evl cf k).E d (bareF fb) ⟨f0, f1, f2, f3, f4, f5⟩ kl m1 ≠ .lost := Out.of_bind (by rw [← hh.out]; exact HNL.out)
     obtain ⟨⟨z0, z1, z2, z3, z4, z5, z6⟩, hs1⟩ := K1.out _ _ V1.out
     simp only [] at z1 z2 z3 z4 z5 z6
     have cx := hid (c79.out m1 ve1 w1 X1.out hs1 hnl1)
     clear hs1 c79 F1
     go_wp2_with fail
     cases ho : (evl cf k).E d (bareF fb) ⟨f0, f1, f2, f3, f4, f5⟩ kl m1 with
     | lost => exact absurd ho hnl1
     | stop a b m2 =>
      rw [ho] at cx hh
      have hh := hid (show _ = Out.stop a b m2 from hh.out)
      refine cx.out.mono ?_
      rintro e w2 ⟨rfl, ve2, d2, hM2, hV2⟩
      have F1 : Hid (PostM p cf.allowed n d w.heap.size ve (fun x => .returned (.int .u32 x)) (.stop a b m2) w (endE a b) w2) := hid (fin_stop hM2 ((V0.out.trans V1.out).trans hV2) rfl)
      clear hM2 hV2 cx
      go_wp2_with fail
      refine bp_panic ?_
      rw [HR.out, hh.out]
      exact F1.out
     | ok y m2 =>
      rw [ho] at cx hh
      refine cx.out.mono ?_
      rintro e w2 ⟨rfl, hU2, ve2, hX2, hV2⟩
      have e5 := E5.out _ _ (V1.out.trans hV2)
      have F1 : Hid (PostM p cf.allowed n d w.heap.size ve (fun x => .returned (.int .u32 x)) (.ok (truth (y != 0)) m2) w (.returned (.int .u32 (truth (y != 0)))) w2) := hid (fin_ok hX2 ((V0.out.trans V1.out).trans hV2) rfl)
      have hz := hid (show exprB cf (evl cf k) d (bareF fb) ⟨a0, 7, a2, a3, a4, a5⟩ kids m = .ok (truth (y != 0)) m2 from hh.out)
      have c1 := hid (truth117 (y != 0) w2)
      have ht : (if (y != 0) = true then (1 : Int) else 0) = truth (y != 0) := rfl
      rw [ht] at c1
      clear ht hh hX2 hV2 hU2 cx ho hnl1 z0 z1 z2 z3 z4 z5 z6 e6b E6 K0 K1 c84
      go_wp2_with fail
      refine c1.out.mono ?_
      rintro e w3 ⟨rfl, hw3⟩
      subst w3
      clear c1
      go_wp2_with fail
      rw [HR.out, hz.out]
      exact F1.out
    ·have hx1 : (x != 0) = true := by simpa using hx0
     have hz := hid (show exprB cf (evl cf k) d (bareF fb) ⟨a0, 7, a2, a3, a4, a5⟩ kids m = .ok 1 m1 by rw [hh.out, h38]; rw [h124, hx1]; rfl)
     have F1 := F1 1
     clear hh c79 c84
     go_wp2_with fail
     rw [HR.out, hz.out]
     exact F1.out
   case false =>
    have hh := hid (show exprB cf (evl cf k) d (bareF fb) ⟨a0, 7, a2, a3, a4, a5⟩ kids m = ((evl cf k).E d (bareF fb) ⟨f0, f1, f2, f3, f4, f5⟩ kl m1).bind fun b m => match workedV aluV a5 ty0 x b with | some x => .ok x m | none => .stop 2 2 m by rw [hh.out]; rw [h38, h124]; rfl)
    have hnl1 : (evl cf k).E d (bareF fb) ⟨f0, f1, f2, f3, f4, f5⟩ kl m1 ≠ .lost := Out.of_bind (by rw [← hh.out]; exact HNL.out)
    obtain ⟨⟨z0, z1, z2, z3, z4, z5, z6⟩, hs1⟩ := K1.out _ _ V1.out
    simp only [] at z1 z2 z3 z4 z5 z6
    have cx := hid (c79.out m1 ve1 w1 X1.out hs1 hnl1)
    clear hs1 c79 F1
    go_wp2_with fail
    cases ho : (evl cf k).E d (bareF fb) ⟨f0, f1, f2, f3, f4, f5⟩ kl m1 with
    | lost => exact absurd ho hnl1
    | stop a b m2 =>
     rw [ho] at cx hh
     have hh := hid (show _ = Out.stop a b m2 from hh.out)
     refine cx.out.mono ?_
     rintro e w2 ⟨rfl, ve2, d2, hM2, hV2⟩
     have F1 : Hid (PostM p cf.allowed n d w.heap.size ve (fun x => .returned (.int .u32 x)) (.stop a b m2) w (endE a b) w2) := hid (fin_stop hM2 ((V0.out.trans V1.out).trans hV2) rfl)
     clear hM2 hV2 cx
     go_wp2_with fail
     refine bp_panic ?_
     rw [HR.out, hh.out]
     exact F1.out
    | ok y m2 =>
     rw [ho] at cx hh
     refine cx.out.mono ?_
     rintro e w2 ⟨rfl, hU2, ve2, hX2, hV2⟩
     have e5 := E5.out _ _ (V1.out.trans hV2)
     have e6 := E6.out _ _ (V1.out.trans hV2)
     obtain ⟨⟨x0, x1, x2, x3, x4, x5, x6⟩, hs2⟩ := K0.out _ _ (V1.out.trans hV2)
     simp only [] at x1 x2 x3 x4 x5 x6
     have X2 := hid hX2
     have V2 := hid ((V0.out.trans V1.out).trans hV2)
     have T2 := hid hs2
     have hyb := hU2.1
     have c118 := hid (fun w => worked118 a5 ty0 x y hyb w)
     clear hX2 hV2 hU2 cx ho hnl1 z0 z1 z2 z3 z4 z5 z6 e6b E6 E5 K0 K1 hs2 hyb
     have hh := hid (show exprB cf (evl cf k) d (bareF fb) ⟨a0, 7, a2, a3, a4, a5⟩ kids m = (match workedV aluV a5 ty0 x y with | some x => .ok x m2 | none => .stop 2 2 m2) from hh.out)
     go_wp2_with fail
     refine wp_region_held_drew (S := (Below w2.heap.size w2)) (by kernel_rfl) (Below.refl _ _).drew (fun hHeld => ?_)
     refine tk 0 ?_ (hy := ?_) (h := ?_)
     rotate_left
     ·intro w' hSw; go_simp; (try with_reducible rfl)
     try simp only [tpa, tpb, tpc, tpd, tpe]
     refine tk 1 ?_ (hy := ?_) (h := ?_)
     rotate_left
     ·intro w' hSw; have q := cell_on e5 hSw; go_simp; (try with_reducible rfl)
     try simp only [tpa, tpb, tpc, tpd, tpe]
     refine tk 2 ?_ (hy := ?_) (h := ?_)
     rotate_left
     ·intro w' hSw; go_simp; (try with_reducible rfl)
     try simp only [tpa, tpb, tpc, tpd, tpe]
     refine tk 3 ?_ (hy := ?_) (h := ?_)
     rotate_left
     ·intro w' hSw; go_simp; (try with_reducible rfl)
     try simp only [tpa, tpb, tpc, tpd, tpe]
     refine tk 4 ?_ (hy := ?_) (h := ?_)
     rotate_left
     ·intro w' hSw; go_simp; (try with_reducible rfl)
     try simp only [tpa, tpb, tpc, tpd, tpe]
     refine tk 5 ?_ (hy := ?_) (h := ?_)
     rotate_left
     ·intro w' hSw; have q := cell_on e6 hSw; go_simp; (try with_reducible rfl)
     try simp only [tpa, tpb, tpc, tpd, tpe]
     refine tk 6 ?_ (hy := ?_) (h := ?_)
     rotate_left
     ·intro w' hSw; go_simp; (try with_reducible rfl)
     try simp only [tpa, tpb, tpc, tpd, tpe]
     refine tk 7 ?_ (hy := ?_) (h := ?_)
     rotate_left
     ·intro w' hSw; have q0 := cell_on x0 hSw; have q1 := cell_on x1 hSw; have q2 := cell_on x2 hSw; have q3 := cell_on x3 hSw; have q4 := cell_on x4 hSw; have q5 := cell_on x5 hSw; have q6 := cell_on x6 hSw; go_simp; (try with_reducible rfl)
     try simp only [tpa, tpb, tpc, tpd, tpe]
     refine tk 9 ?_ (hy := ?_) (h := ?_)
     rotate_left
     ·intro w' hSw; go_simp; (try with_reducible rfl)
     try simp only [tpa, tpb, tpc, tpd, tpe]
     refine tk 10 ?_ (hy := ?_) (h := ?_)
     rotate_left
     ·intro w' hSw; go_simp; (try with_reducible rfl)
     try simp only [tpa, tpb, tpc, tpd, tpe]
     refine tr 8 (h := fun K hK => ?_)
     go_simp
     go_at_call 84
     refine (c84.out m2 ve2 _ (X2.out.c.below hHeld) (T2.out.sub (cells_old_below hHeld))).mono ?_
     rintro e w2 ⟨rfl, hb2⟩
     have hk := hHeld.trans (hb2.mono hHeld.size)
     clear hHeld
     go_wp2_with fail
     refine hK.out _ _ hk (fun hHeld => ?_)
     clear hK K hk
     try simp only [tpa, tpb, tpc, tpd, tpe]
     refine tr 11 (h := fun K hK => ?_)
     go_simp
     go_at_call 118
     refine (c118.out _).mono ?_
     intro e w4 hp
     obtain ⟨he, hb4⟩ := hp
     have hk := hHeld.trans (hb4.mono hHeld.size)
     clear hHeld hb4
     cases hw : workedV aluV a5 ty0 x y with
     | none =>
      rw [hw] at he hh
      have he : e = endE 2 2 := he
      subst he
      have F1 : Hid (PostM p cf.allowed n d w.heap.size ve (fun x => .returned (.int .u32 x)) (.stop 2 2 m2) w (endE 2 2) w4) := hid (fin_stop (X2.out.c.me.below hk) (V2.out.below hk) rfl)
      have hz := hid (show exprB cf (evl cf k) d (bareF fb) ⟨a0, 7, a2, a3, a4, a5⟩ kids m = .stop 2 2 m2 from hh.out)
      clear hK hk hh
      go_wp2_with fail
      refine bp_panic ?_
      rw [HR.out, hz.out]
      exact F1.out
     | some r =>
      rw [hw] at he hh
      have he : e = .returned (.int .u32 r) := he
      subst he
      have F1 : Hid (PostM p cf.allowed n d w.heap.size ve (fun x => .returned (.int .u32 x)) (.ok r m2) w (.returned (.int .u32 r)) w4) := hid (fin_ok (X2.out.below hk) (V2.out.below hk) rfl)
      have hz := hid (show exprB cf (evl cf k) d (bareF fb) ⟨a0, 7, a2, a3, a4, a5⟩ kids m = .ok r m2 from hh.out)
      clear hh
      go_wp2_with fail
      refine hK.out _ _ hk (fun hHeld => ?_)
      clear hK K hk
      try simp only [tpa, tpb, tpc, tpd, tpe]
      refine tk 12 ?_ (hy := ?_) (h := ?_)
      rotate_left
      ·intro w' hSw; go_simp; (try with_reducible rfl)
      try simp only [tpa, tpb, tpc, tpd, tpe]
      refine wpAnyH_done (by kernel_rfl) ?_ _
      go_wp2_with fail
      rw [HR.out, hz.out]
      exact F1.out
end
end Go.Proofs.YtlabadkfkbenoaaGreatDoor
