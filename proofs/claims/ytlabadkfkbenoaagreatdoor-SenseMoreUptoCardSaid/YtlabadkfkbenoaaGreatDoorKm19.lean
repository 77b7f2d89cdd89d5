/- Walks and plain laws, merged: IntN IntQ. No condition. -/
import Derived.Test.YtlabadkfkbenoaaGreatDoorKm01
import Derived.Test.YtlabadkfkbenoaaGreatDoorKm18
namespace Go.Proofs.YtlabadkfkbenoaaGreatDoor
open Go.RowKit
set_option linter.unusedVariables false
set_option linter.unusedSimpArgs false
set_option maxRecDepth 100000
set_option maxHeartbeats 64000000
section
open Go.Shelf
theorem unary81 (p : Pt) (cf : Cf) (u : UT) (n : Nat) (shp : List Nat) (k d : Nat) (m : MS) (ve : EvS) (F : Nat) (fb : List BSc) (g cap : Nat) (ms : List Nat) (a0 a2 a3 : Int) (a4 a5 : ByteArray) (kids : Exs) (v : Value) (ty : Int) (w : World) (ha : cf.alu = aluV) (HE : Hid (WEx p cf u n shp k)) (hx : XT cf (tysF fb) ⟨a0, 6, a2, a3, a4, a5⟩ kids ty) (hkw : kids.Wf) (hv : SlE (onlyW w (oldB p.B)) false none kids v) (hX : CtX p cf u n shp d m ve F fb g cap ms w) (hnl : exprB cf (evl cf k) d (bareF fb) ⟨a0, 6, a2, a3, a4, a5⟩ kids m ≠ .lost) :
  Calls Tryz.prog 81 #[.pointer (some ⟨p.M, 0, none⟩), .pointer (some ⟨F, 0, none⟩), aggE a0 ⟨a0, 6, a2, a3, a4, a5⟩ v] w (PostM p cf.allowed n d w.heap.size ve (fun x => .returned (.int .u32 x)) (exprB cf (evl cf k) d (bareF fb) ⟨a0, 6, a2, a3, a4, a5⟩ kids m) w) := by
 obtain ⟨ka, kc, rfl⟩ := hv.shape'
 obtain ⟨ks, hks, hty⟩ := hx.kinds
 have hn := okH_n hx.ok
 obtain ⟨R, hR⟩ : ∃ x, x = (PostM p cf.allowed n d w.heap.size ve (fun x => .returned (.int .u32 x)) (exprB cf (evl cf k) d (bareF fb) ⟨a0, 6, a2, a3, a4, a5⟩ kids m) w) := ⟨_, rfl⟩
 rw [← hR]
 have HR := hid hR
 clear hR
 simp only [] at hn ⊢
 have hl : kids.len = 1 := hn.2.2.1 (by trivial)
 obtain ⟨len, hlen⟩ : ∃ q, q = kids.len := ⟨_, rfl⟩
 rw [← hlen] at hv hl hn ⊢
 have hl0 : 0 < len := by omega
 obtain ⟨b0, o0, t0, xa0, xc0, k0, hk0, hka0, hr0, hs0⟩ := hv.kidW (w' := w) 0 (by omega)
 obtain ⟨ty0, hx0, hy0⟩ := tyE_xt hx.kids hks 0 k0 hk0
 have hw0 := Exs.wf_at hkw 0 k0 hk0
 have hk0 := hid hk0
 subst hka0
 have hB0 := (Below.refl w.heap.size w).alloc (Nat.le_refl _) (.cells #[.int .i64 a0, .int .u8 6, .int .u32 a2, .int .u8 a3, .string a4, .string a5, .slice (some ⟨b0, o0, none⟩) len kc] 134)
 have hX0 := hX.below hB0
 have hb0 := Bx.new w #[.int .i64 a0, .int .u8 6, .int .u32 a2, .int .u8 a3, .string a4, .string a5, .slice (some ⟨b0, o0, none⟩) len kc] 134
 have K0 : Hid (∀ w' ve', KV p ve ve' (w.alloc (.cells #[.int .i64 a0, .int .u8 6, .int .u32 a2, .int .u8 a3, .string a4, .string a5, .slice (some ⟨b0, o0, none⟩) len kc] 134)) w' → KidR w' b0 (o0) t0 k0 (.slice xa0 k0.2.len xc0) ∧ SlE (onlyW w' (oldB p.B)) false none k0.2 (.slice xa0 k0.2.len xc0)) := hid fun w' ve' hk => ⟨by
  have h := ((hr0.sub (cells_old_below hB0)).sub (hX0.c.cells hk.k)).sub (cells_only _ _)
  simpa only [Nat.zero_mul, Nat.add_zero, Nat.one_mul] using h, (hs0.sub (cells_old_below hB0)).sub (hX0.c.cells hk.k)⟩
 have E5 : Hid (∀ w' ve', KV p ve ve' (w.alloc (.cells #[.int .i64 a0, .int .u8 6, .int .u32 a2, .int .u8 a3, .string a4, .string a5, .slice (some ⟨b0, o0, none⟩) len kc] 134)) w' → w'.cell? ⟨w.heap.size, 5, none⟩ = some (.string a5)) := hid fun w' ve' hk => by simpa using hX0.c.boxcell (i := 5) hk.k hb0 (by decide) (by decide) (by decide)
 have E6 : Hid (∀ w' ve', KV p ve ve' (w.alloc (.cells #[.int .i64 a0, .int .u8 6, .int .u32 a2, .int .u8 a3, .string a4, .string a5, .slice (some ⟨b0, o0, none⟩) len kc] 134)) w' → w'.cell? ⟨w.heap.size, 6, none⟩ = some (.slice (some ⟨b0, o0, none⟩) len kc)) := hid fun w' ve' hk => by simpa using hX0.c.boxcell (i := 6) hk.k hb0 (by decide) (by decide) (by decide)
 have e6 := E6.out _ _ (KV.refl _ _ _)
 obtain ⟨⟨y0, y1, y2, y3, y4, y5, y6⟩, hs9⟩ := K0.out _ _ (KV.refl _ _ _)
 have hh := hid (show exprB cf (evl cf k) d (bareF fb) ⟨a0, 6, a2, a3, a4, a5⟩ kids m = _ by rw [exprB_6, evK_at hk0.out])
 have hnl0 : (evl cf k).E d (bareF fb) k0.1 k0.2 m ≠ .lost := Out.of_bind (by rw [← hh.out]; exact hnl)
 have htk := hid (typK_at (cf := cf) hk0.out hx0)
 rw [htk.out, ha] at hh
 have cx := hid (HE.out d m ve F fb g cap ms t0 k0.1 k0.2 _ ty0 _ hx0 hw0.1 hw0.2 hs9 hX0 hnl0)
 have c84 := hid (fun (m1 : MS) (ve1 : EvS) (w1 : World) (hC : CtR p cf u n d m1 ve1 F fb g cap ms w1) (hs : SlE (onlyW w1 (oldB p.B)) false none k0.2 (.slice xa0 k0.2.len xc0)) => typ84 p cf u n d m1 ve1 F fb g cap ms (k0.2.sz + 1) t0 k0.1 k0.2 _ ty0 w1 (Nat.lt_succ_self _) hx0 hs hC)
 have V0 := hid (KV.of p ve hB0)
 obtain ⟨⟨c0, c1, c2, c3, c4, c5⟩, kk⟩ := k0
 simp only [] at y1 y2 y3 y4 y5 y6
 clear hx hkw hv hr0 hs0 hs9 hx0 hy0 hw0 hty hks hn hnl HE hX0 hX hb0 hB0 hl hlen htk ha
 go_enter Tryz.func81, Tryz.ntmps81
 go_wp2_with fail
 cases ho : (evl cf k).E d (bareF fb) ⟨c0, c1, c2, c3, c4, c5⟩ kk m with
 | lost => exact absurd ho hnl0
 | stop a b m1 =>
  try simp only [] at cx hh
  rw [ho] at cx hh
  have hh := hid (show _ = Out.stop a b m1 from hh.out)
  refine cx.out.mono ?_
  rintro e w1 ⟨rfl, ve1, d1, hM1, hV1⟩
  have F1 : Hid (PostM p cf.allowed n d w.heap.size ve (fun x => .returned (.int .u32 x)) (.stop a b m1) w (endE a b) w1) := hid (fin_stop hM1 (V0.out.trans hV1) rfl)
  clear hM1 hV1 cx
  go_wp2_with fail
  refine bp_panic ?_
  rw [HR.out, hh.out]
  exact F1.out
 | ok x m1 =>
  try simp only [] at cx hh
  rw [ho] at cx hh
  have hh := hid (show _ = (if (a5.toList == [126]) = true then Out.ok (unaryV 49 x) m1 else if (a5.toList == [33]) = true then .ok (truth (x == 0)) m1 else if ty0 = 2 then .ok (unaryV 53 x) m1 else .ok (unaryV 38 x) m1) from hh.out)
  refine cx.out.mono ?_
  rintro e w1 ⟨rfl, hU, ve1, hX1, hV1⟩
  have e5 := E5.out _ _ hV1
  have e6b := E6.out _ _ hV1
  obtain ⟨⟨z0, z1, z2, z3, z4, z5, z6⟩, hs1⟩ := K0.out _ _ hV1
  simp only [] at z1 z2 z3 z4 z5 z6
  have F1 : ∀ y, Hid (PostM p cf.allowed n d w.heap.size ve (fun x => .returned (.int .u32 x)) (.ok y m1) w (.returned (.int .u32 y)) w1) := fun y => hid (fin_ok hX1 (V0.out.trans hV1) rfl)
  have cty := hid (c84.out m1 ve1 w1 hX1.c hs1)
  have F84 : ∀ y w2, Below w1.heap.size w1 w2 → Hid (PostM p cf.allowed n d w.heap.size ve (fun x => .returned (.int .u32 x)) (.ok y m1) w (.returned (.int .u32 y)) w2) := fun y w2 hb => hid (fin_ok (hX1.below hb) ((V0.out.trans hV1).below hb) rfl)
  have E5b := E5
  have E5w := hid (show ∀ w2, Below w1.heap.size w1 w2 → _ from fun w2 hb => cell_on e5 hb)
  clear hX1 hV1 cx hs1 c84 ho hnl0 y0 y1 y2 y3 y4 y5 y6 e6 E5 E5b K0 E6 V0
  cases h126 : a5.toList == [126]
  case true =>
   have F1 := F1 (unaryV 49 x)
   have hz := hid (show exprB cf (evl cf k) d (bareF fb) ⟨a0, 6, a2, a3, a4, a5⟩ kids m = .ok (unaryV 49 x) m1 by rw [hh.out, h126]; rfl)
   clear hh cty F84 E5w
   have c1 := hid (unary86_49 x w1)
   have c2 := hid (of85 (unaryV 49 x) 0 w1)
   generalize unaryV 49 x = y at c1 c2 hz F1
   go_wp2_with fail
   refine c1.out.mono ?_
   rintro e w3 ⟨rfl, hw3⟩
   subst w3
   clear c1
   go_wp2_with fail
   refine c2.out.mono ?_
   rintro e w3 ⟨rfl, hw3⟩
   subst w3
   clear c2
   go_wp2_with fail
   rw [HR.out, hz.out]
   exact F1.out
  case false =>
   cases h33 : a5.toList == [33]
   case true =>
    have F1 := F1 (truth (x == 0))
    have hz := hid (show exprB cf (evl cf k) d (bareF fb) ⟨a0, 6, a2, a3, a4, a5⟩ kids m = .ok (truth (x == 0)) m1 by rw [hh.out, h126, h33]; rfl)
    clear hh cty F84 E5w
    have c1 := hid (truth117 (x == 0) w1)
    have ht : (if (x == 0) = true then (1 : Int) else 0) = truth (x == 0) := rfl
    rw [ht] at c1
    generalize truth (x == 0) = y at c1 hz F1
    clear ht
    go_wp2_with fail
    refine c1.out.mono ?_
    rintro e w3 ⟨rfl, hw3⟩
    subst w3
    clear c1
    go_wp2_with fail
    rw [HR.out, hz.out]
    exact F1.out
   case false =>
    by_cases h2 : ty0 = 2
    ·have hz := hid (show exprB cf (evl cf k) d (bareF fb) ⟨a0, 6, a2, a3, a4, a5⟩ kids m = .ok (unaryV 53 x) m1 by rw [hh.out, h126, h33]; simp [h2])
     clear hh F1
     go_wp2_with fail
     refine cty.out.mono ?_
     rintro e w2 ⟨rfl, hb2⟩
     have F1 := F84 (unaryV 53 x) w2 hb2
     have e5 := E5w.out w2 hb2
     clear hb2 cty F84 E5w
     have c1 := hid (unary86_53 x w2)
     have c2 := hid (of85 (unaryV 53 x) 0 w2)
     generalize unaryV 53 x = y at c1 c2 hz F1
     go_wp2_with fail
     refine c1.out.mono ?_
     rintro e w3 ⟨rfl, hw3⟩
     subst w3
     clear c1
     go_wp2_with fail
     refine c2.out.mono ?_
     rintro e w3 ⟨rfl, hw3⟩
     subst w3
     clear c2
     go_wp2_with fail
     rw [HR.out, hz.out]
     exact F1.out
    ·have hz := hid (show exprB cf (evl cf k) d (bareF fb) ⟨a0, 6, a2, a3, a4, a5⟩ kids m = .ok (unaryV 38 x) m1 by rw [hh.out, h126, h33]; simp [h2])
     clear hh F1
     go_wp2_with fail
     refine cty.out.mono ?_
     rintro e w2 ⟨rfl, hb2⟩
     have F1 := F84 (unaryV 38 x) w2 hb2
     have e5 := E5w.out w2 hb2
     clear hb2 cty F84 E5w
     have c1 := hid (unary86_38 x w2)
     have c2 := hid (of85 (unaryV 38 x) 0 w2)
     generalize unaryV 38 x = y at c1 c2 hz F1
     go_wp2_with fail
     refine c1.out.mono ?_
     rintro e w3 ⟨rfl, hw3⟩
     subst w3
     clear c1
     go_wp2_with fail
     refine c2.out.mono ?_
     rintro e w3 ⟨rfl, hw3⟩
     subst w3
     clear c2
     go_wp2_with fail
     rw [HR.out, hz.out]
     exact F1.out
theorem cast83 (p : Pt) (cf : Cf) (u : UT) (n : Nat) (shp : List Nat) (k d : Nat) (m : MS) (ve : EvS) (F : Nat) (fb : List BSc) (g cap : Nat) (ms : List Nat) (a0 a2 a3 : Int) (a4 a5 : ByteArray) (kids : Exs) (v : Value) (ty : Int) (w : World) (ha : cf.alu = aluV) (HE : Hid (WEx p cf u n shp k)) (hx : XT cf (tysF fb) ⟨a0, 8, a2, a3, a4, a5⟩ kids ty) (hkw : kids.Wf) (hv : SlE (onlyW w (oldB p.B)) false none kids v) (hX : CtX p cf u n shp d m ve F fb g cap ms w) (hnl : exprB cf (evl cf k) d (bareF fb) ⟨a0, 8, a2, a3, a4, a5⟩ kids m ≠ .lost) :
  Calls Tryz.prog 83 #[.pointer (some ⟨F, 0, none⟩), aggE a0 ⟨a0, 8, a2, a3, a4, a5⟩ v, .pointer (some ⟨p.kc, 0, none⟩)] w (PostM p cf.allowed n d w.heap.size ve (fun x => .returned (.int .u32 x)) (exprB cf (evl cf k) d (bareF fb) ⟨a0, 8, a2, a3, a4, a5⟩ kids m) w) := by
 obtain ⟨ka, kc, rfl⟩ := hv.shape'
 obtain ⟨ks, hks, hty⟩ := hx.kinds
 have hn := okH_n hx.ok
 obtain ⟨R, hR⟩ : ∃ x, x = (PostM p cf.allowed n d w.heap.size ve (fun x => .returned (.int .u32 x)) (exprB cf (evl cf k) d (bareF fb) ⟨a0, 8, a2, a3, a4, a5⟩ kids m) w) := ⟨_, rfl⟩
 rw [← hR]
 have HR := hid hR
 clear hR
 simp only [] at hn ⊢
 have hl : kids.len = 1 := hn.2.2.2.2.1 (by trivial)
 obtain ⟨len, hlen⟩ : ∃ q, q = kids.len := ⟨_, rfl⟩
 rw [← hlen] at hv hl hn ⊢
 have hl0 : 0 < len := by omega
 obtain ⟨b0, o0, t0, xa0, xc0, k0, hk0, hka0, hr0, hs0⟩ := hv.kidW (w' := w) 0 (by omega)
 obtain ⟨ty0, hx0, hy0⟩ := tyE_xt hx.kids hks 0 k0 hk0
 have hw0 := Exs.wf_at hkw 0 k0 hk0
 have hk0 := hid hk0
 subst hka0
 have hB0 := (Below.refl w.heap.size w).alloc (Nat.le_refl _) (.cells #[.int .i64 a0, .int .u8 8, .int .u32 a2, .int .u8 a3, .string a4, .string a5, .slice (some ⟨b0, o0, none⟩) len kc] 134)
 have hX0 := hX.below hB0
 have hb0 := Bx.new w #[.int .i64 a0, .int .u8 8, .int .u32 a2, .int .u8 a3, .string a4, .string a5, .slice (some ⟨b0, o0, none⟩) len kc] 134
 clear hl hlen hn
 go_enter Tryz.func83, Tryz.ntmps83
 go_wp2_with fail
 generalize w.alloc (.cells #[.int .i64 a0, .int .u8 8, .int .u32 a2, .int .u8 a3, .string a4, .string a5, .slice (some ⟨b0, o0, none⟩) len kc] 134) = w0 at hX0 hb0 hB0 ⊢
 have K0 : Hid (∀ w', Kpt (p.TE ve) w0.heap.size w0 w' → KidR w' b0 (o0) t0 k0 (.slice xa0 k0.2.len xc0)) := hid fun w' hk => by
  have h := ((hr0.sub (cells_old_below hB0)).sub (hX0.c.cells hk)).sub (cells_only _ _)
  simpa only [Nat.zero_mul, Nat.add_zero, Nat.one_mul] using h
 have E3 : Hid (∀ w', Kpt (p.TE ve) w0.heap.size w0 w' → w'.cell? ⟨w.heap.size, 3, none⟩ = some (.int .u8 a3)) := hid fun w' hk => by simpa using hX0.c.boxcell (i := 3) hk hb0 (by decide) (by decide) (by decide)
 have E6 : Hid (∀ w', Kpt (p.TE ve) w0.heap.size w0 w' → w'.cell? ⟨w.heap.size, 6, none⟩ = some (.slice (some ⟨b0, o0, none⟩) len kc)) := hid fun w' hk => by simpa using hX0.c.boxcell (i := 6) hk hb0 (by decide) (by decide) (by decide)
 have EK : Hid (∀ w', Kpt (p.TE ve) w0.heap.size w0 w' → w'.cell? ⟨p.kc, 0, none⟩ = some (.pointer (some ⟨p.M, 0, none⟩))) := hid fun w' hk => by simpa using hX0.c.boxcell (i := 0) hk hX0.c.st.kbox (by decide) (by decide) (by decide)
 have DR := hid ((KV.of p ve hB0).below (Below.refl w0.heap.size w0).drew)
 have hh := hid (show exprB cf (evl cf k) d (bareF fb) ⟨a0, 8, a2, a3, a4, a5⟩ kids m = _ by rw [exprB_8, evK_at hk0.out])
 have hnl0 : (evl cf k).E d (bareF fb) k0.1 k0.2 m ≠ .lost := Out.of_bind (by rw [← hh.out]; exact hnl)
 have htk := hid (typK_at (cf := cf) hk0.out hx0)
 rw [htk.out, ha] at hh
 have X0d := hid (hX0.below (Below.refl _ _).drew)
 have T0 := hid ((hs0.sub (cells_old_below hB0)))
 have X0 := hid hX0
 have c84 := hid (typ84 p cf u n d m ve F fb g cap ms (k0.2.sz + 1) t0 k0.1 k0.2 (.slice xa0 k0.2.len xc0) ty0 w0.drew (Nat.lt_succ_self _) hx0 (T0.out.sub (cells_old_below (Below.refl _ _).drew)) X0d.out.c)
 have c79 := hid (fun (w1 : World) (hb : Below w0.heap.size w0 w1) => HE.out d m ve F fb g cap ms t0 k0.1 k0.2 (.slice xa0 k0.2.len xc0) ty0 w1 hx0 hw0.1 hw0.2 (T0.out.sub (cells_old_below hb)) (X0.out.below hb) hnl0)
 obtain ⟨⟨c0, c1, c2, c3, c4, c5⟩, kk⟩ := k0
 simp only [] at c84 c79
 have B0 := hid hB0
 clear hx hkw hv hr0 hs0 hx0 hy0 hw0 hty hks hnl HE hX hX0 hb0 hB0 htk ha X0d T0
 refine wp_region_held_drew (S := (Kpt (p.TE ve) w0.heap.size w0)) (by kernel_rfl) (Kpt.of (Below.refl _ _).drew) (fun hHeld => ?_)
 refine tk 0 ?_ (hy := by intro w' hSw; have q := EK.out w' hSw; go_simp; (try with_reducible rfl))
 refine tk 1 ?_
 refine tk 2 ?_
 refine tk 3 ?_ (hy := by intro w' hSw; have q := E6.out w' hSw; go_simp; (try with_reducible rfl))
 refine tk 4 ?_
 refine tk 5 ?_ (hy := by intro w' hSw; obtain ⟨q0, q1, q2, q3, q4, q5, q6⟩ := K0.out w' hSw; go_simp; (try with_reducible rfl))
 refine tr 6 fun K hK => ?_
 go_simp
 go_at_call 84
 refine (c84.out).mono ?_
 rintro e w2 ⟨rfl, hb2⟩
 have hk := hHeld.trans (Kpt.of (hb2.mono hHeld.size))
 have B2 := hid ((Below.refl w0.heap.size w0).drew.trans (hb2.mono (Below.refl w0.heap.size w0).drew.size))
 clear hb2 c84
 clear hHeld
 go_wp2_with fail
 refine hK.out _ _ hk (fun hHeld => ?_)
 clear hK K hk
 try simp only [tpa, tpb, tpc, tpd, tpe]
 refine tk 7 ?_
 refine td ?_
 go_wp2_with fail
 have K2 := hid hHeld
 clear hHeld
 refine wp_region_held_drew (S := (Kpt (p.TE ve) w0.heap.size w0)) (by kernel_rfl) (K2.out.trans (Kpt.of ((Below.refl _ _).drew.mono K2.out.size))) (fun hHeld => ?_)
 refine tk 0 ?_ (hy := by intro w' hSw; have q := EK.out w' hSw; go_simp; (try with_reducible rfl))
 refine tk 1 ?_
 refine tk 2 ?_
 refine tk 3 ?_ (hy := by intro w' hSw; have q := E6.out w' hSw; go_simp; (try with_reducible rfl))
 refine tk 4 ?_
 refine tk 5 ?_ (hy := by intro w' hSw; obtain ⟨q0, q1, q2, q3, q4, q5, q6⟩ := K0.out w' hSw; go_simp; (try with_reducible rfl))
 refine tr 6 fun K hK => ?_
 go_simp
 go_at_call 79
 have cx := hid (c79.out _ (B2.out.trans ((Below.refl _ _).drew.mono B2.out.size)))
 have V0 := hid ((KV.of p ve B0.out).below (B2.out.trans ((Below.refl _ _).drew.mono B2.out.size)))
 have W0 := hid (KV.of p ve (B2.out.trans ((Below.refl _ _).drew.mono B2.out.size)))
 clear c79 K2 K0
 cases ho : (evl cf k).E d (bareF fb) ⟨c0, c1, c2, c3, c4, c5⟩ kk m with
 | lost => exact absurd ho hnl0
 | stop a b m1 =>
  try simp only [] at cx hh
  rw [ho] at cx hh
  have hh := hid (show _ = Out.stop a b m1 from hh.out)
  refine cx.out.mono ?_
  rintro e w1 ⟨rfl, ve1, d1, hM1, hV1⟩
  have F1 : Hid (PostM p cf.allowed n d w.heap.size ve (fun x => .returned (.int .u32 x)) (.stop a b m1) w (endE a b) w1) := hid (fin_stop hM1 (V0.out.trans hV1) rfl)
  clear hM1 hV1 cx hK hHeld
  go_wp2_with fail
  refine bp_panic ?_
  rw [HR.out, hh.out]
  exact F1.out
 | ok x m1 =>
  try simp only [] at cx hh
  rw [ho] at cx hh
  have hh := hid (show _ = (if ty0 = a3 then Out.ok x m1 else if a3 = 1 then .ok (unaryV 59 x) m1 else .ok (unaryV 58 x) m1) from hh.out)
  refine cx.out.mono ?_
  rintro e w1 ⟨rfl, hU, ve1, hX1, hV1⟩
  have e3 := E3.out w1 (W0.out.trans hV1).k
  have hk := (W0.out.trans hV1).k
  have F1 : ∀ y, Hid (PostM p cf.allowed n d w.heap.size ve (fun x => .returned (.int .u32 x)) (.ok y m1) w (.returned (.int .u32 y)) w1) := fun y => hid (fin_ok hX1 (V0.out.trans hV1) rfl)
  clear hHeld hX1 hV1 hU cx ho hnl0 E3 E6 EK V0 W0 X0 B0 B2 DR
  go_wp2_with fail
  refine hK.out _ _ hk (fun hHeld => ?_)
  clear hK K hk
  try simp only [tpa, tpb, tpc, tpd, tpe]
  refine tk 7 ?_
  refine td ?_
  by_cases h1 : ty0 = a3
  ·subst h1
   have hz := hid (show exprB cf (evl cf k) d (bareF fb) ⟨a0, 8, a2, ty0, a4, a5⟩ kids m = .ok x m1 by rw [hh.out]; simp)
   have F1 := F1 x
   clear hh
   go_wp2_with fail
   rw [HR.out, hz.out]
   exact F1.out
  ·by_cases h2 : a3 = 1
   ·subst h2
    have hz := hid (show exprB cf (evl cf k) d (bareF fb) ⟨a0, 8, a2, 1, a4, a5⟩ kids m = .ok (unaryV 59 x) m1 by rw [hh.out]; simp [h1])
    have F1 := F1 (unaryV 59 x)
    have c1 := hid (unary86_59 x w1)
    have c2 := hid (of85 (unaryV 59 x) 0 w1)
    generalize unaryV 59 x = y at c1 c2 hz F1
    clear hh
    go_wp2_with fail
    refine c1.out.mono ?_
    rintro e w3 ⟨rfl, hw3⟩
    subst w3
    clear c1
    go_wp2_with fail
    refine c2.out.mono ?_
    rintro e w3 ⟨rfl, hw3⟩
    subst w3
    clear c2
    go_wp2_with fail
    rw [HR.out, hz.out]
    exact F1.out
   ·have hne : (ty0 == a3) = false := by simpa using h1
    have hne2 : (a3 == 1) = false := by simpa using h2
    have hz := hid (show exprB cf (evl cf k) d (bareF fb) ⟨a0, 8, a2, a3, a4, a5⟩ kids m = .ok (unaryV 58 x) m1 by rw [hh.out]; simp [h1, h2])
    have F1 := F1 (unaryV 58 x)
    have c1 := hid (unary86_58 x w1)
    have c2 := hid (of85 (unaryV 58 x) 0 w1)
    generalize unaryV 58 x = y at c1 c2 hz F1
    clear hh
    go_wp2_with fail
    refine c1.out.mono ?_
    rintro e w3 ⟨rfl, hw3⟩
    subst w3
    clear c1
    go_wp2_with fail
    refine c2.out.mono ?_
    rintro e w3 ⟨rfl, hw3⟩
    subst w3
    clear c2
    go_wp2_with fail
    rw [HR.out, hz.out]
    exact F1.out
theorem binary82 (p : Pt) (cf : Cf) (u : UT) (n : Nat) (shp : List Nat) (k d : Nat) (m : MS) (ve : EvS) (F : Nat) (fb : List BSc) (g cap : Nat) (ms : List Nat) (a0 a2 a3 : Int) (a4 a5 : ByteArray) (kids : Exs) (v : Value) (ty : Int) (w : World) (ha : cf.alu = aluV) (HE : Hid (WEx p cf u n shp k)) (hx : XT cf (tysF fb) ⟨a0, 7, a2, a3, a4, a5⟩ kids ty) (hkw : kids.Wf) (hv : SlE (onlyW w (oldB p.B)) false none kids v) (hX : CtX p cf u n shp d m ve F fb g cap ms w) (hnl : exprB cf (evl cf k) d (bareF fb) ⟨a0, 7, a2, a3, a4, a5⟩ kids m ≠ .lost) :
  Calls Tryz.prog 82 #[.pointer (some ⟨p.M, 0, none⟩), .pointer (some ⟨F, 0, none⟩), aggE a0 ⟨a0, 7, a2, a3, a4, a5⟩ v] w (PostM p cf.allowed n d w.heap.size ve (fun x => .returned (.int .u32 x)) (exprB cf (evl cf k) d (bareF fb) ⟨a0, 7, a2, a3, a4, a5⟩ kids m) w) := by
 obtain ⟨ka, kc, rfl⟩ := hv.shape'
 obtain ⟨ks, hks, hty⟩ := hx.kinds
 have hn := okH_n hx.ok
 obtain ⟨R, hR⟩ : ∃ x, x = (PostM p cf.allowed n d w.heap.size ve (fun x => .returned (.int .u32 x)) (exprB cf (evl cf k) d (bareF fb) ⟨a0, 7, a2, a3, a4, a5⟩ kids m) w) := ⟨_, rfl⟩
 rw [← hR]
 have HR := hid hR
 clear hR
 simp only [] at hn ⊢
 have hl : kids.len = 2 := hn.2.2.2.1 (by trivial)
 obtain ⟨len, hlen⟩ : ∃ q, q = kids.len := ⟨_, rfl⟩
 rw [← hlen] at hv hl hn ⊢
 have hl0 : 0 < len := by omega
 have hl1 : 1 < len := by omega
 have hl2 : (1 : Int) < (len : Int) := by omega
 obtain ⟨b0, o0, t0, xa0, xc0, k0, hk0, hka0, hr0, hs0⟩ := hv.kidW (w' := w) 0 (by omega)
 obtain ⟨ty0, hx0, hy0⟩ := tyE_xt hx.kids hks 0 k0 hk0
 have hw0 := Exs.wf_at hkw 0 k0 hk0
 have hk0 := hid hk0
 obtain ⟨b1, o1, t1, xa1, xc1, k1, hk1, hka1, hr1, hs1⟩ := hv.kidW (w' := w) 1 (by omega)
 obtain ⟨ty1, hx1, hy1⟩ := tyE_xt hx.kids hks 1 k1 hk1
 have hw1 := Exs.wf_at hkw 1 k1 hk1
 have hk1 := hid hk1
 subst hka0
 obtain ⟨rfl, rfl⟩ : b1 = b0 ∧ o1 = o0 := by cases hka1; exact ⟨rfl, rfl⟩
 clear hka1
 have hB0 := (Below.refl w.heap.size w).alloc (Nat.le_refl _) (.cells #[.int .i64 a0, .int .u8 7, .int .u32 a2, .int .u8 a3, .string a4, .string a5, .slice (some ⟨b1, o1, none⟩) len kc] 134)
 have hX0 := hX.below hB0
 have hb0 := Bx.new w #[.int .i64 a0, .int .u8 7, .int .u32 a2, .int .u8 a3, .string a4, .string a5, .slice (some ⟨b1, o1, none⟩) len kc] 134
 have K0 : Hid (∀ w' ve', KV p ve ve' (w.alloc (.cells #[.int .i64 a0, .int .u8 7, .int .u32 a2, .int .u8 a3, .string a4, .string a5, .slice (some ⟨b1, o1, none⟩) len kc] 134)) w' → KidR w' b1 (o1) t0 k0 (.slice xa0 k0.2.len xc0) ∧ SlE (onlyW w' (oldB p.B)) false none k0.2 (.slice xa0 k0.2.len xc0)) := hid fun w' ve' hk => ⟨by
  have h := ((hr0.sub (cells_old_below hB0)).sub (hX0.c.cells hk.k)).sub (cells_only _ _)
  simpa only [Nat.zero_mul, Nat.add_zero, Nat.one_mul] using h, (hs0.sub (cells_old_below hB0)).sub (hX0.c.cells hk.k)⟩
 have K1 : Hid (∀ w' ve', KV p ve ve' (w.alloc (.cells #[.int .i64 a0, .int .u8 7, .int .u32 a2, .int .u8 a3, .string a4, .string a5, .slice (some ⟨b1, o1, none⟩) len kc] 134)) w' → KidR w' b1 (o1 + 7) t1 k1 (.slice xa1 k1.2.len xc1) ∧ SlE (onlyW w' (oldB p.B)) false none k1.2 (.slice xa1 k1.2.len xc1)) := hid fun w' ve' hk => ⟨by
  have h := ((hr1.sub (cells_old_below hB0)).sub (hX0.c.cells hk.k)).sub (cells_only _ _)
  simpa only [Nat.zero_mul, Nat.add_zero, Nat.one_mul] using h, (hs1.sub (cells_old_below hB0)).sub (hX0.c.cells hk.k)⟩
 have E5 : Hid (∀ w' ve', KV p ve ve' (w.alloc (.cells #[.int .i64 a0, .int .u8 7, .int .u32 a2, .int .u8 a3, .string a4, .string a5, .slice (some ⟨b1, o1, none⟩) len kc] 134)) w' → w'.cell? ⟨w.heap.size, 5, none⟩ = some (.string a5)) := hid fun w' ve' hk => by simpa using hX0.c.boxcell (i := 5) hk.k hb0 (by decide) (by decide) (by decide)
 have E6 : Hid (∀ w' ve', KV p ve ve' (w.alloc (.cells #[.int .i64 a0, .int .u8 7, .int .u32 a2, .int .u8 a3, .string a4, .string a5, .slice (some ⟨b1, o1, none⟩) len kc] 134)) w' → w'.cell? ⟨w.heap.size, 6, none⟩ = some (.slice (some ⟨b1, o1, none⟩) len kc)) := hid fun w' ve' hk => by simpa using hX0.c.boxcell (i := 6) hk.k hb0 (by decide) (by decide) (by decide)
 have e6 := E6.out _ _ (KV.refl _ _ _)
 obtain ⟨⟨y0, y1, y2, y3, y4, y5, y6⟩, hs9⟩ := K0.out _ _ (KV.refl _ _ _)
 have hh := hid (show exprB cf (evl cf k) d (bareF fb) ⟨a0, 7, a2, a3, a4, a5⟩ kids m = _ by rw [exprB_7, evK_at hk0.out])
 have hnl0 : (evl cf k).E d (bareF fb) k0.1 k0.2 m ≠ .lost := Out.of_bind (by rw [← hh.out]; exact hnl)
 have htk := hid (typK_at (cf := cf) hk0.out hx0)
 rw [htk.out, ha] at hh
 have hek := hid (fun (m1 : MS) => evK_at (ev := evl cf k) (d := d) (fr := bareF fb) (m := m1) hk1.out)
 have cx := hid (HE.out d m ve F fb g cap ms t0 k0.1 k0.2 _ ty0 _ hx0 hw0.1 hw0.2 hs9 hX0 hnl0)
 have c79 := hid (fun (m1 : MS) (ve1 : EvS) (w1 : World) (hX1 : CtX p cf u n shp d m1 ve1 F fb g cap ms w1) (hs : SlE (onlyW w1 (oldB p.B)) false none k1.2 (.slice xa1 k1.2.len xc1)) (hnl1 : (evl cf k).E d (bareF fb) k1.1 k1.2 m1 ≠ .lost) => HE.out d m1 ve1 F fb g cap ms t1 k1.1 k1.2 _ ty1 w1 hx1 hw1.1 hw1.2 hs hX1 hnl1)
 have c84 := hid (fun (m1 : MS) (ve1 : EvS) (w1 : World) (hC : CtR p cf u n d m1 ve1 F fb g cap ms w1) (hs : SlE (onlyW w1 (oldB p.B)) false none k0.2 (.slice xa0 k0.2.len xc0)) => typ84 p cf u n d m1 ve1 F fb g cap ms (k0.2.sz + 1) t0 k0.1 k0.2 _ ty0 w1 (Nat.lt_succ_self _) hx0 hs hC)
 have V0 := hid (KV.of p ve hB0)
 have HNL := hid hnl
 obtain ⟨⟨c0, c1, c2, c3, c4, c5⟩, kk⟩ := k0
 obtain ⟨⟨f0, f1, f2, f3, f4, f5⟩, kl⟩ := k1
 simp only [] at y1 y2 y3 y4 y5 y6 c79 c84
 clear hx hkw hv hr0 hs0 hs9 hx0 hy0 hw0 hr1 hs1 hx1 hy1 hw1 hty hks hn hnl HE hX0 hX hb0 hB0 hl hlen htk ha
 go_enter Tryz.func82, Tryz.ntmps82
 go_wp2_with fail
 cases ho : (evl cf k).E d (bareF fb) ⟨c0, c1, c2, c3, c4, c5⟩ kk m with
 | lost => exact absurd ho hnl0
 | stop a b m1 =>
  try simp only [] at cx hh
  rw [ho] at cx hh
  have hh := hid (show _ = Out.stop a b m1 from hh.out)
  refine cx.out.mono ?_
  rintro e w1 ⟨rfl, ve1, d1, hM1, hV1⟩
  have F1 : Hid (PostM p cf.allowed n d w.heap.size ve (fun x => .returned (.int .u32 x)) (.stop a b m1) w (endE a b) w1) := hid (fin_stop hM1 (V0.out.trans hV1) rfl)
  clear hM1 hV1 cx
  go_wp2_with fail
  refine bp_panic ?_
  rw [HR.out, hh.out]
  exact F1.out
 | ok x m1 =>
  try simp only [] at cx hh
  rw [ho] at cx hh
  have hh := hid (show _ = (if (a5.toList == [38, 38] && x == 0) = true then Out.ok 0 m1 else if (a5.toList == [124, 124] && x != 0) = true then .ok 1 m1 else (evK (evl cf k) d (bareF fb) kids 1 m1).bind fun b m => if (a5.toList == [38, 38] || a5.toList == [124, 124]) = true then .ok (truth (b != 0)) m else match workedV aluV a5 ty0 x b with | some x => .ok x m | none => .stop 2 2 m) from hh.out)
  rw [hek.out] at hh
  refine cx.out.mono ?_
  rintro e w1 ⟨rfl, hU, ve1, hX1, hV1⟩
  have e5 := E5.out _ _ hV1
  have e6b := E6.out _ _ hV1
  have F1 : ∀ y, Hid (PostM p cf.allowed n d w.heap.size ve (fun x => .returned (.int .u32 x)) (.ok y m1) w (.returned (.int .u32 y)) w1) := fun y => hid (fin_ok hX1 (V0.out.trans hV1) rfl)
  have X1 := hid hX1
  have V1 := hid hV1
  have U1 := hid hU
  clear hX1 hV1 hU cx ho hnl0 y0 y1 y2 y3 y4 y5 y6 e6
  cases h38 : a5.toList == [38, 38]
  case true =>
   have h124 : (a5.toList == [124, 124]) = false := by rw [show a5.toList = [38, 38] by simpa using h38]; rfl
   by_cases hx0 : x = 0
   ·subst hx0
    have hz := hid (show exprB cf (evl cf k) d (bareF fb) ⟨a0, 7, a2, a3, a4, a5⟩ kids m = .ok 0 m1 by rw [hh.out, h38]; rfl)
    have F1 := F1 0
    clear hh c79 c84
    go_wp2_with fail
    rw [HR.out, hz.out]
    exact F1.out
   ·have hx1 : (x == 0) = false := by simpa using hx0
    have hh := hid (show exprB cf (evl cf k) d (bareF fb) ⟨a0, 7, a2, a3, a4, a5⟩ kids m = ((evl cf k).E d (bareF fb) ⟨f0, f1, f2, f3, f4, f5⟩ kl m1).bind fun b m => .ok (truth (b != 0)) m by rw [hh.out]; rw [h38, h124, hx1]; rfl)
    have hnl1 : (evl cf k).E d (bareF fb) ⟨f0, f1, f2, f3, f4, f5⟩ kl m1 ≠ .lost := Out.of_bind (by rw [← hh.out]; exact HNL.out)
    obtain ⟨⟨z0, z1, z2, z3, z4, z5, z6⟩, hs1⟩ := K1.out _ _ V1.out
    simp only [] at z1 z2 z3 z4 z5 z6
    have cx := hid (c79.out m1 ve1 w1 X1.out hs1 hnl1)
    clear hs1 c79 F1
    go_wp2_with fail
    cases ho : (evl cf k).E d (bareF fb) ⟨f0, f1, f2, f3, f4, f5⟩ kl m1 with
    | lost => exact absurd ho hnl1
    | stop a b m2 =>
     rw [ho] at cx hh
     have hh := hid (show _ = Out.stop a b m2 from hh.out)
     refine cx.out.mono ?_
     rintro e w2 ⟨rfl, ve2, d2, hM2, hV2⟩
     have F1 : Hid (PostM p cf.allowed n d w.heap.size ve (fun x => .returned (.int .u32 x)) (.stop a b m2) w (endE a b) w2) := hid (fin_stop hM2 ((V0.out.trans V1.out).trans hV2) rfl)
     clear hM2 hV2 cx
     go_wp2_with fail
     refine bp_panic ?_
     rw [HR.out, hh.out]
     exact F1.out
    | ok y m2 =>
     rw [ho] at cx hh
     refine cx.out.mono ?_
     rintro e w2 ⟨rfl, hU2, ve2, hX2, hV2⟩
     have e5 := E5.out _ _ (V1.out.trans hV2)
     have F1 : Hid (PostM p cf.allowed n d w.heap.size ve (fun x => .returned (.int .u32 x)) (.ok (truth (y != 0)) m2) w (.returned (.int .u32 (truth (y != 0)))) w2) := hid (fin_ok hX2 ((V0.out.trans V1.out).trans hV2) rfl)
     have hz := hid (show exprB cf (evl cf k) d (bareF fb) ⟨a0, 7, a2, a3, a4, a5⟩ kids m = .ok (truth (y != 0)) m2 from hh.out)
     have c1 := hid (truth117 (y != 0) w2)
     have ht : (if (y != 0) = true then (1 : Int) else 0) = truth (y != 0) := rfl
     rw [ht] at c1
     clear ht hh hX2 hV2 hU2 cx ho hnl1 z0 z1 z2 z3 z4 z5 z6 e6b E6 K0 K1 c84
     go_wp2_with fail
     refine c1.out.mono ?_
     rintro e w3 ⟨rfl, hw3⟩
     subst w3
     clear c1
     go_wp2_with fail
     rw [HR.out, hz.out]
     exact F1.out
  case false =>
   cases h124 : a5.toList == [124, 124]
   case true =>
    by_cases hx0 : x = 0
    ·subst hx0
     have hh := hid (show exprB cf (evl cf k) d (bareF fb) ⟨a0, 7, a2, a3, a4, a5⟩ kids m = ((evl cf k).E d (bareF fb) ⟨f0, f1, f2, f3, f4, f5⟩ kl m1).bind fun b m => .ok (truth (b != 0)) m by rw [hh.out]; rw [h38, h124]; rfl)
     have hnl1 : (evl cf k).E d (bareF fb) ⟨f0, f1, f2, f3, f4, f5⟩ kl m1 ≠ .lost := Out.of_bind (by rw [← hh.out]; exact HNL.out)
     obtain ⟨⟨z0, z1, z2, z3, z4, z5, z6⟩, hs1⟩ := K1.out _ _ V1.out
     simp only [] at z1 z2 z3 z4 z5 z6
     have cx := hid (c79.out m1 ve1 w1 X1.out hs1 hnl1)
     clear hs1 c79 F1
     go_wp2_with fail
     cases ho : (evl cf k).E d (bareF fb) ⟨f0, f1, f2, f3, f4, f5⟩ kl m1 with
     | lost => exact absurd ho hnl1
     | stop a b m2 =>
      rw [ho] at cx hh
      have hh := hid (show _ = Out.stop a b m2 from hh.out)
      refine cx.out.mono ?_
      rintro e w2 ⟨rfl, ve2, d2, hM2, hV2⟩
      have F1 : Hid (PostM p cf.allowed n d w.heap.size ve (fun x => .returned (.int .u32 x)) (.stop a b m2) w (endE a b) w2) := hid (fin_stop hM2 ((V0.out.trans V1.out).trans hV2) rfl)
      clear hM2 hV2 cx
      go_wp2_with fail
      refine bp_panic ?_
      rw [HR.out, hh.out]
      exact F1.out
     | ok y m2 =>
      rw [ho] at cx hh
      refine cx.out.mono ?_
      rintro e w2 ⟨rfl, hU2, ve2, hX2, hV2⟩
      have e5 := E5.out _ _ (V1.out.trans hV2)
      have F1 : Hid (PostM p cf.allowed n d w.heap.size ve (fun x => .returned (.int .u32 x)) (.ok (truth (y != 0)) m2) w (.returned (.int .u32 (truth (y != 0)))) w2) := hid (fin_ok hX2 ((V0.out.trans V1.out).trans hV2) rfl)
      have hz := hid (show exprB cf (evl cf k) d (bareF fb) ⟨a0, 7, a2, a3, a4, a5⟩ kids m = .ok (truth (y != 0)) m2 from hh.out)
      have c1 := hid (truth117 (y != 0) w2)
      have ht : (if (y != 0) = true then (1 : Int) else 0) = truth (y != 0) := rfl
      rw [ht] at c1
      clear ht hh hX2 hV2 hU2 cx ho hnl1 z0 z1 z2 z3 z4 z5 z6 e6b E6 K0 K1 c84
      go_wp2_with fail
      refine c1.out.mono ?_
      rintro e w3 ⟨rfl, hw3⟩
      subst w3
      clear c1
      go_wp2_with fail
      rw [HR.out, hz.out]
      exact F1.out
    ·have hx1 : (x != 0) = true := by simpa using hx0
     have hz := hid (show exprB cf (evl cf k) d (bareF fb) ⟨a0, 7, a2, a3, a4, a5⟩ kids m = .ok 1 m1 by rw [hh.out, h38]; rw [h124, hx1]; rfl)
     have F1 := F1 1
     clear hh c79 c84
     go_wp2_with fail
     rw [HR.out, hz.out]
     exact F1.out
   case false =>
    have hh := hid (show exprB cf (evl cf k) d (bareF fb) ⟨a0, 7, a2, a3, a4, a5⟩ kids m = ((evl cf k).E d (bareF fb) ⟨f0, f1, f2, f3, f4, f5⟩ kl m1).bind fun b m => match workedV aluV a5 ty0 x b with | some x => .ok x m | none => .stop 2 2 m by rw [hh.out]; rw [h38, h124]; rfl)
    have hnl1 : (evl cf k).E d (bareF fb) ⟨f0, f1, f2, f3, f4, f5⟩ kl m1 ≠ .lost := Out.of_bind (by rw [← hh.out]; exact HNL.out)
    obtain ⟨⟨z0, z1, z2, z3, z4, z5, z6⟩, hs1⟩ := K1.out _ _ V1.out
    simp only [] at z1 z2 z3 z4 z5 z6
    have cx := hid (c79.out m1 ve1 w1 X1.out hs1 hnl1)
    clear hs1 c79 F1
    go_wp2_with fail
    cases ho : (evl cf k).E d (bareF fb) ⟨f0, f1, f2, f3, f4, f5⟩ kl m1 with
    | lost => exact absurd ho hnl1
    | stop a b m2 =>
     rw [ho] at cx hh
     have hh := hid (show _ = Out.stop a b m2 from hh.out)
     refine cx.out.mono ?_
     rintro e w2 ⟨rfl, ve2, d2, hM2, hV2⟩
     have F1 : Hid (PostM p cf.allowed n d w.heap.size ve (fun x => .returned (.int .u32 x)) (.stop a b m2) w (endE a b) w2) := hid (fin_stop hM2 ((V0.out.trans V1.out).trans hV2) rfl)
     clear hM2 hV2 cx
     go_wp2_with fail
     refine bp_panic ?_
     rw [HR.out, hh.out]
     exact F1.out
    | ok y m2 =>
     rw [ho] at cx hh
     refine cx.out.mono ?_
     rintro e w2 ⟨rfl, hU2, ve2, hX2, hV2⟩
     have e5 := E5.out _ _ (V1.out.trans hV2)
     have e6 := E6.out _ _ (V1.out.trans hV2)
     obtain ⟨⟨x0, x1, x2, x3, x4, x5, x6⟩, hs2⟩ := K0.out _ _ (V1.out.trans hV2)
     simp only [] at x1 x2 x3 x4 x5 x6
     have X2 := hid hX2
     have V2 := hid ((V0.out.trans V1.out).trans hV2)
     have T2 := hid hs2
     have hyb := hU2.1
     have c118 := hid (fun w => worked118 a5 ty0 x y hyb w)
     clear hX2 hV2 hU2 cx ho hnl1 z0 z1 z2 z3 z4 z5 z6 e6b E6 E5 K0 K1 hs2 hyb
     have hh := hid (show exprB cf (evl cf k) d (bareF fb) ⟨a0, 7, a2, a3, a4, a5⟩ kids m = (match workedV aluV a5 ty0 x y with | some x => .ok x m2 | none => .stop 2 2 m2) from hh.out)
     go_wp2_with fail
     refine wp_region_held_drew (S := (Below w2.heap.size w2)) (by kernel_rfl) (Below.refl _ _).drew (fun hHeld => ?_)
     refine tk 0 ?_
     refine tk 1 ?_ (hy := by intro w' hSw; have q := cell_on e5 hSw; go_simp; (try with_reducible rfl))
     refine tk 2 ?_
     refine tk 3 ?_
     refine tk 4 ?_
     refine tk 5 ?_ (hy := by intro w' hSw; have q := cell_on e6 hSw; go_simp; (try with_reducible rfl))
     refine tk 6 ?_
     refine tk 7 ?_ (hy := by intro w' hSw; have q0 := cell_on x0 hSw; have q1 := cell_on x1 hSw; have q2 := cell_on x2 hSw; have q3 := cell_on x3 hSw; have q4 := cell_on x4 hSw; have q5 := cell_on x5 hSw; have q6 := cell_on x6 hSw; go_simp; (try with_reducible rfl))
     refine tk 9 ?_
     refine tk 10 ?_
     refine tr 8 fun K hK => ?_
     go_simp
     go_at_call 84
     refine (c84.out m2 ve2 _ (X2.out.c.below hHeld) (T2.out.sub (cells_old_below hHeld))).mono ?_
     rintro e w2 ⟨rfl, hb2⟩
     have hk := hHeld.trans (hb2.mono hHeld.size)
     clear hHeld
     go_wp2_with fail
     refine hK.out _ _ hk (fun hHeld => ?_)
     clear hK K hk
     try simp only [tpa, tpb, tpc, tpd, tpe]
     refine tr 11 fun K hK => ?_
     go_simp
     go_at_call 118
     refine (c118.out _).mono ?_
     intro e w4 hp
     obtain ⟨he, hb4⟩ := hp
     have hk := hHeld.trans (hb4.mono hHeld.size)
     clear hHeld hb4
     cases hw : workedV aluV a5 ty0 x y with
     | none =>
      rw [hw] at he hh
      have he : e = endE 2 2 := he
      subst he
      have F1 : Hid (PostM p cf.allowed n d w.heap.size ve (fun x => .returned (.int .u32 x)) (.stop 2 2 m2) w (endE 2 2) w4) := hid (fin_stop (X2.out.c.me.below hk) (V2.out.below hk) rfl)
      have hz := hid (show exprB cf (evl cf k) d (bareF fb) ⟨a0, 7, a2, a3, a4, a5⟩ kids m = .stop 2 2 m2 from hh.out)
      clear hK hk hh
      go_wp2_with fail
      refine bp_panic ?_
      rw [HR.out, hz.out]
      exact F1.out
     | some r =>
      rw [hw] at he hh
      have he : e = .returned (.int .u32 r) := he
      subst he
      have F1 : Hid (PostM p cf.allowed n d w.heap.size ve (fun x => .returned (.int .u32 x)) (.ok r m2) w (.returned (.int .u32 r)) w4) := hid (fin_ok (X2.out.below hk) (V2.out.below hk) rfl)
      have hz := hid (show exprB cf (evl cf k) d (bareF fb) ⟨a0, 7, a2, a3, a4, a5⟩ kids m = .ok r m2 from hh.out)
      clear hh
      go_wp2_with fail
      refine hK.out _ _ hk (fun hHeld => ?_)
      clear hK K hk
      try simp only [tpa, tpb, tpc, tpd, tpe]
      refine tk 12 ?_
      refine td ?_
      go_wp2_with fail
      rw [HR.out, hz.out]
      exact F1.out
end
section
open Go.Shelf
theorem own_put {w : World} {base : Nat} {e : TypeId} {v : Value} {k : Nat} {ys : List Value} (h : w.ownsRow base e 1 v k ys) {g : Nat} (hg : v.ownBlock = some g) (i : Nat) (u : Value) : (w.setCell ⟨g, i, none⟩ u).ownsRow base e 1 v k (ys.set i u) := by
 obtain ⟨h1, h2⟩ := h
 refine ⟨by simpa using h1, ?_⟩
 rcases h2 with ⟨rfl, _⟩ | ⟨g', cap, cur, rfl, h3, h4, h5, h6, h7, h8⟩
 ·cases hg
 ·cases hg
  refine .inr ⟨g', cap, cur.set! i u, rfl, h3, Bx.set (w := w) (q := g') h4 i u, h5, h6, by simpa using h7, ?_⟩
  rw [← h8]
  simp [List.take_set]
/-! ### a local's word -/
def setB (s : ByteArray) (v : Int) : List BSc → List BSc
 | [] => []
 | c :: r => if (seesB s r).isSome then c :: setB s v r else match getM s c with
  | some x => putM s ((x.1.1, v), x.2) c :: r
  | none => c :: r
theorem seesB_from (s : ByteArray) : ∀ (fb : List BSc) (a : Option ((Int × Int) × Nat)), fb.foldl (fun a sc => match getM s sc with | some t => some t | none => a) a = match seesB s fb with | some x => some x | none => a
 | [], a => rfl
 | c :: r, a => by
  have ih := seesB_from s r
  have e : seesB s (c :: r) = r.foldl (fun a sc => match getM s sc with | some t => some t | none => a) (match getM s c with | some t => some t | none => none) := rfl
  rw [List.foldl_cons, e, ih, ih]
  cases seesB s r with
  | some x => rfl
  | none => cases getM s c <;> rfl
theorem seesB_cons (s : ByteArray) (c : BSc) (r : List BSc) : seesB s (c :: r) = match seesB s r with | some x => some x | none => getM s c := by
 have e : seesB s (c :: r) = r.foldl (fun a sc => match getM s sc with | some t => some t | none => a) (getM s c) := by
  unfold seesB
  simp only [List.foldl_cons]
  cases getM s c <;> rfl
 exact e.trans (seesB_from s r (getM s c))
theorem setB_bare (s : ByteArray) (v : Int) : ∀ fb : List BSc, bareF (setB s v fb) = setF s v (bareF fb)
 | [] => rfl
 | c :: r => by
  have h1 : seesF s (List.map bareSc r) = (seesB s r).map (·.1) := seesB_bare s r
  have h2 : getM s (bareSc c) = (getM s c).map (·.1) := getM_map (fun x : (Int × Int) × Nat => x.1) s c
  have ih := setB_bare s v r
  unfold bareF at ih ⊢
  simp only [setB, setF, List.map_cons, h1, h2]
  cases hs : seesB s r with
  | some x => simp only [Option.isSome_some, Option.map_some, if_true, List.map_cons, ih]
  | none =>
   simp only [Option.isSome_none, Option.map_none, Bool.false_eq_true, if_false]
   cases hg : getM s c with
   | none => simp
   | some x =>
    simp only [Option.map_some, List.map_cons, List.cons.injEq, and_true]
    exact (putM_map (fun x : (Int × Int) × Nat => x.1) s ((x.1.1, v), x.2) c).symm
theorem getM_at {α : Type} {s : ByteArray} {c : List (ByteArray × α)} {x : α} (h : getM s c = some x) (v : α) : ∃ j, c[j]? = some (s, x) ∧ putM s v c = c.set j (s, v) := by
 unfold getM at h
 cases hl : lookI s c 0 with
 | none => rw [hl] at h; cases h
 | some a =>
  obtain ⟨j, y⟩ := a
  rw [hl] at h
  have e : y = x := by simpa using h
  rw [e] at hl
  obtain ⟨h1, -, h3⟩ := lookI_some s x c j x hl
  refine ⟨j, h3, ?_⟩
  clear h
  revert hl
  suffices ∀ (c : List (ByteArray × α)) (j : Nat) (x : α), lookI s c 0 = some (j, x) → putM s v c = c.set j (s, v) from this c j x
  intro c
  induction c with
  | nil => intro j x h; cases h
  | cons z r ih =>
   intro j x h
   simp only [lookI] at h
   cases hq : s == z.1
   ·rw [hq, lookI_shift] at h
    simp only [Bool.false_eq_true, if_false] at h
    cases hr : lookI s r 0 with
    | none => rw [hr] at h; cases h
    | some a =>
     obtain ⟨a1, a2⟩ := a
     rw [hr] at h
     simp only [Option.map_some, Option.some.injEq, Prod.mk.injEq] at h
     obtain ⟨rfl, rfl⟩ := h
     simp only [putM, hq, Bool.false_eq_true, if_false, ih a1 a2 hr, Nat.zero_add, List.set_cons_succ]
   ·rw [hq] at h
    simp only [if_true, Option.some.injEq, Prod.mk.injEq] at h
    obtain ⟨rfl, rfl⟩ := h
    simp [putM, hq]
theorem nodup_ne {α β : Type} {f : α → β} {l : List α} (nd : (l.map f).Nodup) {i j : Nat} (hi : i < l.length) (hj : j < l.length) (hij : i ≠ j) : f l[i] ≠ f l[j] := by
 have h := List.pairwise_iff_getElem.1 nd
 rcases Nat.lt_or_ge i j with q | q
 ·have := h i j (by simpa using hi) (by simpa using hj) q
  simpa using this
 ·have := h j i (by simpa using hj) (by simpa using hi) (by omega)
  have h2 : f l[j] ≠ f l[i] := by simpa using this
  exact h2.symm
abbrev entF (sc : BSc) : List (ByteArray × Value) := sc.map fun x => (x.1, ptrv x.2)
theorem setB_spec {s : ByteArray} {v : Int} {x : (Int × Int) × Nat} : ∀ {fb : List BSc}, seesB s fb = some x → ∃ i, fb.flatten[i]? = some (s, x) ∧ (setB s v fb).flatten = fb.flatten.set i (s, ((x.1.1, v), x.2)) ∧ (setB s v fb).map entF = fb.map entF
 | [], h => by cases h
 | c :: r, h => by
  rw [seesB_cons] at h
  cases hs : seesB s r with
  | some y =>
   rw [hs] at h
   cases h
   obtain ⟨i, h1, h2, h3⟩ := setB_spec (v := v) hs
   refine ⟨c.length + i, ?_, ?_, ?_⟩
   ·rw [List.flatten_cons, List.getElem?_append_right (by omega)]
    simpa using h1
   ·simp only [setB, hs, Option.isSome_some, if_true, List.flatten_cons, h2]
    rw [List.set_append_right _ _ (by omega)]
    simp
   ·simp only [setB, hs, Option.isSome_some, if_true, List.map_cons, h3]
  | none =>
   rw [hs] at h
   simp only [] at h
   obtain ⟨j, h1, h2⟩ := getM_at h ((x.1.1, v), x.2)
   have hj : j < c.length := (List.getElem?_eq_some_iff.1 h1).1
   refine ⟨j, ?_, ?_, ?_⟩
   ·rw [List.flatten_cons, List.getElem?_append_left hj, h1]
   ·simp only [setB, hs, Option.isSome_none, Bool.false_eq_true, if_false, h, List.flatten_cons, h2]
    rw [List.set_append_left _ _ hj]
   ·simp only [setB, hs, Option.isSome_none, Bool.false_eq_true, if_false, h, List.map_cons, List.cons.injEq, and_true]
    have e := (putM_map (fun y : (Int × Int) × Nat => ptrv y) s ((x.1.1, v), x.2) c).symm
    show (putM s ((x.1.1, v), x.2) c).map (fun y => (y.1, ptrv y.2)) = _
    rw [e]
    have h4 : getM s (c.map fun y => (y.1, ptrv y.2)) = some (ptrv x) := by rw [getM_map ptrv, h]; rfl
    obtain ⟨j2, h5, h6⟩ := getM_at h4 (ptrv ((x.1.1, v), x.2))
    rw [h6]
    apply List.ext_getElem?
    intro i
    rw [List.getElem?_set]
    split
    ·rename_i he
     subst he
     split
     ·exact h5.symm
     ·rename_i hh
      exact absurd (List.getElem?_eq_some_iff.1 h5).1 hh
    ·rfl
section
variable {w w' : World} {n F : Nat} {fb : List BSc} {g cap : Nat} {ms : List Nat}
theorem FrR.flat (h : FrR w n F fb g cap ms) {y : ByteArray × ((Int × Int) × Nat)} (hy : y ∈ fb.flatten) : Bx w y.2.2 #[.int .u32 y.2.1.2, .int .u8 y.2.1.1] 201 ∧ n ≤ y.2.2 := by
 obtain ⟨sc, h1, h2⟩ := List.mem_flatten.1 hy
 exact ⟨h.boxes sc h1 y h2, h.far.2.1 sc h1 y h2⟩
theorem FrR.setL (h : FrR w n F fb g cap ms) {s : ByteArray} {x : (Int × Int) × Nat} (hx : seesB s fb = some x) (v : Int) : FrR (w.setCell ⟨x.2, 0, none⟩ (.int .u32 v)) n F (setB s v fb) g cap ms := by
 have hg := grown_setCell w ⟨x.2, 0, none⟩ (.int .u32 v)
 obtain ⟨i, h1, h2, h3⟩ := setB_spec (v := v) hx
 have hl : (setB s v fb).length = fb.length := by simpa using congrArg List.length h3
 have hm := List.mem_of_getElem? h1
 have hb := (h.flat hm).1
 have new : Bx (w.setCell ⟨x.2, 0, none⟩ (.int .u32 v)) x.2 #[.int .u32 v, .int .u8 x.1.1] 201 := by simpa using hb.set 0 (.int .u32 v)
 have each : ∀ y ∈ (setB s v fb).flatten, Bx (w.setCell ⟨x.2, 0, none⟩ (.int .u32 v)) y.2.2 #[.int .u32 y.2.1.2, .int .u8 y.2.1.1] 201 ∧ n ≤ y.2.2 := by
  intro y hy
  rw [h2] at hy
  obtain ⟨j, hj, rfl⟩ := List.getElem_of_mem hy
  by_cases hij : i = j
  ·subst hij
   simp only [List.getElem_set_self]
   exact ⟨new, (h.flat hm).2⟩
  ·rw [List.getElem_set_ne hij]
   have hj2 : j < fb.flatten.length := by simpa using hj
   have hi2 := (List.getElem?_eq_some_iff.1 h1).1
   have e1 := (List.getElem?_eq_some_iff.1 h1).2
   refine ⟨(h.flat (List.getElem_mem hj2)).1.on hg ?_, (h.flat (List.getElem_mem hj2)).2⟩
   intro e
   have e2 : (fb.flatten[j]).2.2 = (fb.flatten[i]).2.2 := by rw [e1]; simpa using e
   exact nodup_ne (f := fun x : ByteArray × ((Int × Int) × Nat) => x.2.2) h.apart hj2 hi2 (fun e => hij e.symm) e2
 refine ⟨by rw [hl]; exact h.box.on hg (by have := h.box.ne_box hb (by decide); simpa using this), by rw [hl]; exact h.row.kept hg (.inr (by have := row_not_box hb h.row (by decide); simpa [Value.ownBlock] using this)), by rw [hl]; exact h.len, ?_, ?_, h.nd, ?_, ⟨h.far.1, fun sc q1 y q2 => (each y (List.mem_flatten.2 ⟨sc, q1, q2⟩)).2, h.far.2.2⟩, by rw [hl]; exact h.le⟩
 ·intro k k1 k2
  have e : entF ((setB s v fb)[k]) = entF (fb[k]'(by omega)) := by
   have := congrArg (fun l => l[k]?) h3
   simpa [k2, (by omega : k < fb.length)] using this
  rw [show ((setB s v fb)[k].map fun x => (x.1, ptrv x.2)) = entF ((setB s v fb)[k]) from rfl, e]
  have hmp := h.maps k k1 (by omega)
  exact hmp.on hg (by have := hb.not_map hmp; simpa using this)
 ·intro sc q1 y q2
  exact (each y (List.mem_flatten.2 ⟨sc, q1, q2⟩)).1
 ·rw [h2, List.map_set]
  have : (fb.flatten.map fun x => x.2.2).set i x.2 = fb.flatten.map fun x => x.2.2 := by
   apply List.ext_getElem?
   intro j
   rw [List.getElem?_set]
   split
   ·rename_i he
    subst he
    split
    ·rw [List.getElem?_map, h1]; rfl
    ·rename_i hh
     rw [List.getElem?_eq_none (by omega)]
   ·rfl
  rw [this]
  exact h.apart
end
/-! ### blocks of a frame -/
def FS (F g : Nat) (ms : List Nat) (fb : List BSc) (b : Nat) : Prop := b = F ∨ b = g ∨ b ∈ ms ∨ ∃ y ∈ fb.flatten, y.2.2 = b
theorem FrR.fs {w : World} {n F : Nat} {fb : List BSc} {g cap : Nat} {ms : List Nat} (h : FrR w n F fb g cap ms) {b : Nat} (hb : FS F g ms fb b) : n ≤ b ∧ b < w.heap.size := by
 rcases hb with rfl | rfl | hb | ⟨y, hy, rfl⟩
 ·exact ⟨h.far.2.2, h.box.lt⟩
 ·exact h.row.lt _ rfl
 ·refine ⟨h.far.1 b hb, ?_⟩
  obtain ⟨i, hi, rfl⟩ := List.getElem_of_mem hb
  exact (h.maps i hi (by have := h.len; omega)).lt
 ·exact ⟨(h.flat hy).2, (h.flat hy).1.lt⟩
structure KS (p : Pt) (ve ve1 : EvS) (old new : Nat → Prop) (w w1 : World) : Prop where
 k : Kpt (fun b => p.TE ve b ∨ old b) w.heap.size w w1
 v : Vc ve ve1 w.heap.size
 f : ∀ b, new b → old b ∨ w.heap.size ≤ b
theorem KS.size {p : Pt} {ve ve1 : EvS} {old new : Nat → Prop} {w w1 : World} (h : KS p ve ve1 old new w w1) : w.heap.size ≤ w1.heap.size := h.k.size
theorem KS.refl (p : Pt) (ve : EvS) (old : Nat → Prop) (w : World) : KS p ve ve old old w w := ⟨Kpt.refl _ _ _, Vc.refl _ _, fun _ h => .inl h⟩
theorem KV.ks {p : Pt} {ve ve1 : EvS} {w w1 : World} (h : KV p ve ve1 w w1) (old : Nat → Prop) : KS p ve ve1 old old w w1 := ⟨h.k.mono (Nat.le_refl _) fun b _ q => .inl q, h.v, fun _ h => .inl h⟩
theorem KS.trans {p : Pt} {ve ve1 ve2 : EvS} {old mid new : Nat → Prop} {w w1 w2 : World} (h : KS p ve ve1 old mid w w1) (h2 : KS p ve1 ve2 mid new w1 w2) : KS p ve ve2 old new w w2 :=
 ⟨h.k.trans (h2.k.mono h.size fun b hb q => by
  rcases q with q | q
  ·exact .inl (TE_back h.v hb q)
  ·rcases h.f b q with r | r
   ·exact .inr r
   ·omega), h.v.trans h2.v h.size, fun b hb => by
  rcases h2.f b hb with q | q
  ·exact h.f b q
  ·exact .inr (Nat.le_trans h.size q)⟩
theorem KS.below {p : Pt} {ve ve1 : EvS} {old new : Nat → Prop} {w w1 w2 : World} (h : KS p ve ve1 old new w w1) (hb : Below w1.heap.size w1 w2) : KS p ve ve1 old new w w2 := h.trans ((KV.of p ve1 hb).ks new)
theorem KS.one {p : Pt} {ve : EvS} {old new : Nat → Prop} {w w1 : World} {b : Nat} (hg : w.grownBy w1 (some b)) (hb : old b) (hf : ∀ b, new b → old b ∨ w.heap.size ≤ b) : KS p ve ve old new w w1 :=
 ⟨Kpt.gr hg (Nat.le_refl _) fun k e => by cases e; exact .inl (.inr hb), Vc.refl _ _, hf⟩
def Aside (w : World) (b : Nat) : Prop := (∃ cs t, Bx w b cs t ∧ t ≠ 119 ∧ t ≠ 52 ∧ t ≠ 127) ∨ ∃ es c, w.heap[b]? = some (.map es c)
theorem Aside.row {w : World} {b base size k : Nat} {e : TypeId} {v : Value} {ys : List Value} (h : Aside w b) (hr : w.ownsRow base e size v k ys) (he : e = 52 ∨ e = 127) : v.ownBlock ≠ some b := fun hq => by
 obtain ⟨cs, hb⟩ := row_block hr hq
 unfold Bx at hb
 rcases h with ⟨cs2, t, h1, h2, h3, h4⟩ | ⟨es, c, h1⟩
 ·unfold Bx at h1
  rw [h1] at hb
  simp at hb
  obtain ⟨-, rfl⟩ := hb
  rcases he with q | q
  ·exact h3 q
  ·exact h4 q
 ·rw [h1] at hb; cases hb
theorem MeR.aside {p : Pt} {a n d : Nat} {m : MS} {ve : EvS} {w w' : World} (h : MeR p a n d m ve w) {b : Nat} (hb : Aside w b) (hg : w.grownBy w' (some b)) : MeR p a n d m ve w' := by
 obtain ⟨en, va, fa, hx⟩ := h.box
 obtain ⟨ats, he⟩ := h.evs
 have hM : some p.M ≠ some b := by
  intro e
  cases e
  unfold Bx at hx
  rcases hb with ⟨cs2, t, h1, h2, h3, h4⟩ | ⟨es, c, h1⟩
  ·unfold Bx at h1
   rw [h1] at hx
   simp at hx
   exact h2 hx.2
  ·rw [h1] at hx; cases hx
 have kp : ∀ {base size k : Nat} {e : TypeId} {v : Value} {ys : List Value}, w.ownsRow base e size v k ys → (e = 52 ∨ e = 127) → w'.ownsRow base e size v k ys := fun {base size k e v ys} hr h1 => hr.kept hg (.inr (hb.row hr h1))
 exact ⟨⟨en, va, fa, hx.on hg hM⟩, h.len, fun i h1 h2 => kp (h.words i h1 h2) (.inl rfl), h.nd, ⟨ats, he.len, he.at_, kp he.row (.inr rfl), fun i h1 h2 => kp (he.args i h1 h2) (.inl rfl)⟩, Nat.le_trans h.size hg.size, h.mlt⟩
section
variable {p : Pt} {cf : Cf} {u : UT} {n : Nat} {shp : List Nat} {d : Nat} {m : MS} {ve : EvS} {F : Nat} {fb : List BSc} {g cap : Nat} {ms : List Nat} {w w' : World}
theorem CtX.aside (hX : CtX p cf u n shp d m ve F fb g cap ms w) {b : Nat} (hb : Aside w b) (hn : n ≤ b) (hg : w.grownBy w' (some b)) {fb1 : List BSc} {g1 cap1 : Nat} {ms1 : List Nat} (hF : FrR w' n F fb1 g1 cap1 ms1) (hr : Fr.Rg (bareF fb1)) : CtX p cf u n shp d m ve F fb1 g1 cap1 ms1 w' :=
 ⟨⟨hX.c.st.move hX.c.me (k := n) (Kpt.gr hg hX.c.me.size fun k e => by cases e; exact .inr hn) (Nat.le_refl _), hX.c.me.aside hb hg, hF, hX.c.pos⟩, hX.inv, hX.rg, hr⟩
theorem CtX.setL (hX : CtX p cf u n shp d m ve F fb g cap ms w) {s : ByteArray} {x : (Int × Int) × Nat} (hx : seesB s fb = some x) {v : Int} (hv : U v) :
  CtX p cf u n shp d m ve F (setB s v fb) g cap ms (w.setCell ⟨x.2, 0, none⟩ (.int .u32 v)) ∧ KS p ve ve (FS F g ms fb) (FS F g ms (setB s v fb)) w (w.setCell ⟨x.2, 0, none⟩ (.int .u32 v)) := by
 obtain ⟨i, h1, h2, h3⟩ := setB_spec (v := v) hx
 have hm := List.mem_of_getElem? h1
 have hb := hX.c.fr.flat hm
 have hg := grown_setCell w ⟨x.2, 0, none⟩ (.int .u32 v)
 refine ⟨hX.aside (.inl ⟨_, _, hb.1, by decide, by decide, by decide⟩) hb.2 hg (hX.c.fr.setL hx v) (by rw [setB_bare]; exact setF_rg hv hX.frg), KS.one hg (.inr (.inr (.inr ⟨_, hm, rfl⟩))) fun b hq => .inl ?_⟩
 rcases hq with q | q | q | ⟨y, hy, q⟩
 ·exact .inl q
 ·exact .inr (.inl q)
 ·exact .inr (.inr (.inl q))
 ·refine .inr (.inr (.inr ?_))
  rw [h2] at hy
  rcases List.mem_or_eq_of_mem_set hy with r | r
  ·exact ⟨y, r, q⟩
  ·subst r; exact ⟨_, hm, q⟩
end
end
end Go.Proofs.YtlabadkfkbenoaaGreatDoor
