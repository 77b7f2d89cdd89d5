/- Walks and plain laws, merged: IntX. No condition. -/
import Derived.Test.YtlabadkfkbenoaaGreatDoorKn41
namespace Go.Proofs.YtlabadkfkbenoaaGreatDoor
open Go.RowKit
set_option linter.unusedVariables false
set_option linter.unusedSimpArgs false
set_option maxRecDepth 100000
section
open Go.Shelf
/-- the steps that stand in a call's box -/
def stepsIn (M : Nat) (w : World) : Nat := match w.cell? ⟨M, 6, none⟩ with
 | some (.int _ n) => n.toNat
 | _ => 0
theorem stepsIn_of {p : Pt} {a n d : Nat} {m : MS} {ve : EvS} {w : World} (h : MeR p a n d m ve w) : stepsIn p.M w = m.steps := by
 obtain ⟨en, va, fa, hb⟩ := h.box
 have : w.cell? ⟨p.M, 6, none⟩ = some (.int .i64 m.steps) := by simpa using hb.cell 6
 unfold stepsIn
 rw [this]
 rfl
set_option maxHeartbeats 64000000 in
theorem while182 (p : Pt) (cf : Cf) (u : UT) (n : Nat) (shp : List Nat) (k : Nat) (hRg : cf.Rg) (hal : cf.allowed ≤ 65536) (HE : Hid (∀ j, j ≤ k → WEx p cf u n shp j)) (HL : Hid (∀ j, j ≤ k → WLi p cf u n shp j)) : WWh p cf u n shp (k + 1) := by
 intro d m ve F fb g cap ms t h x b vx vb vz a ty ret lp c' w hax hxt haw hak hob hbw hch hvx hvb hvz hsz hX hnl
 obtain ⟨xa, xc, rfl⟩ := hvx.shape'
 obtain ⟨ba, bc, rfl⟩ := hvb.shape'
 obtain ⟨lz, hvz⟩ := hvz
 obtain ⟨ea, ec, rfl⟩ := hvz.shape'
 obtain ⟨R, hR⟩ : ∃ z, z = PostS p cf u n shp d F ve (FS F g ms fb) (fun q => U q.2.1) (fun q => q.2.2) (fun q => Ending.returned (.tuple #[.int .i64 q.1, .int .u32 q.2.1])) ((evl cf (k + 1)).W d (bareF fb) a.1 a.2 b m) w := ⟨_, rfl⟩
 rw [← hR]
 have HR := hid hR
 clear hR
 obtain ⟨a0, a1, a2, a3, a4⟩ := h
 have hB0 := (Below.refl w.heap.size w).alloc (Nat.le_refl _) (.cells #[.int .i64 t, .int .u8 a1, .string a2, .int .u8 a3, .string a4, .slice xa x.len xc, .slice ba b.len bc, .slice ea lz.len ec] 109)
 have X0 := hid (hX.below hB0)
 have b0 := hid (Bx.new w #[.int .i64 t, .int .u8 a1, .string a2, .int .u8 a3, .string a4, .slice xa x.len xc, .slice ba b.len bc, .slice ea lz.len ec] 109)
 have K0 := hid ((KV.of p ve hB0).ks (FS F g ms fb))
 have HNL := hid hnl
 have hl0 : 0 < x.len := by
  have := (List.getElem?_eq_some_iff.1 hax).1
  rw [Exs.toL_len] at this
  exact this
 have TT := hid (show ∀ wr, Kpt (fun b => p.TE ve b ∨ FS F g ms fb b) w.heap.size w wr → SlE (onlyW wr (oldB p.B)) false none x (.slice xa x.len xc) ∧ SlS (onlyW wr (oldB p.B)) false none b (.slice ba b.len bc) from fun wr hk => ⟨hvx.sub (hX.oldKS hk), hvb.sub (hX.oldKS hk)⟩)
 have AX := hid (And.intro hax (And.intro hxt (And.intro haw (And.intro hak (And.intro hob (And.intro hbw hch))))))
 have SZ := hid hsz
 have RG := hid hRg
 have AL := hid hal
 have lenF := hid (show ∀ fb1, tysF fb1 = tysF fb → fb1.length = fb.length from fun fb1 h => by have := congrArg List.length h; rwa [tysF_len, tysF_len] at this)
 clear hax hxt haw hak hob hbw hch hvx hvb hvz hsz hX hnl hB0 hRg hal
 go_enter Tryz.func182, Tryz.ntmps182
 go_wp2_with fail
 go_loopw [] (fun wr => ∃ (j : Nat) (fb1 : List BSc) (g1 cap1 : Nat) (ms1 : List Nat) (m1 : MS) (ve1 : EvS), j ≤ k ∧ tysF fb1 = tysF fb ∧ (evl cf (k + 1)).W d (bareF fb) a.1 a.2 b m = (evl cf (j + 1)).W d (bareF fb1) a.1 a.2 b m1 ∧ CtX p cf u n shp d m1 ve1 F fb1 g1 cap1 ms1 wr ∧ KS p ve ve1 (FS F g ms fb) (FS F g1 ms1 fb1) w wr ∧
  Bx wr w.heap.size #[.int .i64 t, .int .u8 a1, .string a2, .int .u8 a3, .string a4, .slice xa x.len xc, .slice ba b.len bc, .slice ea lz.len ec] 109) (fun wr => cf.allowed - stepsIn p.M wr)
 case atStart => exact ⟨k, fb, g, cap, ms, m, ve, Nat.le_refl _, rfl, rfl, X0.out, K0.out, b0.out⟩
 case round =>
  clear X0 K0 b0
  obtain ⟨j, fb1, g1, cap1, ms1, m1, ve1, hj, hty, hw, hX1, hK1, hbx⟩ := hrel
  have hh := hid (show (evl cf (k + 1)).W d (bareF fb) a.1 a.2 b m = ((evl cf j).E d (bareF fb1) a.1 a.2 m1).bind fun c m => if c = 0 then .ok (0, 0, bareF fb1) m else ((evl cf j).L d (bareF fb1) b m).bind fun q m =>
   if q.1 = 3 then .ok (3, q.2.1, q.2.2) m else if q.1 = 1 then .ok (0, 0, q.2.2) m else (tick cf m).bind fun _ m => (evl cf j).W d q.2.2 a.1 a.2 b m from hw)
  have hnl0 : (evl cf j).E d (bareF fb1) a.1 a.2 m1 ≠ .lost := Out.of_bind (by rw [← hh.out]; exact HNL.out)
  obtain ⟨hax, hxt, haw, hak, -⟩ := AX.out
  obtain ⟨b9, o9, cp9, t9, ya, yc, hq1, hq2, hq3⟩ := (TT.out wr hK1.k).1.kid 0 a hax
  obtain ⟨rfl, rfl⟩ : xa = some ⟨b9, o9, none⟩ ∧ xc = cp9 := by simpa using hq1
  have hkr : KidR wr b9 o9 t9 a (.slice ya a.2.len yc) := by simpa only [Nat.zero_mul, Nat.add_zero] using hq2.sub (cells_only _ _)
  have cx := hid (HE.out j hj d m1 ve1 F fb1 g1 cap1 ms1 t9 a.1 a.2 _ ty wr (by rw [hty]; exact hxt) haw hak hq3 hX1 hnl0)
  have e5 : wr.cell? ⟨w.heap.size, 5, none⟩ = some (.slice (some ⟨b9, o9, none⟩) x.len xc) := by simpa using hbx.cell 5
  have SM := hid (stepsIn_of hX1.c.me)
  have X1 := hid hX1
  have K1 := hid hK1
  have HBX := hid hbx
  have HTY := hid hty
  obtain ⟨⟨c0, c1, c2, c3, c4, c5⟩, kk⟩ := a
  obtain ⟨y0, y1, y2, y3, y4, y5, y6⟩ := hkr
  simp only [] at y1 y2 y3 y4 y5 y6 cx hh hnl0
  clear hw hX1 hK1 hbx hty hax hxt haw hak hq1 hq2 hq3
  go_wp2_with fail
  refine cx.out.mono ?_
  intro e9 w2 hp
  clear cx
  cases ho : (evl cf j).E d (bareF fb1) ⟨c0, c1, c2, c3, c4, c5⟩ kk m1 with
  | lost => exact absurd ho hnl0
  | stop a9 b9 m2 =>
   rw [ho] at hp hh
   have hh := hid (show (evl cf (k + 1)).W d (bareF fb) ⟨c0, c1, c2, c3, c4, c5⟩ kk b m = Out.stop a9 b9 m2 from hh.out)
   obtain ⟨rfl, ve2, d2, hM2, hV2⟩ := hp
   have F1 : Hid (PostS p cf u n shp d F ve (FS F g ms fb) (fun q : Int × Int × Fr => U q.2.1) (fun q => q.2.2) (fun q => Ending.returned (.tuple #[.int .i64 q.1, .int .u32 q.2.1])) (.stop a9 b9 m2) w (endE a9 b9) w2) := hid (finS_stop hM2 (K1.out.trans (hV2.ks _)) rfl)
   clear hM2 hV2 ho hnl0
   go_wp2_with fail
   refine bp_panic ?_
   rw [HR.out, hh.out]
   exact F1.out
  | ok v m2 =>
   rw [ho] at hp hh
   obtain ⟨rfl, -, ve2, hX2, hV2⟩ := hp
   have hh := hid (show (evl cf (k + 1)).W d (bareF fb) ⟨c0, c1, c2, c3, c4, c5⟩ kk b m = if v = 0 then .ok (0, 0, bareF fb1) m2 else ((evl cf j).L d (bareF fb1) b m2).bind fun q m =>
    if q.1 = 3 then .ok (3, q.2.1, q.2.2) m else if q.1 = 1 then .ok (0, 0, q.2.2) m else (tick cf m).bind fun _ m => (evl cf j).W d q.2.2 ⟨c0, c1, c2, c3, c4, c5⟩ kk b m from hh.out)
   have hle1 : m1.steps ≤ m2.steps := (Out.from_ok ((evl_good cf j).E _ _ _ _ _) ho).1
   have X2 := hid hX2
   have K2 := hid (K1.out.trans (hV2.ks _))
   have HB2 := hid (X1.out.boxKS (hV2.ks _).k HBX.out (by decide) (by decide))
   have LE1 := hid hle1
   clear hX2 hV2 ho hnl0 y0 y1 y2 y3 y4 y5 y6 e5 hle1
   by_cases hv0 : v = 0
   ·have hg := hid (show (evl cf (k + 1)).W d (bareF fb) ⟨c0, c1, c2, c3, c4, c5⟩ kk b m = .ok (0, 0, bareF fb1) m2 by rw [hh.out, if_pos hv0])
    clear hh
    subst hv0
    go_wp2_with fail
    rw [HR.out, hg.out]
    exact finS_ok X2.out rfl U0 K2.out rfl
   ·have hg := hid (show (evl cf (k + 1)).W d (bareF fb) ⟨c0, c1, c2, c3, c4, c5⟩ kk b m = ((evl cf j).L d (bareF fb1) b m2).bind fun q m =>
     if q.1 = 3 then .ok (3, q.2.1, q.2.2) m else if q.1 = 1 then .ok (0, 0, q.2.2) m else (tick cf m).bind fun _ m => (evl cf j).W d q.2.2 ⟨c0, c1, c2, c3, c4, c5⟩ kk b m by rw [hh.out, if_neg hv0])
    clear hh
    have hv1 : (v != 0) = true := by simpa using hv0
    have hnlL : (evl cf j).L d (bareF fb1) b m2 ≠ .lost := Out.of_bind (by rw [← hg.out]; exact HNL.out)
    obtain ⟨-, -, -, -, hob, hbw, hch⟩ := AX.out
    have cx := hid (HL.out j hj d m2 ve2 F fb1 g1 cap1 ms1 b (.slice ba b.len bc) ret lp c' w2 hob hbw (by rw [HTY.out]; exact hch) (TT.out w2 K2.out.k).2 (by have h1 := lenF.out fb1 HTY.out; have h2 := SZ.out; omega) X2.out hnlL)
    have z6 : w2.cell? ⟨w.heap.size, 6, none⟩ = some (.slice ba b.len bc) := by simpa using HB2.out.cell 6
    clear hob hbw hch
    go_wp2_with fail
    refine cx.out.mono ?_
    intro e9 w3 hp
    clear cx
    cases ho : (evl cf j).L d (bareF fb1) b m2 with
    | lost => exact absurd ho hnlL
    | stop a9 b9 m3 =>
     rw [ho] at hp hg
     have hh := hid (show (evl cf (k + 1)).W d (bareF fb) ⟨c0, c1, c2, c3, c4, c5⟩ kk b m = Out.stop a9 b9 m3 from hg.out)
     obtain ⟨rfl, ve3, d3, hM3, hK3⟩ := hp
     have F1 : Hid (PostS p cf u n shp d F ve (FS F g ms fb) (fun q : Int × Int × Fr => U q.2.1) (fun q => q.2.2) (fun q => Ending.returned (.tuple #[.int .i64 q.1, .int .u32 q.2.1])) (.stop a9 b9 m3) w (endE a9 b9) w3) := hid (finS_stop hM3 (K2.out.trans hK3) rfl)
     clear hM3 hK3 ho hnlL
     go_wp2_with fail
     refine bp_panic ?_
     rw [HR.out, hh.out]
     exact F1.out
    | ok q m3 =>
     rw [ho] at hp hg
     obtain ⟨rfl, hU, ve3, fb3, g3, cap3, ms3, hb3, hX3, hK3⟩ := hp
     have hb3 : bareF fb3 = q.2.2 := hb3
     have hty3 : tysF fb3 = tysF fb := by
      have h1 := Out.ty_ok ((evl_ty cf j).L d (bareF fb1) b m2) ho
      have h2 : tyFr q.2.2 = tyFr (bareF fb1) := h1
      rw [← hb3, tyFr_bare, tyFr_bare, HTY.out] at h2
      exact h2
     have hle2 : m2.steps ≤ m3.steps := (Out.from_ok ((evl_good cf j).L _ _ _ _) ho).1
     obtain ⟨how, v3, fr3⟩ := q
     simp only [] at hU hb3 ⊢
     subst hb3
     have hh := hid (show (evl cf (k + 1)).W d (bareF fb) ⟨c0, c1, c2, c3, c4, c5⟩ kk b m = if how = 3 then .ok (3, v3, bareF fb3) m3 else if how = 1 then .ok (0, 0, bareF fb3) m3 else (tick cf m3).bind fun _ m => (evl cf j).W d (bareF fb3) ⟨c0, c1, c2, c3, c4, c5⟩ kk b m from hg.out)
     have X3 := hid hX3
     have K3 := hid (K2.out.trans hK3)
     have HB3 := hid (X2.out.boxKS hK3.k HB2.out (by decide) (by decide))
     have HU := hid hU
     have TY3 := hid hty3
     have LE2 := hid (Nat.le_trans LE1.out hle2)
     clear hX3 hK3 ho hnlL hU hty3 hle2 hg z6
     by_cases h3 : how = 3
     ·subst h3
      have hg := hid (show (evl cf (k + 1)).W d (bareF fb) ⟨c0, c1, c2, c3, c4, c5⟩ kk b m = .ok (3, v3, bareF fb3) m3 from hh.out.trans (if_pos rfl))
      clear hh
      go_wp2_with fail
      rw [HR.out, hg.out]
      exact finS_ok X3.out rfl HU.out K3.out rfl
     ·by_cases h1 : how = 1
      ·subst h1
       have hg := hid (show (evl cf (k + 1)).W d (bareF fb) ⟨c0, c1, c2, c3, c4, c5⟩ kk b m = .ok (0, 0, bareF fb3) m3 from hh.out.trans ((if_neg h3).trans (if_pos rfl)))
       clear hh
       go_wp2_with fail
       rw [HR.out, hg.out]
       exact finS_ok X3.out rfl U0 K3.out rfl
      ·have hg := hid (show (evl cf (k + 1)).W d (bareF fb) ⟨c0, c1, c2, c3, c4, c5⟩ kk b m = (tick cf m3).bind fun _ m => (evl cf j).W d (bareF fb3) ⟨c0, c1, c2, c3, c4, c5⟩ kk b m from hh.out.trans ((if_neg h3).trans (if_neg h1)))
       clear hh
       have n3 : (how == 3) = false := by simpa using h3
       have n1 : (how == 1) = false := by simpa using h1
       have cs := hid (step116 p cf n d m3 ve3 w3 AL.out X3.out.inv.steps X3.out.c.me)
       by_cases hc : cf.allowed ≤ m3.steps
       ·have ht : tick cf m3 = .stop 3 0 m3 := by unfold tick; rw [if_pos hc]
        rw [ht] at cs
        have hh := hid (show (evl cf (k + 1)).W d (bareF fb) ⟨c0, c1, c2, c3, c4, c5⟩ kk b m = .stop 3 0 m3 by rw [hg.out, ht]; rfl)
        clear hg hc ht
        go_wp2_with fail
        refine cs.out.mono ?_
        rintro e9 w4 ⟨rfl, ve4, d4, hM4, hK4, hV4⟩
        have F1 : Hid (PostS p cf u n shp d F ve (FS F g ms fb) (fun q : Int × Int × Fr => U q.2.1) (fun q => q.2.2) (fun q => Ending.returned (.tuple #[.int .i64 q.1, .int .u32 q.2.1])) (.stop 3 0 m3) w (endE 3 0) w4) := hid (finS_stop hM4 (K3.out.trans ((⟨hK4, hV4⟩ : KV p ve3 ve4 w3 w4).ks _)) rfl)
        clear hM4 hK4 hV4 cs
        go_wp2_with fail
        refine bp_panic ?_
        rw [HR.out, hh.out]
        exact F1.out
       ·have ht : tick cf m3 = .ok () { m3 with steps := m3.steps + 1 } := by unfold tick; rw [if_neg hc]
        have hi4 : Inv cf shp { m3 with steps := m3.steps + 1 } := by have := tick_ok (cf := cf) m3 X3.out.inv; rw [ht] at this; exact this
        have hr4 : MS.Rg { m3 with steps := m3.steps + 1 } := X3.out.rg
        have CS := hid (fun (e : Ending) (w4 : World) (hp : PostM p cf.allowed n d _ ve3 (fun _ => .returned (.tuple #[])) (tick cf m3) _ e w4) => PostM.lift (P := fun _ => True) X3.out (by rw [ht]; exact hi4) (by rw [ht]; exact ⟨trivial, hr4⟩) hp)
        have hst : m1.steps < cf.allowed ∧ m1.steps < ({ m3 with steps := m3.steps + 1 } : MS).steps := ⟨by have := LE2.out; omega, by have := LE2.out; show m1.steps < m3.steps + 1; omega⟩
        have hh := hid (show (evl cf (k + 1)).W d (bareF fb) ⟨c0, c1, c2, c3, c4, c5⟩ kk b m = (evl cf j).W d (bareF fb3) ⟨c0, c1, c2, c3, c4, c5⟩ kk b { m3 with steps := m3.steps + 1 } by rw [hg.out, ht]; rfl)
        generalize ({ m3 with steps := m3.steps + 1 } : MS) = m4 at ht hh hi4 hr4 hst
        have HT := hid ht
        have HST := hid hst
        clear hg hc hi4 hr4 ht hst
        go_wp2_with fail
        refine cs.out.mono ?_
        intro e9 w4 hp
        have h9 := CS.out e9 w4 hp
        rw [HT.out] at h9
        obtain ⟨rfl, -, ve4, hX4, hV4⟩ := h9
        have SM4 := hid (stepsIn_of hX4.c.me)
        have X4 := hid hX4
        have K4 := hid (K3.out.trans (hV4.ks _))
        have HB4 := hid (X3.out.boxKS (hV4.ks _).k HB3.out (by decide) (by decide))
        clear hp hX4 hV4 cs CS
        have HJ : ∃ j', j = j' + 1 := by
         cases j with
         | zero => exact absurd hh.out HNL.out
         | succ j' => exact ⟨j', rfl⟩
        obtain ⟨j', hj'⟩ := HJ
        have HH := hid (show (evl cf (k + 1)).W d (bareF fb) ⟨c0, c1, c2, c3, c4, c5⟩ kk b m = (evl cf (j' + 1)).W d (bareF fb3) ⟨c0, c1, c2, c3, c4, c5⟩ kk b m4 by rw [hh.out, hj'])
        have HJJ := hid (show j' ≤ k by omega)
        clear hh hj'
        go_wp2_with fail
        refine ⟨⟨j', fb3, g3, cap3, ms3, m4, ve4, HJJ.out, TY3.out, HH.out, X4.out, K4.out, HB4.out⟩, ?_⟩
        have h1 := SM4.out
        have h2 := SM.out
        have h3 := HST.out
        omega
end
end Go.Proofs.YtlabadkfkbenoaaGreatDoor
