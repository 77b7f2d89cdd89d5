/- Walks and plain laws, merged: IntW IntX. No condition. -/
import Derived.Test.YtlabadkfkbenoaaGreatDoorKm01
import Derived.Test.YtlabadkfkbenoaaGreatDoorKm22
namespace Go.Proofs.YtlabadkfkbenoaaGreatDoor
open Go.RowKit
set_option linter.unusedVariables false
set_option linter.unusedSimpArgs false
set_option maxRecDepth 100000
set_option maxHeartbeats 64000000
section
open Go.Shelf
theorem Out.bind_ok {α β : Type} (a : α) (m : MS) (f : α → MS → Out β) : (Out.ok a m).bind f = f a m := rfl
theorem stV_1 {cf : Cf} {ev : Evl} {d : Nat} {fr : Fr} {a0 a3 : Int} {a2 a4 : ByteArray} {x : Exs} {b e : Sts} {m m1 : MS} {z : Unit} (ht : tick cf m = .ok z m1) : stmtV cf ev d fr ⟨a0, 1, a2, a3, a4⟩ x b e m = (evK ev d fr x 0 m1).bind fun v m => .ok (0, 0, giveF a2 (a3, v) fr) m := by
 unfold stmtV
 rw [ht, Out.bind_ok]
 exact if_pos (show (1 : Int) = 1 by decide)
theorem stV_2 {cf : Cf} {ev : Evl} {d : Nat} {fr : Fr} {a0 a3 : Int} {a2 a4 : ByteArray} {x : Exs} {b e : Sts} {m m1 : MS} {z : Unit} (ht : tick cf m = .ok z m1) : stmtV cf ev d fr ⟨a0, 2, a2, a3, a4⟩ x b e m = (setV cf ev d fr ⟨a0, 2, a2, a3, a4⟩ x m1).bind fun fr m => .ok (0, 0, fr) m := by
 unfold stmtV
 rw [ht, Out.bind_ok]
 exact (if_neg (show ¬ ((2 : Int) = 1) by decide)).trans (if_pos (show (2 : Int) = 2 by decide))
theorem stV_3 {cf : Cf} {ev : Evl} {d : Nat} {fr : Fr} {a0 a3 : Int} {a2 a4 : ByteArray} {x : Exs} {b e : Sts} {m m1 : MS} {z : Unit} (ht : tick cf m = .ok z m1) : stmtV cf ev d fr ⟨a0, 3, a2, a3, a4⟩ x b e m = (putV cf ev d fr ⟨a0, 3, a2, a3, a4⟩ x m1).bind fun _ m => .ok (0, 0, fr) m := by
 unfold stmtV
 rw [ht, Out.bind_ok]
 exact (if_neg (show ¬ ((3 : Int) = 1) by decide)).trans ((if_neg (show ¬ ((3 : Int) = 2) by decide)).trans (if_pos (show (3 : Int) = 3 by decide)))
theorem stV_4 {cf : Cf} {ev : Evl} {d : Nat} {fr : Fr} {a0 a3 : Int} {a2 a4 : ByteArray} {x : Exs} {b e : Sts} {m m1 : MS} {z : Unit} (ht : tick cf m = .ok z m1) : stmtV cf ev d fr ⟨a0, 4, a2, a3, a4⟩ x b e m = (evK ev d fr x 0 m1).bind fun c m => if c = 0 then ev.L d fr e m else ev.L d fr b m := by
 unfold stmtV
 rw [ht, Out.bind_ok]
 exact (if_neg (show ¬ ((4 : Int) = 1) by decide)).trans ((if_neg (show ¬ ((4 : Int) = 2) by decide)).trans ((if_neg (show ¬ ((4 : Int) = 3) by decide)).trans (if_pos (show (4 : Int) = 4 by decide))))
theorem stV_5 {cf : Cf} {ev : Evl} {d : Nat} {fr : Fr} {a0 a3 : Int} {a2 a4 : ByteArray} {x : Exs} {b e : Sts} {m m1 : MS} {z : Unit} (ht : tick cf m = .ok z m1) : stmtV cf ev d fr ⟨a0, 5, a2, a3, a4⟩ x b e m = match x.toL[0]? with | some a => ev.W d fr a.1 a.2 b m1 | none => .lost := by
 unfold stmtV
 rw [ht, Out.bind_ok]
 exact (if_neg (show ¬ ((5 : Int) = 1) by decide)).trans ((if_neg (show ¬ ((5 : Int) = 2) by decide)).trans ((if_neg (show ¬ ((5 : Int) = 3) by decide)).trans ((if_neg (show ¬ ((5 : Int) = 4) by decide)).trans (if_pos (show (5 : Int) = 5 by decide)))))
theorem stV_6 {cf : Cf} {ev : Evl} {d : Nat} {fr : Fr} {a0 a3 : Int} {a2 a4 : ByteArray} {x : Exs} {b e : Sts} {m m1 : MS} {z : Unit} (ht : tick cf m = .ok z m1) : stmtV cf ev d fr ⟨a0, 6, a2, a3, a4⟩ x b e m = .ok (1, 0, fr) m1 := by
 unfold stmtV
 rw [ht, Out.bind_ok]
 exact (if_neg (show ¬ ((6 : Int) = 1) by decide)).trans ((if_neg (show ¬ ((6 : Int) = 2) by decide)).trans ((if_neg (show ¬ ((6 : Int) = 3) by decide)).trans ((if_neg (show ¬ ((6 : Int) = 4) by decide)).trans ((if_neg (show ¬ ((6 : Int) = 5) by decide)).trans (if_pos (show (6 : Int) = 6 by decide))))))
theorem stV_7 {cf : Cf} {ev : Evl} {d : Nat} {fr : Fr} {a0 a3 : Int} {a2 a4 : ByteArray} {x : Exs} {b e : Sts} {m m1 : MS} {z : Unit} (ht : tick cf m = .ok z m1) : stmtV cf ev d fr ⟨a0, 7, a2, a3, a4⟩ x b e m = .ok (2, 0, fr) m1 := by
 unfold stmtV
 rw [ht, Out.bind_ok]
 exact (if_neg (show ¬ ((7 : Int) = 1) by decide)).trans ((if_neg (show ¬ ((7 : Int) = 2) by decide)).trans ((if_neg (show ¬ ((7 : Int) = 3) by decide)).trans ((if_neg (show ¬ ((7 : Int) = 4) by decide)).trans ((if_neg (show ¬ ((7 : Int) = 5) by decide)).trans ((if_neg (show ¬ ((7 : Int) = 6) by decide)).trans (if_pos (show (7 : Int) = 7 by decide)))))))
theorem stV_8 {cf : Cf} {ev : Evl} {d : Nat} {fr : Fr} {a0 a3 : Int} {a2 a4 : ByteArray} {x : Exs} {b e : Sts} {m m1 : MS} {z : Unit} (ht : tick cf m = .ok z m1) : stmtV cf ev d fr ⟨a0, 8, a2, a3, a4⟩ x b e m = (evK ev d fr x 0 m1).bind fun v m => .ok (3, v, fr) m := by
 unfold stmtV
 rw [ht, Out.bind_ok]
 exact (if_neg (show ¬ ((8 : Int) = 1) by decide)).trans ((if_neg (show ¬ ((8 : Int) = 2) by decide)).trans ((if_neg (show ¬ ((8 : Int) = 3) by decide)).trans ((if_neg (show ¬ ((8 : Int) = 4) by decide)).trans ((if_neg (show ¬ ((8 : Int) = 5) by decide)).trans ((if_neg (show ¬ ((8 : Int) = 6) by decide)).trans ((if_neg (show ¬ ((8 : Int) = 7) by decide)).trans (if_pos (show (8 : Int) = 8 by decide))))))))
theorem stV_9 {cf : Cf} {ev : Evl} {d : Nat} {fr : Fr} {a0 a3 : Int} {a2 a4 : ByteArray} {x : Exs} {b e : Sts} {m m1 : MS} {z : Unit} (ht : tick cf m = .ok z m1) : stmtV cf ev d fr ⟨a0, 9, a2, a3, a4⟩ x b e m = (evK ev d fr x 0 m1).bind fun _ m => .ok (0, 0, fr) m := by
 unfold stmtV
 rw [ht, Out.bind_ok]
 exact (if_neg (show ¬ ((9 : Int) = 1) by decide)).trans ((if_neg (show ¬ ((9 : Int) = 2) by decide)).trans ((if_neg (show ¬ ((9 : Int) = 3) by decide)).trans ((if_neg (show ¬ ((9 : Int) = 4) by decide)).trans ((if_neg (show ¬ ((9 : Int) = 5) by decide)).trans ((if_neg (show ¬ ((9 : Int) = 6) by decide)).trans ((if_neg (show ¬ ((9 : Int) = 7) by decide)).trans ((if_neg (show ¬ ((9 : Int) = 8) by decide)).trans (if_pos (show (9 : Int) = 9 by decide)))))))))
theorem okSH_kinds {h : SH} {n nb ne : Nat} {fk : Int} (hk : okSH h n fk nb ne = true) : (h.kind = 1 ∨ h.kind = 2 ∨ h.kind = 3 ∨ h.kind = 4 ∨ h.kind = 5 ∨ h.kind = 6 ∨ h.kind = 7 ∨ h.kind = 8 ∨ h.kind = 9) ∧ (h.kind = 9 → 1 ≤ n) := by
 obtain ⟨a0, a1, a2, a3, a4⟩ := h
 simp only []
 by_cases h9 : a1 = 9
 ·subst h9
  rw [okSH_9] at hk
  simp only [Bool.and_eq_true] at hk
  have := plainS_n hk.1
  simp [this]
 ·refine ⟨?_, fun q => absurd q h9⟩
  by_cases hq : a1 = 1 ∨ a1 = 2 ∨ a1 = 3 ∨ a1 = 4 ∨ a1 = 5 ∨ a1 = 6 ∨ a1 = 7 ∨ a1 = 8
  ·rcases hq with q | q | q | q | q | q | q | q <;> simp [q]
  ·simp only [not_or] at hq
   rw [okSH_0 a0 a1 a2 a3 a4 n fk nb ne ⟨hq.1, hq.2.1, hq.2.2.1, hq.2.2.2.1, hq.2.2.2.2.1, hq.2.2.2.2.2.1, hq.2.2.2.2.2.2.1, hq.2.2.2.2.2.2.2, h9⟩] at hk
   cases hk
theorem stF_new {vs : VS} {cs : CSg} {ret : Int} {a0 a3 : Int} {a2 a4 : ByteArray} {x : Exs} {rb re rw : Except Int Unit} {ss : List Scope} {c c' : Scope} {lp : Nat} (hs : stF vs cs ret ⟨a0, 1, a2, a3, a4⟩ x rb re rw ss c lp = .ok c') : seesS a2 (ss ++ [c]) = none := by
 unfold stF at hs
 cases hx : tyE vs cs (ss ++ [c]) x with
 | error e => rw [hx] at hs; cases hs
 | ok ts =>
  rw [hx] at hs
  simp only [if_true] at hs
  cases hq : seesS a2 (ss ++ [c]) with
  | none => rfl
  | some t => rw [hq] at hs; simp at hs
theorem seesB_none {s : ByteArray} {fb : List BSc} {c : BSc} (h : seesB s (fb ++ [c]) = none) : getM s c = none := by
 have h2 : ∀ (fb : List BSc), seesB s (fb ++ [c]) = none → getM s c = none := by
  intro fb
  induction fb with
  | nil => intro h; rw [List.nil_append, seesB_cons] at h; simpa [seesB] using h
  | cons a r ih =>
   intro h
   rw [List.cons_append, seesB_cons] at h
   cases hq : seesB s (r ++ [c]) with
   | none => exact ih hq
   | some y => rw [hq] at h; cases h
 exact h2 fb h
theorem statement149 (p : Pt) (cf : Cf) (u : UT) (n : Nat) (shp : List Nat) (k : Nat) (hRg : cf.Rg) (ha : cf.alu = aluV) (hal : cf.allowed ≤ 65536) (HE : Hid (WEx p cf u n shp k)) (HL : Hid (WLi p cf u n shp k)) (HW : Hid (WWh p cf u n shp k)) : WSt p cf u n shp k := by
 intro d m ve F fb g cap ms t h x b e vx vb vz ss c c1 ret lp w hty hos hox hob hoe hxw hbw hew hst hvx hvb hvz hsz hX hnl
 obtain ⟨xa, xc, rfl⟩ := hvx.shape'
 obtain ⟨ba, bc, rfl⟩ := hvb.shape'
 obtain ⟨ea, ec, rfl⟩ := hvz.shape'
 obtain ⟨R, hR⟩ : ∃ z, z = PostS p cf u n shp d F ve (FS F g ms fb) (fun q => U q.2.1) (fun q => q.2.2) (fun q => Ending.returned (.tuple #[.int .i64 q.1, .int .u32 q.2.1])) (stmtV cf (evl cf k) d (bareF fb) h x b e m) w := ⟨_, rfl⟩
 rw [← hR]
 have HR := hid hR
 clear hR
 have hkk := okSH_kinds hos
 have har := okSH_ar hos
 obtain ⟨a0, a1, a2, a3, a4⟩ := h
 simp only [] at hkk har ⊢
 have hB0 := (Below.refl w.heap.size w).alloc (Nat.le_refl _) (.cells #[.int .i64 t, .int .u8 a1, .string a2, .int .u8 a3, .string a4, .slice xa x.len xc, .slice ba b.len bc, .slice ea e.len ec] 109)
 have hX0 := hX.below hB0
 have hb0 := Bx.new w #[.int .i64 t, .int .u8 a1, .string a2, .int .u8 a3, .string a4, .slice xa x.len xc, .slice ba b.len bc, .slice ea e.len ec] 109
 have cs := hid (step116 p cf n d m ve _ hal hX.inv.steps hX0.c.me)
 have V0 := hid (KV.of p ve hB0)
 have HNL := hid hnl
 by_cases hc : cf.allowed ≤ m.steps
 ·have ht : tick cf m = .stop 3 0 m := by unfold tick; rw [if_pos hc]
  rw [ht] at cs
  have hh := hid (show stmtV cf (evl cf k) d (bareF fb) ⟨a0, a1, a2, a3, a4⟩ x b e m = .stop 3 0 m by unfold stmtV; rw [ht]; rfl)
  clear hty hos hox hob hoe hxw hbw hew hst hvx hvb hvz hsz hX hnl hkk har hB0 hX0 hb0 hc ht HE HL HW hRg ha hal
  go_enter Tryz.func149, Tryz.ntmps149
  go_wp2_with fail
  refine cs.out.mono ?_
  rintro e9 w1 ⟨rfl, ve1, d1, hM1, hK1, hV1⟩
  have F1 : Hid (PostS p cf u n shp d F ve (FS F g ms fb) (fun q : Int × Int × Fr => U q.2.1) (fun q => q.2.2) (fun q => Ending.returned (.tuple #[.int .i64 q.1, .int .u32 q.2.1])) (.stop 3 0 m) w (endE 3 0) w1) := hid (finS_stop hM1 ((V0.out.trans ⟨hK1, hV1⟩).ks (FS F g ms fb)) rfl)
  clear hM1 hK1 hV1 cs
  go_wp2_with fail
  refine bp_panic ?_
  rw [HR.out, hh.out]
  exact F1.out
 have ht : tick cf m = .ok () { m with steps := m.steps + 1 } := by unfold tick; rw [if_neg hc]
 have hi1 : Inv cf shp { m with steps := m.steps + 1 } := by have := tick_ok (cf := cf) m hX.inv; rw [ht] at this; exact this
 have hr1 : MS.Rg { m with steps := m.steps + 1 } := hX.rg
 have CS := hid (fun (e : Ending) (w1 : World) (hp : PostM p cf.allowed n d _ ve (fun _ => .returned (.tuple #[])) (tick cf m) _ e w1) => PostM.lift (P := fun _ => True) hX0 (by rw [ht]; exact hi1) (by rw [ht]; exact ⟨trivial, hr1⟩) hp)
 generalize ({ m with steps := m.steps + 1 } : MS) = m1 at ht hi1 hr1
 have HB0 := hid hb0
 have HX0 := hid hX0
 clear hi1 hr1 hb0
 go_enter Tryz.func149, Tryz.ntmps149
 go_wp2_with fail
 refine cs.out.mono ?_
 intro e9 w1 hp
 have h1 := CS.out e9 w1 hp
 rw [ht] at h1
 obtain ⟨rfl, -, ve1, hX1, hV1⟩ := h1
 have hbx := hV1.k.box HB0.out HB0.out.lt (HX0.out.c.me.notBox HB0.out (by decide) (by decide) (by decide))
 have e0 : w1.cell? ⟨w.heap.size, 0, none⟩ = some (.int .i64 t) := by simpa using hbx.cell 0
 have e1 : w1.cell? ⟨w.heap.size, 1, none⟩ = some (.int .u8 a1) := by simpa using hbx.cell 1
 have e2 : w1.cell? ⟨w.heap.size, 2, none⟩ = some (.string a2) := by simpa using hbx.cell 2
 have e3 : w1.cell? ⟨w.heap.size, 3, none⟩ = some (.int .u8 a3) := by simpa using hbx.cell 3
 have e4 : w1.cell? ⟨w.heap.size, 4, none⟩ = some (.string a4) := by simpa using hbx.cell 4
 have e5 : w1.cell? ⟨w.heap.size, 5, none⟩ = some (.slice xa x.len xc) := by simpa using hbx.cell 5
 have e6 : w1.cell? ⟨w.heap.size, 6, none⟩ = some (.slice ba b.len bc) := by simpa using hbx.cell 6
 have e7 : w1.cell? ⟨w.heap.size, 7, none⟩ = some (.slice ea e.len ec) := by simpa using hbx.cell 7
 have V1 := hid (V0.out.trans hV1)
 have HBX := hid hbx
 have X1 := hid hX1
 have HT := hid ht
 have hcl := (cells_old_below (B := p.B) hB0)
 have hcl1 := hX0.c.cells hV1.k
 have TX := hid ((hvx.sub hcl).sub hcl1)
 have TB := hid ((hvb.sub hcl).sub hcl1)
 have TE9 := hid ((hvz.sub hcl).sub hcl1)
 obtain ⟨ts, hts, hs1, hsn, hs2, hs3, hs4, hs5⟩ := stF_ok hst
 rw [← hty] at hts
 have TS := hid hts
 have OX := hid (And.intro hox hxw)
 have OB := hid (And.intro hob hbw)
 have OE := hid (And.intro hoe hew)
 have ST := hid hst
 have TY := hid hty
 have AR := hid har
 have SZ := hid hsz
 have S2 := hid hs2
 have S3 := hid hs3
 have S4 := hid hs4
 have S5 := hid hs5
 have K9 := hid hkk.2
 have HA := hid ha
 have HRG := hid hRg
 have hn := hkk.1
 clear hp cs CS ht hc hbx hV1 HB0 HX0 hX0 V0 hX hX1 hty hos hox hob hoe hxw hbw hew hst hvx hvb hvz hsz hnl hkk har hB0 hcl hcl1 hts hs1 hsn hs2 hs3 hs4 hs5 ha hRg hal
 rcases hn with hn | hn | hn | hn | hn | hn | hn | hn | hn <;> subst hn
 ·have hl0 : 0 < x.len := by have := AR.out; exact of_decide_eq_true this
  obtain ⟨kd, hkd⟩ := Exs.toL_get hl0
  obtain ⟨b0, o0, cp0, t0, ya, yc, hq1, hq2, hq3⟩ := TX.out.kid 0 kd hkd
  obtain ⟨rfl, rfl⟩ : xa = some ⟨b0, o0, none⟩ ∧ xc = cp0 := by simpa using hq1
  obtain ⟨ty0, hx0, -⟩ := tyE_xt OX.out.1 TS.out 0 kd hkd
  have hw0 := Exs.wf_at OX.out.2 0 kd hkd
  have hkr : KidR w1 b0 o0 t0 kd (.slice ya kd.2.len yc) := by simpa only [Nat.zero_mul, Nat.add_zero] using hq2.sub (cells_only _ _)
  have hh := hid (show stmtV cf (evl cf k) d (bareF fb) ⟨a0, 1, a2, a3, a4⟩ x b e m = _ by rw [stV_1 HT.out, evK_at hkd])
  have hnl0 : (evl cf k).E d (bareF fb) kd.1 kd.2 m1 ≠ .lost := Out.of_bind (by rw [← hh.out]; exact HNL.out)
  have cx := hid (HE.out d m1 ve1 F fb g cap ms t0 kd.1 kd.2 _ ty0 w1 hx0 hw0.1 hw0.2 hq3 X1.out hnl0)
  have xl := hid hl0
  obtain ⟨len, hlen⟩ : ∃ z, z = x.len := ⟨_, rfl⟩
  rw [← hlen] at e5 hl0
  obtain ⟨⟨c0, c1, c2, c3, c4, c5⟩, kk⟩ := kd
  obtain ⟨y0, y1, y2, y3, y4, y5, y6⟩ := hkr
  simp only [] at y1 y2 y3 y4 y5 y6 cx hh hnl0
  have EB := hid (And.intro e6 (And.intro e7 (And.intro e2 e3)))
  clear hq1 hq2 hq3 hx0 hw0 hkd hlen e0 e2 e3 e4 e6 e7
  go_wp2_with fail
  refine cx.out.mono ?_
  intro e9 w2 hp
  clear cx
  cases ho : (evl cf k).E d (bareF fb) ⟨c0, c1, c2, c3, c4, c5⟩ kk m1 with
  | lost => exact absurd ho hnl0
  | stop a b9 m2 =>
   rw [ho] at hp hh
   have hh := hid (show _ = Out.stop a b9 m2 from hh.out)
   obtain ⟨rfl, ve2, d2, hM2, hV2⟩ := hp
   have F1 : Hid (PostS p cf u n shp d F ve (FS F g ms fb) (fun q : Int × Int × Fr => U q.2.1) (fun q => q.2.2) (fun q => Ending.returned (.tuple #[.int .i64 q.1, .int .u32 q.2.1])) (.stop a b9 m2) w (endE a b9) w2) := hid (finS_stop hM2 ((V1.out.trans hV2).ks (FS F g ms fb)) rfl)
   clear hM2 hV2 ho hnl0
   go_wp2_with fail
   refine bp_panic ?_
   rw [HR.out, hh.out]
   exact F1.out
  | ok v m2 =>
   rw [ho] at hp hh
   obtain ⟨rfl, hU, ve2, hX2, hV2⟩ := hp
   have hh := hid (show stmtV cf (evl cf k) d (bareF fb) ⟨a0, 1, a2, a3, a4⟩ x b e m = .ok (0, 0, giveF a2 (a3, v) (bareF fb)) m2 from hh.out)
   have X2 := hid hX2
   have V2 := hid (V1.out.trans hV2)
   have UV := hid hU
   have KW := hid hV2
   have HB2 := hid (hV2.k.box HBX.out HBX.out.lt (X1.out.c.me.notBox HBX.out (by decide) (by decide) (by decide)))
   clear hX2 hV2 hU ho hnl0 y0 y1 y2 y3 y4 y5 y6 e1
   have hsn := stF_new ST.out
   rw [← TY.out, seesS_tys] at hsn
   obtain ⟨fb0, cb, hfb, -, -⟩ := tys_last TY.out
   subst hfb
   have hgn : getM a2 cb = none := seesB_none (Option.map_eq_none_iff.1 hsn)
   have GN := hid hgn
   clear hsn hgn
   have hfr := X2.out.c.fr
   have hml : ms.length = fb0.length + 1 := by have := hfr.len; simpa using this
   have hlt : fb0.length < ms.length := by omega
   have hm0e : ∃ z, z = ms[fb0.length] := ⟨_, rfl⟩
   obtain ⟨m0, hm0⟩ := hm0e
   have HM0 := hid (show ms[fb0.length]? = some m0 by rw [List.getElem?_eq_getElem hlt, hm0])
   have hmp : Mp w2 m0 (entF cb) := by have := hfr.maps fb0.length hlt (by simp); rw [← hm0] at this; simpa using this
   have HMP := hid hmp
   have hFc : w2.cell? ⟨F, 0, none⟩ = some (.slice (some ⟨g, 0, none⟩) (fb0.length + 1) cap) := by simpa using hfr.box.cell 0
   have hgc : w2.cell? ⟨g, fb0.length, none⟩ = some (.map (some m0)) := by rw [hfr.row.cellAt fb0.length (by simp)]; simp [hm0]
   have nF : ¬ (fun b => p.TE ve2 b ∨ b = m0) F := fun q => q.elim (X2.out.c.me.notBox hfr.box (by decide) (by decide) (by decide)) fun q => hfr.box.not_map hmp q.symm
   have nG : ¬ (fun b => p.TE ve2 b ∨ b = m0) g := fun q => q.elim (X2.out.c.me.other hfr.row (by decide) (by decide) (by decide) rfl) fun q => row_not_map hfr.row hmp q.symm
   have nB : ¬ (fun b => p.TE ve2 b ∨ b = m0) w.heap.size := fun q => q.elim (X2.out.c.me.notBox HB2.out (by decide) (by decide) (by decide)) fun q => HB2.out.not_map hmp q.symm
   have G1 := hid (show ∀ w9, (Kpt (fun b => p.TE ve2 b ∨ b = m0) w2.heap.size w2) w9 → w9.cell? ⟨F, 0, none⟩ = some (.slice (some ⟨g, 0, none⟩) (fb0.length + 1) cap) from fun w9 hk => hk.at hFc nF)
   have G2 := hid (show ∀ w9, (Kpt (fun b => p.TE ve2 b ∨ b = m0) w2.heap.size w2) w9 → w9.cell? ⟨g, fb0.length, none⟩ = some (.map (some m0)) from fun w9 hk => hk.at hgc nG)
   have G3 := hid (show ∀ w9, (Kpt (fun b => p.TE ve2 b ∨ b = m0) w2.heap.size w2) w9 → w9.cell? ⟨w.heap.size, 2, none⟩ = some (.string a2) from fun w9 hk => hk.at (by simpa using HB2.out.cell 2) nB)
   have G4 := hid (show ∀ w9, (Kpt (fun b => p.TE ve2 b ∨ b = m0) w2.heap.size w2) w9 → w9.cell? ⟨w.heap.size, 3, none⟩ = some (.int .u8 a3) from fun w9 hk => hk.at (by simpa using HB2.out.cell 3) nB)
   have HFN := hid (show fb0.length ≤ 99999990 by have := SZ.out; simp at this; omega)
   obtain ⟨fl, hfl⟩ : ∃ z, z = fb0.length := ⟨_, rfl⟩
   rw [← hfl] at G1 G2 HFN
   have hflb := HFN.out
   have hwr : IntKind.i64.wrap (fl : Int) = (fl : Int) := IntWalk.i64_in _ (by omega)
   have HFL := hid hfl
   clear hfr hml hlt hm0 hmp hFc hgc nF nG nB hfl
   go_wp2_with fail
   refine wp_region_held_drew (S := (Kpt (fun b => p.TE ve2 b ∨ b = m0) w2.heap.size w2)) (by kernel_rfl) (Kpt.of (Below.refl _ _).drew) (fun hHeld => ?_)
   have X3 := hid (X2.out.below (Below.refl w2.heap.size w2).drew)
   have V3 := hid (V2.out.below (Below.refl w2.heap.size w2).drew)
   have M3 := hid (HMP.out.mono (Below.refl w2.heap.size w2).drew)
   have K3 := hid hHeld
   generalize w2.drew = w3 at X3 V3 M3 K3 hHeld ⊢
   refine tk 0 ?_
   refine tk 1 ?_
   refine tk 2 ?_
   refine tk 3 ?_ (hy := by intro w' hSw; have q := G1.out w' hSw; go_simp; (try with_reducible rfl))
   refine tk 4 ?_
   refine tk 5 ?_
   refine tk 6 ?_
   refine tk 7 ?_ (hy := by intro w' hSw; have q := G1.out w' hSw; go_simp; (try with_reducible rfl))
   refine tk 8 ?_
   refine tk 9 ?_
   refine tk 10 ?_ (hy := by intro w' hSw; have hii : (fl : Int) < (fl : Int) + 1 := (by omega); go_simp; (try with_reducible rfl))
   refine tk 11 ?_ (hy := by intro w' hSw; have q := G2.out w' hSw; go_simp; (try with_reducible rfl))
   refine tk 12 ?_
   refine tk 13 ?_ (hy := by intro w' hSw; have q := G3.out w' hSw; go_simp; (try with_reducible rfl))
   refine tk 14 ?_
   refine tk 15 ?_
   refine tk 16 ?_ (hy := by intro w' hSw; have q := G4.out w' hSw; go_simp; (try with_reducible rfl))
   refine tk 17 ?_
   refine tr 18 fun K hK => ?_
   go_simp
   have hk4 : (Kpt (fun b => p.TE ve2 b ∨ b = m0) w2.heap.size w2) (w3.alloc (.cells #[.int .u32 v, .int .u8 a3] 201)) := K3.out.trans (Kpt.of (((Below.refl w3.heap.size w3).alloc (Nat.le_refl _) _).mono K3.out.size))
   have K4 := hid hk4
   have M4 := hid (M3.out.al (.cells #[.int .u32 v, .int .u8 a3] 201))
   refine hK.out _ _ hk4 (fun hHeld => ?_)
   clear hK K
   try simp only [tpa, tpb, tpc, tpd, tpe]
   clear hk4
   obtain ⟨w5, hrun, hg5, hsz5, hmp5⟩ := M4.out.update under210 under9 a2 (.pointer (some ⟨w3.heap.size, 0, none⟩))
   obtain ⟨X5, K5⟩ := X3.out.give GN.out UV.out (by have := HM0.out; exact this) rfl hg5 hmp5
   have hk5 : (Kpt (fun b => p.TE ve2 b ∨ b = m0) w2.heap.size w2) w5 := K4.out.trans (Kpt.gr hg5 K4.out.size fun k e => by cases e; exact .inl (.inr rfl))
   have HX5 := hid X5
   have HK5 := hid K5
   have HK6 := hid hk5
   clear X5 K5 hg5 hsz5 hmp5 hk5
   refine tr 19 fun K hK => ?_
   go_simp
   refine hK.out _ _ HK6.out (fun hHeld => ?_)
   clear hK K
   try simp only [tpa, tpb, tpc, tpd, tpe]
   refine td ?_
   clear hrun
   go_wp2_with fail
   rw [HR.out, hh.out]
   exact finS_ok HX5.out (giveB_bare _ _ _ _) U0 ((V3.out.ks _).trans HK5.out) rfl
 ·obtain ⟨ty9, hty9⟩ := S2.out (by trivial)
  rw [← TY.out] at hty9
  have hh := hid (show stmtV cf (evl cf k) d (bareF fb) ⟨a0, 2, a2, a3, a4⟩ x b e m = (setV cf (evl cf k) d (bareF fb) ⟨a0, 2, a2, a3, a4⟩ x m1).bind fun fr m => .ok (0, 0, fr) m from stV_2 HT.out)
  have hnlS := hid (show setV cf (evl cf k) d (bareF fb) ⟨a0, 2, a2, a3, a4⟩ x m1 ≠ .lost from Out.of_bind (by rw [← hh.out]; exact HNL.out))
  have cx := hid (set180 p cf u n shp k d m1 ve1 F fb g cap ms t a0 2 a3 a2 a4 x xa ba ea xc b.len bc e.len ec ty9 ts w1 HA.out HE TS.out OX.out.1 OX.out.2 TX.out X1.out (by have := AR.out; exact of_decide_eq_true this) hty9 hnlS.out)
  clear hty9
  go_wp2_with fail
  refine cx.out.mono ?_
  intro e9 w3 hp
  clear cx
  cases ho2 : setV cf (evl cf k) d (bareF fb) ⟨a0, 2, a2, a3, a4⟩ x m1 with
  | lost => exact absurd ho2 hnlS.out
  | stop a b9 m3 =>
   rw [ho2] at hp hh
   obtain ⟨rfl, ve2, d2, hM2, hK2⟩ := hp
   have hh := hid (show _ = Out.stop a b9 m3 from hh.out)
   have F1 : Hid (PostS p cf u n shp d F ve (FS F g ms fb) (fun q : Int × Int × Fr => U q.2.1) (fun q => q.2.2) (fun q => Ending.returned (.tuple #[.int .i64 q.1, .int .u32 q.2.1])) (.stop a b9 m3) w (endE a b9) w3) := hid (finS_stop hM2 ((V1.out.ks (FS F g ms fb)).trans hK2) rfl)
   clear ho2 hM2 hK2
   go_wp2_with fail
   refine bp_panic ?_
   rw [HR.out, hh.out]
   exact F1.out
  | ok q m3 =>
   rw [ho2] at hp hh
   obtain ⟨rfl, -, ve2, fb2, g2, cap2, ms2, hb2, hX2, hK2⟩ := hp
   have hh := hid (show stmtV cf (evl cf k) d (bareF fb) ⟨a0, 2, a2, a3, a4⟩ x b e m = Out.ok (0, 0, q) m3 from hh.out)
   have F1 : Hid (PostS p cf u n shp d F ve (FS F g ms fb) (fun q : Int × Int × Fr => U q.2.1) (fun q => q.2.2) (fun q => Ending.returned (.tuple #[.int .i64 q.1, .int .u32 q.2.1])) (.ok (0, 0, q) m3) w (.returned (.tuple #[.int .i64 0, .int .u32 0])) w3) := hid (finS_ok hX2 hb2 U0 ((V1.out.ks (FS F g ms fb)).trans hK2) rfl)
   clear ho2 hb2 hX2 hK2
   go_wp2_with fail
   rw [HR.out, hh.out]
   exact F1.out
 ·obtain ⟨ty9, hty9⟩ := S3.out (by trivial)
  rw [← TY.out] at hty9
  have hh := hid (show stmtV cf (evl cf k) d (bareF fb) ⟨a0, 3, a2, a3, a4⟩ x b e m = (putV cf (evl cf k) d (bareF fb) ⟨a0, 3, a2, a3, a4⟩ x m1).bind fun _ m => .ok (0, 0, bareF fb) m from stV_3 HT.out)
  have hnlS := hid (show putV cf (evl cf k) d (bareF fb) ⟨a0, 3, a2, a3, a4⟩ x m1 ≠ .lost from Out.of_bind (by rw [← hh.out]; exact HNL.out))
  have cx := hid (put181 p cf u n shp k d m1 ve1 F fb g cap ms t a0 3 a3 a2 a4 x xa ba ea xc b.len bc e.len ec ty9 ts w1 HA.out HE TS.out OX.out.1 OX.out.2 TX.out X1.out (by have := AR.out; exact of_decide_eq_true this) hty9 hnlS.out)
  clear hty9
  go_wp2_with fail
  refine cx.out.mono ?_
  intro e9 w3 hp
  clear cx
  cases ho2 : putV cf (evl cf k) d (bareF fb) ⟨a0, 3, a2, a3, a4⟩ x m1 with
  | lost => exact absurd ho2 hnlS.out
  | stop a b9 m3 =>
   rw [ho2] at hp hh
   obtain ⟨rfl, ve2, d2, hM2, hK2⟩ := hp
   have hh := hid (show _ = Out.stop a b9 m3 from hh.out)
   have F1 : Hid (PostS p cf u n shp d F ve (FS F g ms fb) (fun q : Int × Int × Fr => U q.2.1) (fun q => q.2.2) (fun q => Ending.returned (.tuple #[.int .i64 q.1, .int .u32 q.2.1])) (.stop a b9 m3) w (endE a b9) w3) := hid (finS_stop hM2 ((V1.out.ks (FS F g ms fb)).trans hK2) rfl)
   clear ho2 hM2 hK2
   go_wp2_with fail
   refine bp_panic ?_
   rw [HR.out, hh.out]
   exact F1.out
  | ok q m3 =>
   rw [ho2] at hp hh
   obtain ⟨rfl, -, ve2, fb2, g2, cap2, ms2, hb2, hX2, hK2⟩ := hp
   have hh := hid (show stmtV cf (evl cf k) d (bareF fb) ⟨a0, 3, a2, a3, a4⟩ x b e m = Out.ok (0, 0, bareF fb) m3 from hh.out)
   have F1 : Hid (PostS p cf u n shp d F ve (FS F g ms fb) (fun q : Int × Int × Fr => U q.2.1) (fun q => q.2.2) (fun q => Ending.returned (.tuple #[.int .i64 q.1, .int .u32 q.2.1])) (.ok (0, 0, bareF fb) m3) w (.returned (.tuple #[.int .i64 0, .int .u32 0])) w3) := hid (finS_ok hX2 hb2 U0 ((V1.out.ks (FS F g ms fb)).trans hK2) rfl)
   clear ho2 hb2 hX2 hK2
   go_wp2_with fail
   rw [HR.out, hh.out]
   exact F1.out
 ·have hl0 : 0 < x.len := by have := AR.out; exact of_decide_eq_true this
  obtain ⟨kd, hkd⟩ := Exs.toL_get hl0
  obtain ⟨b0, o0, cp0, t0, ya, yc, hq1, hq2, hq3⟩ := TX.out.kid 0 kd hkd
  obtain ⟨rfl, rfl⟩ : xa = some ⟨b0, o0, none⟩ ∧ xc = cp0 := by simpa using hq1
  obtain ⟨ty0, hx0, -⟩ := tyE_xt OX.out.1 TS.out 0 kd hkd
  have hw0 := Exs.wf_at OX.out.2 0 kd hkd
  have hkr : KidR w1 b0 o0 t0 kd (.slice ya kd.2.len yc) := by simpa only [Nat.zero_mul, Nat.add_zero] using hq2.sub (cells_only _ _)
  have hh := hid (show stmtV cf (evl cf k) d (bareF fb) ⟨a0, 4, a2, a3, a4⟩ x b e m = _ by rw [stV_4 HT.out, evK_at hkd])
  have hnl0 : (evl cf k).E d (bareF fb) kd.1 kd.2 m1 ≠ .lost := Out.of_bind (by rw [← hh.out]; exact HNL.out)
  have cx := hid (HE.out d m1 ve1 F fb g cap ms t0 kd.1 kd.2 _ ty0 w1 hx0 hw0.1 hw0.2 hq3 X1.out hnl0)
  have xl := hid hl0
  obtain ⟨len, hlen⟩ : ∃ z, z = x.len := ⟨_, rfl⟩
  rw [← hlen] at e5 hl0
  obtain ⟨⟨c0, c1, c2, c3, c4, c5⟩, kk⟩ := kd
  obtain ⟨y0, y1, y2, y3, y4, y5, y6⟩ := hkr
  simp only [] at y1 y2 y3 y4 y5 y6 cx hh hnl0
  have EB := hid (And.intro e6 (And.intro e7 (And.intro e2 e3)))
  clear hq1 hq2 hq3 hx0 hw0 hkd hlen e0 e2 e3 e4 e6 e7
  go_wp2_with fail
  refine cx.out.mono ?_
  intro e9 w2 hp
  clear cx
  cases ho : (evl cf k).E d (bareF fb) ⟨c0, c1, c2, c3, c4, c5⟩ kk m1 with
  | lost => exact absurd ho hnl0
  | stop a b9 m2 =>
   rw [ho] at hp hh
   have hh := hid (show _ = Out.stop a b9 m2 from hh.out)
   obtain ⟨rfl, ve2, d2, hM2, hV2⟩ := hp
   have F1 : Hid (PostS p cf u n shp d F ve (FS F g ms fb) (fun q : Int × Int × Fr => U q.2.1) (fun q => q.2.2) (fun q => Ending.returned (.tuple #[.int .i64 q.1, .int .u32 q.2.1])) (.stop a b9 m2) w (endE a b9) w2) := hid (finS_stop hM2 ((V1.out.trans hV2).ks (FS F g ms fb)) rfl)
   clear hM2 hV2 ho hnl0
   go_wp2_with fail
   refine bp_panic ?_
   rw [HR.out, hh.out]
   exact F1.out
  | ok v m2 =>
   rw [ho] at hp hh
   obtain ⟨rfl, hU, ve2, hX2, hV2⟩ := hp
   have hh := hid (show stmtV cf (evl cf k) d (bareF fb) ⟨a0, 4, a2, a3, a4⟩ x b e m = (if v = 0 then (evl cf k).L d (bareF fb) e m2 else (evl cf k).L d (bareF fb) b m2) from hh.out)
   have X2 := hid hX2
   have V2 := hid (V1.out.trans hV2)
   have UV := hid hU
   have KW := hid hV2
   have HB2 := hid (hV2.k.box HBX.out HBX.out.lt (X1.out.c.me.notBox HBX.out (by decide) (by decide) (by decide)))
   clear hX2 hV2 hU ho hnl0 y0 y1 y2 y3 y4 y5 y6 e1
   obtain ⟨r1, r2⟩ := S4.out (by trivial)
   obtain ⟨cb9, hcb⟩ := unitE_ok r1
   obtain ⟨ce9, hce⟩ := unitE_ok r2
   have CB := hid hcb
   have CE := hid hce
   clear r1 r2 hcb hce
   by_cases hv0 : v = 0
   ·have hg := hid (show stmtV cf (evl cf k) d (bareF fb) ⟨a0, 4, a2, a3, a4⟩ x b e m = (evl cf k).L d (bareF fb) e m2 by rw [hh.out, if_pos hv0])
    clear hh
    subst hv0
    have cx := hid (HL.out d m2 ve2 F fb g cap ms e (.slice ea e.len ec) ret lp _ w2 OE.out.1 OE.out.2 (by rw [TY.out]; exact CE.out) (TE9.out.sub (X1.out.c.cells KW.out.k)) (by have := SZ.out; omega) X2.out (by rw [← hg.out]; exact HNL.out))
    have z7 : w2.cell? ⟨w.heap.size, 7, none⟩ = some (.slice ea e.len ec) := by simpa using HB2.out.cell 7
    go_wp2_with fail
    refine cx.out.mono ?_
    intro e9 w3 hp
    clear cx
    have FF := hid (show R e9 w3 by rw [HR.out, hg.out]; exact PostS.chain (V2.out.ks (FS F g ms fb)) hp)
    cases ho2 : (evl cf k).L d (bareF fb) e m2 with
    | lost => exact absurd ho2 (by rw [← hg.out]; exact HNL.out)
    | stop a b9 m3 =>
     rw [ho2] at hp
     obtain ⟨rfl, -⟩ := hp
     clear ho2
     go_wp2_with fail
     refine bp_panic ?_
     exact FF.out
    | ok q m3 =>
     rw [ho2] at hp
     obtain ⟨rfl, -⟩ := hp
     clear ho2
     go_wp2_with fail
     exact FF.out
   ·have hg := hid (show stmtV cf (evl cf k) d (bareF fb) ⟨a0, 4, a2, a3, a4⟩ x b e m = (evl cf k).L d (bareF fb) b m2 by rw [hh.out, if_neg hv0])
    clear hh
    have hv1 : (v != 0) = true := by simpa using hv0
    have cx := hid (HL.out d m2 ve2 F fb g cap ms b (.slice ba b.len bc) ret lp _ w2 OB.out.1 OB.out.2 (by rw [TY.out]; exact CB.out) (TB.out.sub (X1.out.c.cells KW.out.k)) (by have := SZ.out; omega) X2.out (by rw [← hg.out]; exact HNL.out))
    have z6 : w2.cell? ⟨w.heap.size, 6, none⟩ = some (.slice ba b.len bc) := by simpa using HB2.out.cell 6
    go_wp2_with fail
    refine cx.out.mono ?_
    intro e9 w3 hp
    clear cx
    have FF := hid (show R e9 w3 by rw [HR.out, hg.out]; exact PostS.chain (V2.out.ks (FS F g ms fb)) hp)
    cases ho2 : (evl cf k).L d (bareF fb) b m2 with
    | lost => exact absurd ho2 (by rw [← hg.out]; exact HNL.out)
    | stop a b9 m3 =>
     rw [ho2] at hp
     obtain ⟨rfl, -⟩ := hp
     clear ho2
     go_wp2_with fail
     refine bp_panic ?_
     exact FF.out
    | ok q m3 =>
     rw [ho2] at hp
     obtain ⟨rfl, -⟩ := hp
     clear ho2
     go_wp2_with fail
     exact FF.out
 ·have hl0 : 0 < x.len := by have := AR.out; exact of_decide_eq_true this
  obtain ⟨kd, hkd⟩ := Exs.toL_get hl0
  obtain ⟨ty0, hx0, -⟩ := tyE_xt OX.out.1 TS.out 0 kd hkd
  have hw0 := Exs.wf_at OX.out.2 0 kd hkd
  obtain ⟨cb9, hcb⟩ := unitE_ok (S5.out (by trivial))
  have hh := hid (show stmtV cf (evl cf k) d (bareF fb) ⟨a0, 5, a2, a3, a4⟩ x b e m = (evl cf k).W d (bareF fb) kd.1 kd.2 b m1 by rw [stV_5 HT.out, hkd])
  have hnlW := hid (show (evl cf k).W d (bareF fb) kd.1 kd.2 b m1 ≠ .lost by rw [← hh.out]; exact HNL.out)
  have cx := hid (HW.out d m1 ve1 F fb g cap ms t ⟨a0, 5, a2, a3, a4⟩ x b _ _ (.slice ea e.len ec) kd ty0 ret (lp + 1) _ w1 hkd hx0 hw0.1 hw0.2 OB.out.1 OB.out.2 (by rw [TY.out]; exact hcb) TX.out TB.out ⟨e, TE9.out⟩ (by have := SZ.out; omega) X1.out hnlW.out)
  clear hl0 hkd hx0 hw0 hcb
  go_wp2_with fail
  refine cx.out.mono ?_
  intro e9 w3 hp
  clear cx
  have FF := hid (show R e9 w3 by rw [HR.out, hh.out]; exact PostS.chain (V1.out.ks (FS F g ms fb)) hp)
  cases ho2 : (evl cf k).W d (bareF fb) kd.1 kd.2 b m1 with
  | lost => exact absurd ho2 hnlW.out
  | stop a b9 m3 =>
   rw [ho2] at hp
   obtain ⟨rfl, -⟩ := hp
   clear ho2
   go_wp2_with fail
   refine bp_panic ?_
   exact FF.out
  | ok q m3 =>
   rw [ho2] at hp
   obtain ⟨rfl, -⟩ := hp
   clear ho2
   go_wp2_with fail
   exact FF.out
 ·have hh := hid (show stmtV cf (evl cf k) d (bareF fb) ⟨a0, 6, a2, a3, a4⟩ x b e m = .ok (1, 0, bareF fb) m1 from stV_6 HT.out)
  clear e0 e2 e3 e4 e5 e6 e7
  go_wp2_with fail
  rw [HR.out, hh.out]
  exact finS_ok X1.out rfl U0 (V1.out.ks (FS F g ms fb)) rfl
 ·have hh := hid (show stmtV cf (evl cf k) d (bareF fb) ⟨a0, 7, a2, a3, a4⟩ x b e m = .ok (2, 0, bareF fb) m1 from stV_7 HT.out)
  clear e0 e2 e3 e4 e5 e6 e7
  go_wp2_with fail
  rw [HR.out, hh.out]
  exact finS_ok X1.out rfl U0 (V1.out.ks (FS F g ms fb)) rfl
 ·have hl0 : 0 < x.len := by have := AR.out; exact of_decide_eq_true this
  obtain ⟨kd, hkd⟩ := Exs.toL_get hl0
  obtain ⟨b0, o0, cp0, t0, ya, yc, hq1, hq2, hq3⟩ := TX.out.kid 0 kd hkd
  obtain ⟨rfl, rfl⟩ : xa = some ⟨b0, o0, none⟩ ∧ xc = cp0 := by simpa using hq1
  obtain ⟨ty0, hx0, -⟩ := tyE_xt OX.out.1 TS.out 0 kd hkd
  have hw0 := Exs.wf_at OX.out.2 0 kd hkd
  have hkr : KidR w1 b0 o0 t0 kd (.slice ya kd.2.len yc) := by simpa only [Nat.zero_mul, Nat.add_zero] using hq2.sub (cells_only _ _)
  have hh := hid (show stmtV cf (evl cf k) d (bareF fb) ⟨a0, 8, a2, a3, a4⟩ x b e m = _ by rw [stV_8 HT.out, evK_at hkd])
  have hnl0 : (evl cf k).E d (bareF fb) kd.1 kd.2 m1 ≠ .lost := Out.of_bind (by rw [← hh.out]; exact HNL.out)
  have cx := hid (HE.out d m1 ve1 F fb g cap ms t0 kd.1 kd.2 _ ty0 w1 hx0 hw0.1 hw0.2 hq3 X1.out hnl0)
  have xl := hid hl0
  obtain ⟨len, hlen⟩ : ∃ z, z = x.len := ⟨_, rfl⟩
  rw [← hlen] at e5 hl0
  obtain ⟨⟨c0, c1, c2, c3, c4, c5⟩, kk⟩ := kd
  obtain ⟨y0, y1, y2, y3, y4, y5, y6⟩ := hkr
  simp only [] at y1 y2 y3 y4 y5 y6 cx hh hnl0
  have EB := hid (And.intro e6 (And.intro e7 (And.intro e2 e3)))
  clear hq1 hq2 hq3 hx0 hw0 hkd hlen e0 e2 e3 e4 e6 e7
  go_wp2_with fail
  refine cx.out.mono ?_
  intro e9 w2 hp
  clear cx
  cases ho : (evl cf k).E d (bareF fb) ⟨c0, c1, c2, c3, c4, c5⟩ kk m1 with
  | lost => exact absurd ho hnl0
  | stop a b9 m2 =>
   rw [ho] at hp hh
   have hh := hid (show _ = Out.stop a b9 m2 from hh.out)
   obtain ⟨rfl, ve2, d2, hM2, hV2⟩ := hp
   have F1 : Hid (PostS p cf u n shp d F ve (FS F g ms fb) (fun q : Int × Int × Fr => U q.2.1) (fun q => q.2.2) (fun q => Ending.returned (.tuple #[.int .i64 q.1, .int .u32 q.2.1])) (.stop a b9 m2) w (endE a b9) w2) := hid (finS_stop hM2 ((V1.out.trans hV2).ks (FS F g ms fb)) rfl)
   clear hM2 hV2 ho hnl0
   go_wp2_with fail
   refine bp_panic ?_
   rw [HR.out, hh.out]
   exact F1.out
  | ok v m2 =>
   rw [ho] at hp hh
   obtain ⟨rfl, hU, ve2, hX2, hV2⟩ := hp
   have hh := hid (show stmtV cf (evl cf k) d (bareF fb) ⟨a0, 8, a2, a3, a4⟩ x b e m = .ok (3, v, bareF fb) m2 from hh.out)
   have X2 := hid hX2
   have V2 := hid (V1.out.trans hV2)
   have UV := hid hU
   have KW := hid hV2
   have HB2 := hid (hV2.k.box HBX.out HBX.out.lt (X1.out.c.me.notBox HBX.out (by decide) (by decide) (by decide)))
   clear hX2 hV2 hU ho hnl0 y0 y1 y2 y3 y4 y5 y6 e1
   go_wp2_with fail
   rw [HR.out, hh.out]
   exact finS_ok X2.out rfl UV.out (V2.out.ks (FS F g ms fb)) rfl
 ·have hl0 : 0 < x.len := K9.out (by trivial)
  obtain ⟨kd, hkd⟩ := Exs.toL_get hl0
  obtain ⟨b0, o0, cp0, t0, ya, yc, hq1, hq2, hq3⟩ := TX.out.kid 0 kd hkd
  obtain ⟨rfl, rfl⟩ : xa = some ⟨b0, o0, none⟩ ∧ xc = cp0 := by simpa using hq1
  obtain ⟨ty0, hx0, -⟩ := tyE_xt OX.out.1 TS.out 0 kd hkd
  have hw0 := Exs.wf_at OX.out.2 0 kd hkd
  have hkr : KidR w1 b0 o0 t0 kd (.slice ya kd.2.len yc) := by simpa only [Nat.zero_mul, Nat.add_zero] using hq2.sub (cells_only _ _)
  have hh := hid (show stmtV cf (evl cf k) d (bareF fb) ⟨a0, 9, a2, a3, a4⟩ x b e m = _ by rw [stV_9 HT.out, evK_at hkd])
  have hnl0 : (evl cf k).E d (bareF fb) kd.1 kd.2 m1 ≠ .lost := Out.of_bind (by rw [← hh.out]; exact HNL.out)
  have cx := hid (HE.out d m1 ve1 F fb g cap ms t0 kd.1 kd.2 _ ty0 w1 hx0 hw0.1 hw0.2 hq3 X1.out hnl0)
  have xl := hid hl0
  obtain ⟨len, hlen⟩ : ∃ z, z = x.len := ⟨_, rfl⟩
  rw [← hlen] at e5 hl0
  obtain ⟨⟨c0, c1, c2, c3, c4, c5⟩, kk⟩ := kd
  obtain ⟨y0, y1, y2, y3, y4, y5, y6⟩ := hkr
  simp only [] at y1 y2 y3 y4 y5 y6 cx hh hnl0
  have EB := hid (And.intro e6 (And.intro e7 (And.intro e2 e3)))
  clear hq1 hq2 hq3 hx0 hw0 hkd hlen e0 e2 e3 e4 e6 e7
  go_wp2_with fail
  refine cx.out.mono ?_
  intro e9 w2 hp
  clear cx
  cases ho : (evl cf k).E d (bareF fb) ⟨c0, c1, c2, c3, c4, c5⟩ kk m1 with
  | lost => exact absurd ho hnl0
  | stop a b9 m2 =>
   rw [ho] at hp hh
   have hh := hid (show _ = Out.stop a b9 m2 from hh.out)
   obtain ⟨rfl, ve2, d2, hM2, hV2⟩ := hp
   have F1 : Hid (PostS p cf u n shp d F ve (FS F g ms fb) (fun q : Int × Int × Fr => U q.2.1) (fun q => q.2.2) (fun q => Ending.returned (.tuple #[.int .i64 q.1, .int .u32 q.2.1])) (.stop a b9 m2) w (endE a b9) w2) := hid (finS_stop hM2 ((V1.out.trans hV2).ks (FS F g ms fb)) rfl)
   clear hM2 hV2 ho hnl0
   go_wp2_with fail
   refine bp_panic ?_
   rw [HR.out, hh.out]
   exact F1.out
  | ok v m2 =>
   rw [ho] at hp hh
   obtain ⟨rfl, hU, ve2, hX2, hV2⟩ := hp
   have hh := hid (show stmtV cf (evl cf k) d (bareF fb) ⟨a0, 9, a2, a3, a4⟩ x b e m = .ok (0, 0, bareF fb) m2 from hh.out)
   have X2 := hid hX2
   have V2 := hid (V1.out.trans hV2)
   have UV := hid hU
   have KW := hid hV2
   have HB2 := hid (hV2.k.box HBX.out HBX.out.lt (X1.out.c.me.notBox HBX.out (by decide) (by decide) (by decide)))
   clear hX2 hV2 hU ho hnl0 y0 y1 y2 y3 y4 y5 y6 e1
   go_wp2_with fail
   rw [HR.out, hh.out]
   exact finS_ok X2.out rfl U0 (V2.out.ks (FS F g ms fb)) rfl
end
section
open Go.Shelf
def stepsIn (M : Nat) (w : World) : Nat := match w.cell? ⟨M, 6, none⟩ with
 | some (.int _ n) => n.toNat
 | _ => 0
theorem stepsIn_of {p : Pt} {a n d : Nat} {m : MS} {ve : EvS} {w : World} (h : MeR p a n d m ve w) : stepsIn p.M w = m.steps := by
 obtain ⟨en, va, fa, hb⟩ := h.box
 have : w.cell? ⟨p.M, 6, none⟩ = some (.int .i64 m.steps) := by simpa using hb.cell 6
 unfold stepsIn
 rw [this]
 rfl
theorem while182 (p : Pt) (cf : Cf) (u : UT) (n : Nat) (shp : List Nat) (k : Nat) (hRg : cf.Rg) (hal : cf.allowed ≤ 65536) (HE : Hid (∀ j, j ≤ k → WEx p cf u n shp j)) (HL : Hid (∀ j, j ≤ k → WLi p cf u n shp j)) : WWh p cf u n shp (k + 1) := by
 intro d m ve F fb g cap ms t h x b vx vb vz a ty ret lp c' w hax hxt haw hak hob hbw hch hvx hvb hvz hsz hX hnl
 obtain ⟨xa, xc, rfl⟩ := hvx.shape'
 obtain ⟨ba, bc, rfl⟩ := hvb.shape'
 obtain ⟨lz, hvz⟩ := hvz
 obtain ⟨ea, ec, rfl⟩ := hvz.shape'
 obtain ⟨R, hR⟩ : ∃ z, z = PostS p cf u n shp d F ve (FS F g ms fb) (fun q => U q.2.1) (fun q => q.2.2) (fun q => Ending.returned (.tuple #[.int .i64 q.1, .int .u32 q.2.1])) ((evl cf (k + 1)).W d (bareF fb) a.1 a.2 b m) w := ⟨_, rfl⟩
 rw [← hR]
 have HR := hid hR
 clear hR
 obtain ⟨a0, a1, a2, a3, a4⟩ := h
 have hB0 := (Below.refl w.heap.size w).alloc (Nat.le_refl _) (.cells #[.int .i64 t, .int .u8 a1, .string a2, .int .u8 a3, .string a4, .slice xa x.len xc, .slice ba b.len bc, .slice ea lz.len ec] 109)
 have X0 := hid (hX.below hB0)
 have b0 := hid (Bx.new w #[.int .i64 t, .int .u8 a1, .string a2, .int .u8 a3, .string a4, .slice xa x.len xc, .slice ba b.len bc, .slice ea lz.len ec] 109)
 have K0 := hid ((KV.of p ve hB0).ks (FS F g ms fb))
 have HNL := hid hnl
 have hl0 : 0 < x.len := by
  have := (List.getElem?_eq_some_iff.1 hax).1
  rw [Exs.toL_len] at this
  exact this
 have TT := hid (show ∀ wr, Kpt (fun b => p.TE ve b ∨ FS F g ms fb b) w.heap.size w wr → SlE (onlyW wr (oldB p.B)) false none x (.slice xa x.len xc) ∧ SlS (onlyW wr (oldB p.B)) false none b (.slice ba b.len bc) from fun wr hk => ⟨hvx.sub (hX.oldKS hk), hvb.sub (hX.oldKS hk)⟩)
 have AX := hid (And.intro hax (And.intro hxt (And.intro haw (And.intro hak (And.intro hob (And.intro hbw hch))))))
 have SZ := hid hsz
 have RG := hid hRg
 have AL := hid hal
 have lenF := hid (show ∀ fb1, tysF fb1 = tysF fb → fb1.length = fb.length from fun fb1 h => by have := congrArg List.length h; rwa [tysF_len, tysF_len] at this)
 clear hax hxt haw hak hob hbw hch hvx hvb hvz hsz hX hnl hB0 hRg hal
 go_enter Tryz.func182, Tryz.ntmps182
 go_wp2_with fail
 go_loopw [] (fun wr => ∃ (j : Nat) (fb1 : List BSc) (g1 cap1 : Nat) (ms1 : List Nat) (m1 : MS) (ve1 : EvS), j ≤ k ∧ tysF fb1 = tysF fb ∧ (evl cf (k + 1)).W d (bareF fb) a.1 a.2 b m = (evl cf (j + 1)).W d (bareF fb1) a.1 a.2 b m1 ∧ CtX p cf u n shp d m1 ve1 F fb1 g1 cap1 ms1 wr ∧ KS p ve ve1 (FS F g ms fb) (FS F g1 ms1 fb1) w wr ∧
  Bx wr w.heap.size #[.int .i64 t, .int .u8 a1, .string a2, .int .u8 a3, .string a4, .slice xa x.len xc, .slice ba b.len bc, .slice ea lz.len ec] 109) (fun wr => cf.allowed - stepsIn p.M wr)
 case atStart => exact ⟨k, fb, g, cap, ms, m, ve, Nat.le_refl _, rfl, rfl, X0.out, K0.out, b0.out⟩
 case round =>
  clear X0 K0 b0
  obtain ⟨j, fb1, g1, cap1, ms1, m1, ve1, hj, hty, hw, hX1, hK1, hbx⟩ := hrel
  have hh := hid (show (evl cf (k + 1)).W d (bareF fb) a.1 a.2 b m = ((evl cf j).E d (bareF fb1) a.1 a.2 m1).bind fun c m => if c = 0 then .ok (0, 0, bareF fb1) m else ((evl cf j).L d (bareF fb1) b m).bind fun q m =>
   if q.1 = 3 then .ok (3, q.2.1, q.2.2) m else if q.1 = 1 then .ok (0, 0, q.2.2) m else (tick cf m).bind fun _ m => (evl cf j).W d q.2.2 a.1 a.2 b m from hw)
  have hnl0 : (evl cf j).E d (bareF fb1) a.1 a.2 m1 ≠ .lost := Out.of_bind (by rw [← hh.out]; exact HNL.out)
  obtain ⟨hax, hxt, haw, hak, -⟩ := AX.out
  obtain ⟨b9, o9, cp9, t9, ya, yc, hq1, hq2, hq3⟩ := (TT.out wr hK1.k).1.kid 0 a hax
  obtain ⟨rfl, rfl⟩ : xa = some ⟨b9, o9, none⟩ ∧ xc = cp9 := by simpa using hq1
  have hkr : KidR wr b9 o9 t9 a (.slice ya a.2.len yc) := by simpa only [Nat.zero_mul, Nat.add_zero] using hq2.sub (cells_only _ _)
  have cx := hid (HE.out j hj d m1 ve1 F fb1 g1 cap1 ms1 t9 a.1 a.2 _ ty wr (by rw [hty]; exact hxt) haw hak hq3 hX1 hnl0)
  have e5 : wr.cell? ⟨w.heap.size, 5, none⟩ = some (.slice (some ⟨b9, o9, none⟩) x.len xc) := by simpa using hbx.cell 5
  have SM := hid (stepsIn_of hX1.c.me)
  have X1 := hid hX1
  have K1 := hid hK1
  have HBX := hid hbx
  have HTY := hid hty
  obtain ⟨⟨c0, c1, c2, c3, c4, c5⟩, kk⟩ := a
  obtain ⟨y0, y1, y2, y3, y4, y5, y6⟩ := hkr
  simp only [] at y1 y2 y3 y4 y5 y6 cx hh hnl0
  clear hw hX1 hK1 hbx hty hax hxt haw hak hq1 hq2 hq3
  go_wp2_with fail
  refine cx.out.mono ?_
  intro e9 w2 hp
  clear cx
  cases ho : (evl cf j).E d (bareF fb1) ⟨c0, c1, c2, c3, c4, c5⟩ kk m1 with
  | lost => exact absurd ho hnl0
  | stop a9 b9 m2 =>
   rw [ho] at hp hh
   have hh := hid (show (evl cf (k + 1)).W d (bareF fb) ⟨c0, c1, c2, c3, c4, c5⟩ kk b m = Out.stop a9 b9 m2 from hh.out)
   obtain ⟨rfl, ve2, d2, hM2, hV2⟩ := hp
   have F1 : Hid (PostS p cf u n shp d F ve (FS F g ms fb) (fun q : Int × Int × Fr => U q.2.1) (fun q => q.2.2) (fun q => Ending.returned (.tuple #[.int .i64 q.1, .int .u32 q.2.1])) (.stop a9 b9 m2) w (endE a9 b9) w2) := hid (finS_stop hM2 (K1.out.trans (hV2.ks _)) rfl)
   clear hM2 hV2 ho hnl0
   go_wp2_with fail
   refine bp_panic ?_
   rw [HR.out, hh.out]
   exact F1.out
  | ok v m2 =>
   rw [ho] at hp hh
   obtain ⟨rfl, -, ve2, hX2, hV2⟩ := hp
   have hh := hid (show (evl cf (k + 1)).W d (bareF fb) ⟨c0, c1, c2, c3, c4, c5⟩ kk b m = if v = 0 then .ok (0, 0, bareF fb1) m2 else ((evl cf j).L d (bareF fb1) b m2).bind fun q m =>
    if q.1 = 3 then .ok (3, q.2.1, q.2.2) m else if q.1 = 1 then .ok (0, 0, q.2.2) m else (tick cf m).bind fun _ m => (evl cf j).W d q.2.2 ⟨c0, c1, c2, c3, c4, c5⟩ kk b m from hh.out)
   have hle1 : m1.steps ≤ m2.steps := (Out.from_ok ((evl_good cf j).E _ _ _ _ _) ho).1
   have X2 := hid hX2
   have K2 := hid (K1.out.trans (hV2.ks _))
   have HB2 := hid (X1.out.boxKS (hV2.ks _).k HBX.out (by decide) (by decide))
   have LE1 := hid hle1
   clear hX2 hV2 ho hnl0 y0 y1 y2 y3 y4 y5 y6 e5 hle1
   by_cases hv0 : v = 0
   ·have hg := hid (show (evl cf (k + 1)).W d (bareF fb) ⟨c0, c1, c2, c3, c4, c5⟩ kk b m = .ok (0, 0, bareF fb1) m2 by rw [hh.out, if_pos hv0])
    clear hh
    subst hv0
    go_wp2_with fail
    rw [HR.out, hg.out]
    exact finS_ok X2.out rfl U0 K2.out rfl
   ·have hg := hid (show (evl cf (k + 1)).W d (bareF fb) ⟨c0, c1, c2, c3, c4, c5⟩ kk b m = ((evl cf j).L d (bareF fb1) b m2).bind fun q m =>
     if q.1 = 3 then .ok (3, q.2.1, q.2.2) m else if q.1 = 1 then .ok (0, 0, q.2.2) m else (tick cf m).bind fun _ m => (evl cf j).W d q.2.2 ⟨c0, c1, c2, c3, c4, c5⟩ kk b m by rw [hh.out, if_neg hv0])
    clear hh
    have hv1 : (v != 0) = true := by simpa using hv0
    have hnlL : (evl cf j).L d (bareF fb1) b m2 ≠ .lost := Out.of_bind (by rw [← hg.out]; exact HNL.out)
    obtain ⟨-, -, -, -, hob, hbw, hch⟩ := AX.out
    have cx := hid (HL.out j hj d m2 ve2 F fb1 g1 cap1 ms1 b (.slice ba b.len bc) ret lp c' w2 hob hbw (by rw [HTY.out]; exact hch) (TT.out w2 K2.out.k).2 (by have h1 := lenF.out fb1 HTY.out; have h2 := SZ.out; omega) X2.out hnlL)
    have z6 : w2.cell? ⟨w.heap.size, 6, none⟩ = some (.slice ba b.len bc) := by simpa using HB2.out.cell 6
    clear hob hbw hch
    go_wp2_with fail
    refine cx.out.mono ?_
    intro e9 w3 hp
    clear cx
    cases ho : (evl cf j).L d (bareF fb1) b m2 with
    | lost => exact absurd ho hnlL
    | stop a9 b9 m3 =>
     rw [ho] at hp hg
     have hh := hid (show (evl cf (k + 1)).W d (bareF fb) ⟨c0, c1, c2, c3, c4, c5⟩ kk b m = Out.stop a9 b9 m3 from hg.out)
     obtain ⟨rfl, ve3, d3, hM3, hK3⟩ := hp
     have F1 : Hid (PostS p cf u n shp d F ve (FS F g ms fb) (fun q : Int × Int × Fr => U q.2.1) (fun q => q.2.2) (fun q => Ending.returned (.tuple #[.int .i64 q.1, .int .u32 q.2.1])) (.stop a9 b9 m3) w (endE a9 b9) w3) := hid (finS_stop hM3 (K2.out.trans hK3) rfl)
     clear hM3 hK3 ho hnlL
     go_wp2_with fail
     refine bp_panic ?_
     rw [HR.out, hh.out]
     exact F1.out
    | ok q m3 =>
     rw [ho] at hp hg
     obtain ⟨rfl, hU, ve3, fb3, g3, cap3, ms3, hb3, hX3, hK3⟩ := hp
     have hb3 : bareF fb3 = q.2.2 := hb3
     have hty3 : tysF fb3 = tysF fb := by
      have h1 := Out.ty_ok ((evl_ty cf j).L d (bareF fb1) b m2) ho
      have h2 : tyFr q.2.2 = tyFr (bareF fb1) := h1
      rw [← hb3, tyFr_bare, tyFr_bare, HTY.out] at h2
      exact h2
     have hle2 : m2.steps ≤ m3.steps := (Out.from_ok ((evl_good cf j).L _ _ _ _) ho).1
     obtain ⟨how, v3, fr3⟩ := q
     simp only [] at hU hb3 ⊢
     subst hb3
     have hh := hid (show (evl cf (k + 1)).W d (bareF fb) ⟨c0, c1, c2, c3, c4, c5⟩ kk b m = if how = 3 then .ok (3, v3, bareF fb3) m3 else if how = 1 then .ok (0, 0, bareF fb3) m3 else (tick cf m3).bind fun _ m => (evl cf j).W d (bareF fb3) ⟨c0, c1, c2, c3, c4, c5⟩ kk b m from hg.out)
     have X3 := hid hX3
     have K3 := hid (K2.out.trans hK3)
     have HB3 := hid (X2.out.boxKS hK3.k HB2.out (by decide) (by decide))
     have HU := hid hU
     have TY3 := hid hty3
     have LE2 := hid (Nat.le_trans LE1.out hle2)
     clear hX3 hK3 ho hnlL hU hty3 hle2 hg z6
     by_cases h3 : how = 3
     ·subst h3
      have hg := hid (show (evl cf (k + 1)).W d (bareF fb) ⟨c0, c1, c2, c3, c4, c5⟩ kk b m = .ok (3, v3, bareF fb3) m3 from hh.out.trans (if_pos rfl))
      clear hh
      go_wp2_with fail
      rw [HR.out, hg.out]
      exact finS_ok X3.out rfl HU.out K3.out rfl
     ·by_cases h1 : how = 1
      ·subst h1
       have hg := hid (show (evl cf (k + 1)).W d (bareF fb) ⟨c0, c1, c2, c3, c4, c5⟩ kk b m = .ok (0, 0, bareF fb3) m3 from hh.out.trans ((if_neg h3).trans (if_pos rfl)))
       clear hh
       go_wp2_with fail
       rw [HR.out, hg.out]
       exact finS_ok X3.out rfl U0 K3.out rfl
      ·have hg := hid (show (evl cf (k + 1)).W d (bareF fb) ⟨c0, c1, c2, c3, c4, c5⟩ kk b m = (tick cf m3).bind fun _ m => (evl cf j).W d (bareF fb3) ⟨c0, c1, c2, c3, c4, c5⟩ kk b m from hh.out.trans ((if_neg h3).trans (if_neg h1)))
       clear hh
       have n3 : (how == 3) = false := by simpa using h3
       have n1 : (how == 1) = false := by simpa using h1
       have cs := hid (step116 p cf n d m3 ve3 w3 AL.out X3.out.inv.steps X3.out.c.me)
       by_cases hc : cf.allowed ≤ m3.steps
       ·have ht : tick cf m3 = .stop 3 0 m3 := by unfold tick; rw [if_pos hc]
        rw [ht] at cs
        have hh := hid (show (evl cf (k + 1)).W d (bareF fb) ⟨c0, c1, c2, c3, c4, c5⟩ kk b m = .stop 3 0 m3 by rw [hg.out, ht]; rfl)
        clear hg hc ht
        go_wp2_with fail
        refine cs.out.mono ?_
        rintro e9 w4 ⟨rfl, ve4, d4, hM4, hK4, hV4⟩
        have F1 : Hid (PostS p cf u n shp d F ve (FS F g ms fb) (fun q : Int × Int × Fr => U q.2.1) (fun q => q.2.2) (fun q => Ending.returned (.tuple #[.int .i64 q.1, .int .u32 q.2.1])) (.stop 3 0 m3) w (endE 3 0) w4) := hid (finS_stop hM4 (K3.out.trans ((⟨hK4, hV4⟩ : KV p ve3 ve4 w3 w4).ks _)) rfl)
        clear hM4 hK4 hV4 cs
        go_wp2_with fail
        refine bp_panic ?_
        rw [HR.out, hh.out]
        exact F1.out
       ·have ht : tick cf m3 = .ok () { m3 with steps := m3.steps + 1 } := by unfold tick; rw [if_neg hc]
        have hi4 : Inv cf shp { m3 with steps := m3.steps + 1 } := by have := tick_ok (cf := cf) m3 X3.out.inv; rw [ht] at this; exact this
        have hr4 : MS.Rg { m3 with steps := m3.steps + 1 } := X3.out.rg
        have CS := hid (fun (e : Ending) (w4 : World) (hp : PostM p cf.allowed n d _ ve3 (fun _ => .returned (.tuple #[])) (tick cf m3) _ e w4) => PostM.lift (P := fun _ => True) X3.out (by rw [ht]; exact hi4) (by rw [ht]; exact ⟨trivial, hr4⟩) hp)
        have hst : m1.steps < cf.allowed ∧ m1.steps < ({ m3 with steps := m3.steps + 1 } : MS).steps := ⟨by have := LE2.out; omega, by have := LE2.out; show m1.steps < m3.steps + 1; omega⟩
        have hh := hid (show (evl cf (k + 1)).W d (bareF fb) ⟨c0, c1, c2, c3, c4, c5⟩ kk b m = (evl cf j).W d (bareF fb3) ⟨c0, c1, c2, c3, c4, c5⟩ kk b { m3 with steps := m3.steps + 1 } by rw [hg.out, ht]; rfl)
        generalize ({ m3 with steps := m3.steps + 1 } : MS) = m4 at ht hh hi4 hr4 hst
        have HT := hid ht
        have HST := hid hst
        clear hg hc hi4 hr4 ht hst
        go_wp2_with fail
        refine cs.out.mono ?_
        intro e9 w4 hp
        have h9 := CS.out e9 w4 hp
        rw [HT.out] at h9
        obtain ⟨rfl, -, ve4, hX4, hV4⟩ := h9
        have SM4 := hid (stepsIn_of hX4.c.me)
        have X4 := hid hX4
        have K4 := hid (K3.out.trans (hV4.ks _))
        have HB4 := hid (X3.out.boxKS (hV4.ks _).k HB3.out (by decide) (by decide))
        clear hp hX4 hV4 cs CS
        have HJ : ∃ j', j = j' + 1 := by
         cases j with
         | zero => exact absurd hh.out HNL.out
         | succ j' => exact ⟨j', rfl⟩
        obtain ⟨j', hj'⟩ := HJ
        have HH := hid (show (evl cf (k + 1)).W d (bareF fb) ⟨c0, c1, c2, c3, c4, c5⟩ kk b m = (evl cf (j' + 1)).W d (bareF fb3) ⟨c0, c1, c2, c3, c4, c5⟩ kk b m4 by rw [hh.out, hj'])
        have HJJ := hid (show j' ≤ k by omega)
        clear hh hj'
        go_wp2_with fail
        refine ⟨⟨j', fb3, g3, cap3, ms3, m4, ve4, HJJ.out, TY3.out, HH.out, X4.out, K4.out, HB4.out⟩, ?_⟩
        have h1 := SM4.out
        have h2 := SM.out
        have h3 := HST.out
        omega
end
end Go.Proofs.YtlabadkfkbenoaaGreatDoor
