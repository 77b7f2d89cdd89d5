/- Walks and plain laws, merged: IntU IntV. No condition. -/
import Derived.Test.YtlabadkfkbenoaaGreatDoorKm01
import Derived.Test.YtlabadkfkbenoaaGreatDoorKm21
namespace Go.Proofs.YtlabadkfkbenoaaGreatDoor
open Go.RowKit
set_option linter.unusedVariables false
set_option linter.unusedSimpArgs false
set_option maxRecDepth 100000
set_option maxHeartbeats 64000000
section
open Go.Shelf
theorem set180 (p : Pt) (cf : Cf) (u : UT) (n : Nat) (shp : List Nat) (k d : Nat) (m : MS) (ve : EvS) (F : Nat) (fb : List BSc) (g cap : Nat) (ms : List Nat) (t a0 a1 a3 : Int) (a2 a4 : ByteArray) (x : Exs) (xa ba ea : Option Addr) (xc bl bc el ec : Nat) (ty : Int) (ts : List Int) (w : World) (ha : cf.alu = aluV) (HE : Hid (WEx p cf u n shp k)) (hts : tyE cf.vs cf.cs (tysF fb) x = .ok ts) (hox : okE x = true) (hxw : x.Wf) (hv : SlE (onlyW w (oldB p.B)) false none x (.slice xa x.len xc)) (hX : CtX p cf u n shp d m ve F fb g cap ms w) (hx1 : 1 ≤ x.len) (hvt : varT cf.vs (tysF fb) a2 = .ok ty) (hnl : setV cf (evl cf k) d (bareF fb) ⟨a0, a1, a2, a3, a4⟩ x m ≠ .lost) :
  Calls Tryz.prog 180 #[.pointer (some ⟨p.M, 0, none⟩), .pointer (some ⟨F, 0, none⟩), .agg #[.int .i64 t, .int .u8 a1, .string a2, .int .u8 a3, .string a4, .slice xa x.len xc, .slice ba bl bc, .slice ea el ec]] w (PostS p cf u n shp d F ve (FS F g ms fb) (fun _ => True) (fun fr => fr) (fun _ => .returned (.tuple #[])) (setV cf (evl cf k) d (bareF fb) ⟨a0, a1, a2, a3, a4⟩ x m) w) := by
 obtain ⟨R, hR⟩ : ∃ z, z = (PostS p cf u n shp d F ve (FS F g ms fb) (fun _ => True) (fun fr => fr) (fun _ => .returned (.tuple #[])) (setV cf (evl cf k) d (bareF fb) ⟨a0, a1, a2, a3, a4⟩ x m) w) := ⟨_, rfl⟩
 rw [← hR]
 have HR := hid hR
 clear hR
 obtain ⟨len, hlen⟩ : ∃ z, z = x.len := ⟨_, rfl⟩
 rw [← hlen] at hv hx1 ⊢
 have hl0 : 0 < len := by omega
 obtain ⟨b0, o0, t0, ya0, yc0, k0, hk0, hka0, hr0, hs0⟩ := hv.kidW (w' := w) 0 (by omega)
 obtain ⟨ty0, hx0, -⟩ := tyE_xt hox hts 0 k0 hk0
 have hw0 := Exs.wf_at hxw 0 k0 hk0
 have hk0 := hid hk0
 subst hka0
 have hB0 := (Below.refl w.heap.size w).alloc (Nat.le_refl _) (.cells #[.int .i64 t, .int .u8 a1, .string a2, .int .u8 a3, .string a4, .slice (some ⟨b0, o0, none⟩) len xc, .slice ba bl bc, .slice ea el ec] 109)
 have hX0 := hX.below hB0
 have hb0 := Bx.new w #[.int .i64 t, .int .u8 a1, .string a2, .int .u8 a3, .string a4, .slice (some ⟨b0, o0, none⟩) len xc, .slice ba bl bc, .slice ea el ec] 109
 have V0 := hid (KV.of p ve hB0)
 have EB := hid (show ∀ w9, Kpt (fun b => p.TE ve b ∨ FS F g ms fb b) (w.alloc (.cells #[.int .i64 t, .int .u8 a1, .string a2, .int .u8 a3, .string a4, .slice (some ⟨b0, o0, none⟩) len xc, .slice ba bl bc, .slice ea el ec] 109)).heap.size (w.alloc (.cells #[.int .i64 t, .int .u8 a1, .string a2, .int .u8 a3, .string a4, .slice (some ⟨b0, o0, none⟩) len xc, .slice ba bl bc, .slice ea el ec] 109)) w9 → Bx w9 w.heap.size #[.int .i64 t, .int .u8 a1, .string a2, .int .u8 a3, .string a4, .slice (some ⟨b0, o0, none⟩) len xc, .slice ba bl bc, .slice ea el ec] 109 from fun w9 hk => hX0.boxKS hk hb0 (by decide) (by decide))
 have K0 := hid (show ∀ w9, Kpt (fun b => p.TE ve b ∨ FS F g ms fb b) (w.alloc (.cells #[.int .i64 t, .int .u8 a1, .string a2, .int .u8 a3, .string a4, .slice (some ⟨b0, o0, none⟩) len xc, .slice ba bl bc, .slice ea el ec] 109)).heap.size (w.alloc (.cells #[.int .i64 t, .int .u8 a1, .string a2, .int .u8 a3, .string a4, .slice (some ⟨b0, o0, none⟩) len xc, .slice ba bl bc, .slice ea el ec] 109)) w9 → KidR w9 b0 (o0) t0 k0 (.slice ya0 k0.2.len yc0) ∧ SlE (onlyW w9 (oldB p.B)) false none k0.2 (.slice ya0 k0.2.len yc0) from fun w9 hk => ⟨by
  have h := ((hr0.sub (cells_old_below hB0)).sub (hX0.oldKS hk)).sub (cells_only _ _)
  simpa only [Nat.zero_mul, Nat.add_zero, Nat.one_mul] using h, (hs0.sub (cells_old_below hB0)).sub (hX0.oldKS hk)⟩)
 have c79a := hid (fun (m1 : MS) (ve1 : EvS) (w1 : World) (hX1 : CtX p cf u n shp d m1 ve1 F fb g cap ms w1) (hs : SlE (onlyW w1 (oldB p.B)) false none k0.2 (.slice ya0 k0.2.len yc0)) (hnl1 : (evl cf k).E d (bareF fb) k0.1 k0.2 m1 ≠ .lost) => HE.out d m1 ve1 F fb g cap ms t0 k0.1 k0.2 _ ty0 w1 hx0 hw0.1 hw0.2 hs hX1 hnl1)
 have hek0 := hid (fun (m1 : MS) => evK_at (ev := evl cf k) (d := d) (fr := bareF fb) (m := m1) hk0.out)
 obtain ⟨b, hpl, hrv, c76⟩ := hX0.wordP hvt
 have c76 := hid c76
 have PL := hid hpl
 have HX0 := hid hX0
 have RV := hid hrv
 have hh := hid (show setV cf (evl cf k) d (bareF fb) ⟨a0, a1, a2, a3, a4⟩ x m = _ by unfold setV; rw [hek0.out])
 have hnl0 : (evl cf k).E d (bareF fb) k0.1 k0.2 m ≠ .lost := Out.of_bind (by rw [← hh.out]; exact hnl)
 rw [hrv, ha] at hh
 obtain ⟨⟨c0, c1, c2, c3, c4, c5⟩, kk⟩ := k0
 simp only [] at c79a K0 hh hnl0
 clear HE hts hox hxw hv hX hx1 hvt hnl hlen hr0 hs0 hx0 hw0 hk0 hB0 hX0 hb0 hpl hrv ha hek0
 go_enter Tryz.func180, Tryz.ntmps180
 go_wp2_with fail
 refine c76.out.mono ?_
 rintro e w1 ⟨rfl, hb1⟩
 clear c76
 have B01 := hid hb1
 have kp1 := Kpt.of (T := fun b => p.TE ve b ∨ FS F g ms fb b) hb1
 have X1 := hid (HX0.out.below hb1)
 have V1 := hid (V0.out.below hb1)
 have hbx := EB.out w1 kp1
 obtain ⟨⟨y0, y1, y2, y3, y4, y5, y6⟩, hs1⟩ := K0.out w1 kp1
 simp only [] at y1 y2 y3 y4 y5 y6
 have e4 : w1.cell? ⟨w.heap.size, 4, none⟩ = some (.string a4) := by simpa using hbx.cell 4
 have e5 : w1.cell? ⟨w.heap.size, 5, none⟩ = some (.slice (some ⟨b0, o0, none⟩) len xc) := by simpa using hbx.cell 5
 have HBX := hid hbx
 clear hb1 kp1 hbx HX0 V0
 cases hsg : a4.toList.isEmpty
 case true =>
  have cx := hid (c79a.out m ve w1 X1.out hs1 hnl0)
  clear c79a hs1
  go_wp2_with fail
  cases ho : (evl cf k).E d (bareF fb) ⟨c0, c1, c2, c3, c4, c5⟩ kk m with
  | lost => exact absurd ho hnl0
  | stop a b9 m1 =>
   rw [ho] at cx hh
   have hh := hid (show _ = Out.stop a b9 m1 from hh.out)
   refine cx.out.mono ?_
   rintro e w2 ⟨rfl, ve1, d1, hM1, hV1⟩
   have F1 : Hid (PostS p cf u n shp d F ve (FS F g ms fb) (fun _ => True) (fun fr => fr) (fun _ => .returned (.tuple #[])) (.stop a b9 m1) w (endE a b9) w2) := hid (finS_stop hM1 ((V1.out.trans hV1).ks _) rfl)
   clear hM1 hV1 cx
   go_wp2_with fail
   refine bp_panic ?_
   rw [HR.out, hh.out]
   exact F1.out
  | ok rv m1 =>
   rw [ho] at cx hh
   refine cx.out.mono ?_
   rintro e w2 ⟨rfl, hU, ve1, hX1, hV1⟩
   have hh := hid (show setV cf (evl cf k) d (bareF fb) ⟨a0, a1, a2, a3, a4⟩ x m = .ok (writeV cf (bareF fb) m1 a2 rv).1 (writeV cf (bareF fb) m1 a2 rv).2 from hh.out.trans (by simp only [Out.bind]; rw [if_pos hsg]))
   obtain ⟨z1, z2⟩ := hX1.placed PL.out
   obtain ⟨fb9, h1, h2, h3⟩ := hX1.write PL.out hU
   have F1 : Hid (PostS p cf u n shp d F ve (FS F g ms fb) (fun _ => True) (fun fr => fr) (fun _ => .returned (.tuple #[])) (.ok (writeV cf (bareF fb) m1 a2 rv).1 (writeV cf (bareF fb) m1 a2 rv).2) w (.returned (.tuple #[])) (w2.setCell ⟨b, 0, none⟩ (.int .u32 rv))) := hid (finS_ok h2 h1 trivial (((V1.out.trans hV1).ks _).trans h3) rfl)
   clear hX1 hV1 h1 h2 h3 cx
   go_wp2_with fail
   go_end0
   rw [HR.out, hh.out]
   exact F1.out
 case false =>
  obtain ⟨z1, z2⟩ := X1.out.placed PL.out
  skip
  obtain ⟨old, hold⟩ : ∃ z, z = (readV cf (bareF fb) m a2).2 := ⟨_, rfl⟩
  rw [← hold] at z1 hh
  have HOLD := hid hold
  clear hold
  go_wp2_with fail
  have E4 := hid (show ∀ w9, Kpt (fun b => p.TE ve b ∨ FS F g ms fb b) w1.heap.size w1 w9 → w9.cell? ⟨w.heap.size, 4, none⟩ = some (.string a4) from fun w9 hk => by simpa using (X1.out.boxKS hk HBX.out (by decide) (by decide)).cell 4)
  have E5 := hid (show ∀ w9, Kpt (fun b => p.TE ve b ∨ FS F g ms fb b) w1.heap.size w1 w9 → w9.cell? ⟨w.heap.size, 5, none⟩ = some (.slice (some ⟨b0, o0, none⟩) len xc) from fun w9 hk => by simpa using (X1.out.boxKS hk HBX.out (by decide) (by decide)).cell 5)
  have KK := hid (show ∀ w9, Kpt (fun b => p.TE ve b ∨ FS F g ms fb b) w1.heap.size w1 w9 → KidR w9 b0 o0 t0 (⟨c0, c1, c2, c3, c4, c5⟩, kk) (.slice ya0 kk.len yc0) from fun w9 hk => (K0.out w9 ((Kpt.of B01.out).trans (hk.mono B01.out.size fun b _ q => q))).1)
  refine wp_region_held_drew (S := (Kpt (fun b => p.TE ve b ∨ FS F g ms fb b) w1.heap.size w1)) (by kernel_rfl) (Kpt.of (Below.refl _ _).drew) (fun hHeld => ?_)
  refine tk 0 ?_
  refine tk 1 ?_
  refine tk 2 ?_ (hy := by intro w' hSw; have q := E4.out w' hSw; go_simp; (try with_reducible rfl))
  refine tk 3 ?_
  refine tk 4 ?_
  refine tk 5 ?_
  refine tk 6 ?_
  refine tk 7 ?_
  refine tk 8 ?_ (hy := by intro w' hSw; have q := E5.out w' hSw; go_simp; (try with_reducible rfl))
  refine tk 9 ?_
  refine tk 10 ?_ (hy := by intro w' hSw; obtain ⟨q0, q1, q2, q3, q4, q5, q6⟩ := KK.out w' hSw; go_simp; (try with_reducible rfl))
  refine tr 11 fun K hK => ?_
  go_simp
  go_at_call 79
  have V1d := hid (V1.out.below (Below.refl w1.heap.size w1).drew)
  have W1 := hid (KV.of p ve (Below.refl w1.heap.size w1).drew)
  have cx := hid (c79a.out m ve w1.drew (X1.out.below (Below.refl _ _).drew) (hs1.sub (cells_old_below (Below.refl _ _).drew)) hnl0)
  clear c79a hs1 z1 z2 e4 e5 y0 y1 y2 y3 y4 y5 y6
  cases ho : (evl cf k).E d (bareF fb) ⟨c0, c1, c2, c3, c4, c5⟩ kk m with
  | lost => exact absurd ho hnl0
  | stop a b9 m1 =>
   rw [ho] at cx hh
   have hh := hid (show _ = Out.stop a b9 m1 from hh.out)
   refine cx.out.mono ?_
   rintro e w2 ⟨rfl, ve1, d1, hM1, hV1⟩
   have F1 : Hid (PostS p cf u n shp d F ve (FS F g ms fb) (fun _ => True) (fun fr => fr) (fun _ => .returned (.tuple #[])) (.stop a b9 m1) w (endE a b9) w2) := hid (finS_stop hM1 ((V1d.out.trans hV1).ks _) rfl)
   clear hK hHeld
   clear hM1 hV1 cx
   go_wp2_with fail
   refine bp_panic ?_
   rw [HR.out, hh.out]
   exact F1.out
  | ok rv m1 =>
   rw [ho] at cx hh
   refine cx.out.mono ?_
   rintro e w2 ⟨rfl, hU, ve1, hX1, hV1⟩
   have X2 := hid hX1
   have V2 := hid (V1d.out.trans hV1)
   have UU := hid hU
   have KW2 := hid (W1.out.trans hV1)
   have k2 := ((W1.out.trans hV1).ks (FS F g ms fb)).k
   have K2 := hid k2
   have c118 := hid (worked118 a4 ty old rv hU.1 w2)
   have hh := hid (show setV cf (evl cf k) d (bareF fb) ⟨a0, a1, a2, a3, a4⟩ x m = (match workedV aluV a4 ty old rv with | some r => .ok (writeV cf (bareF fb) m1 a2 r).1 (writeV cf (bareF fb) m1 a2 r).2 | none => .stop 2 2 m1) from hh.out.trans (by simp only [Out.bind]; rw [if_neg (by simp [hsg])]; try rfl))
   clear hHeld hX1 hV1 hU cx ho hnl0
   go_wp2_with fail
   refine hK.out _ _ k2 (fun hHeld => ?_)
   clear hK K
   try simp only [tpa, tpb, tpc, tpd, tpe]
   clear k2
   refine tr 12 fun K hK => ?_
   go_simp
   go_at_call 118
   refine c118.out.mono ?_
   intro e w3 hp
   obtain ⟨he, hb3⟩ := hp
   clear c118 hHeld
   cases hwk : workedV aluV a4 ty old rv with
   | none =>
    rw [hwk] at he hh
    have he : e = endE 2 2 := he
    subst he
    have F1 : Hid (PostS p cf u n shp d F ve (FS F g ms fb) (fun _ => True) (fun fr => fr) (fun _ => .returned (.tuple #[])) (.stop 2 2 m1) w (endE 2 2) w3) := hid (finS_stop (X2.out.c.me.below hb3) ((V2.out.below hb3).ks (FS F g ms fb)) rfl)
    have hh := hid (show _ = Out.stop 2 2 m1 from hh.out)
    clear hK hb3
    go_wp2_with fail
    refine bp_panic ?_
    rw [HR.out, hh.out]
    exact F1.out
   | some r =>
    rw [hwk] at he hh
    have he : e = .returned (.int .u32 r) := he
    subst he
    have hh := hid (show _ = Out.ok (writeV cf (bareF fb) m1 a2 r).1 (writeV cf (bareF fb) m1 a2 r).2 from hh.out)
    have X3 := X2.out.below hb3
    have hUr : U r := workedV_rg aluV_rg (by rw [HOLD.out]; exact readV_rg X1.out.frg X1.out.rg a2) UU.out hwk
    obtain ⟨z1, z2⟩ := X3.placed PL.out
    obtain ⟨fb9, h1, h2, h3⟩ := X3.write PL.out hUr
    have F1 : Hid (PostS p cf u n shp d F ve (FS F g ms fb) (fun _ => True) (fun fr => fr) (fun _ => .returned (.tuple #[])) (.ok (writeV cf (bareF fb) m1 a2 r).1 (writeV cf (bareF fb) m1 a2 r).2) w (.returned (.tuple #[])) (w3.setCell ⟨b, 0, none⟩ (.int .u32 r))) := hid (finS_ok h2 h1 trivial (((V2.out.below hb3).ks _).trans h3) rfl)
    have k3 : Kpt (fun b => p.TE ve b ∨ FS F g ms fb b) w1.heap.size w1 w3 := K2.out.trans (Kpt.of (hb3.mono K2.out.size))
    have k4 := hid ((((KW2.out.below hb3).ks (FS F g ms fb)).trans h3).k)
    clear hb3 h1 h2 h3 X3 hUr hwk
    go_wp2_with fail
    refine hK.out _ _ k3 (fun hHeld => ?_)
    clear hK K
    try simp only [tpa, tpb, tpc, tpd, tpe]
    refine tk 13 ?_
    refine tr 14 fun K hK => ?_
    go_simp
    refine hK.out _ _ k4.out (fun hHeld => ?_)
    clear hK K
    try simp only [tpa, tpb, tpc, tpd, tpe]
    refine td ?_
    go_wp2_with fail
    go_end0
    rw [HR.out, hh.out]
    exact F1.out
theorem CtX.varKS {p : Pt} {cf : Cf} {u : UT} {n : Nat} {shp : List Nat} {d : Nat} {m : MS} {ve : EvS} {F : Nat} {fb : List BSc} {g cap : Nat} {ms : List Nat} {w : World} (hX : CtX p cf u n shp d m ve F fb g cap ms w) {s : ByteArray} {t ln : Int} (hv : getM s cf.vs = some (t, ln)) (w9 : World) (hk : Kpt (fun b => p.TE ve b ∨ FS F g ms fb b) w.heap.size w w9) :
  (Instr.lookup 88 (.map (some p.vb)) (.string s) false).run Tryz.prog w9 = .ok (.agg #[.int .u8 t, .int .u32 ln]) w9 := by
 have hlt := hX.c.st.lv
 have hn := hX.c.st.Bn
 have hm := map_whole hX.c.st.nm.vars (by simpa using hlt)
 have l2 := (hk.map hm hm.lt (fun q => q.elim (hX.c.me.old hX.c.st.M hn hlt) fun q => by have := (hX.c.fr.fs q).1; omega)).lookup under88 under9 s _ (zero155 w9) false
 rw [getM_map varv, hv] at l2
 simpa using l2
theorem held_len {cf : Cf} {shp : List Nat} {m1 m2 : MS} (h1 : Inv cf shp m1) (h2 : Inv cf shp m2) (i : Nat) (q1 : i < m1.held.length) (q2 : i < m2.held.length) : m2.held[i].length = m1.held[i].length := by
 have e := h2.shape.trans h1.shape.symm
 have := congrArg (fun l => l[i]?) e
 simpa [q1, q2] using this
theorem put181 (p : Pt) (cf : Cf) (u : UT) (n : Nat) (shp : List Nat) (k d : Nat) (m : MS) (ve : EvS) (F : Nat) (fb : List BSc) (g cap : Nat) (ms : List Nat) (t a0 a1 a3 : Int) (a2 a4 : ByteArray) (x : Exs) (xa ba ea : Option Addr) (xc bl bc el ec : Nat) (ty : Int) (ts : List Int) (w : World) (ha : cf.alu = aluV) (HE : Hid (WEx p cf u n shp k)) (hts : tyE cf.vs cf.cs (tysF fb) x = .ok ts) (hox : okE x = true) (hxw : x.Wf) (hv : SlE (onlyW w (oldB p.B)) false none x (.slice xa x.len xc)) (hX : CtX p cf u n shp d m ve F fb g cap ms w) (hx1 : 2 ≤ x.len) (hvt : arrT cf.vs (tysF fb) a2 = .ok ty) (hnl : putV cf (evl cf k) d (bareF fb) ⟨a0, a1, a2, a3, a4⟩ x m ≠ .lost) :
  Calls Tryz.prog 181 #[.pointer (some ⟨p.M, 0, none⟩), .pointer (some ⟨F, 0, none⟩), .agg #[.int .i64 t, .int .u8 a1, .string a2, .int .u8 a3, .string a4, .slice xa x.len xc, .slice ba bl bc, .slice ea el ec]] w (PostS p cf u n shp d F ve (FS F g ms fb) (fun _ => True) (fun _ : Unit => bareF fb) (fun _ : Unit => .returned (.tuple #[])) (putV cf (evl cf k) d (bareF fb) ⟨a0, a1, a2, a3, a4⟩ x m) w) := by
 obtain ⟨R, hR⟩ : ∃ z, z = (PostS p cf u n shp d F ve (FS F g ms fb) (fun _ => True) (fun _ : Unit => bareF fb) (fun _ : Unit => .returned (.tuple #[])) (putV cf (evl cf k) d (bareF fb) ⟨a0, a1, a2, a3, a4⟩ x m) w) := ⟨_, rfl⟩
 rw [← hR]
 have HR := hid hR
 clear hR
 obtain ⟨ln, hvs, -⟩ := arrT_ok hvt
 obtain ⟨len, hlen⟩ : ∃ z, z = x.len := ⟨_, rfl⟩
 rw [← hlen] at hv hx1 ⊢
 have hl0 : 0 < len := by omega
 have hl1 : 1 < len := by omega
 have hl2 : (1 : Int) < (len : Int) := by omega
 obtain ⟨b0, o0, t0, ya0, yc0, k0, hk0, hka0, hr0, hs0⟩ := hv.kidW (w' := w) 0 (by omega)
 obtain ⟨ty0, hx0, -⟩ := tyE_xt hox hts 0 k0 hk0
 have hw0 := Exs.wf_at hxw 0 k0 hk0
 have hk0 := hid hk0
 obtain ⟨b1, o1, t1, ya1, yc1, k1, hk1, hka1, hr1, hs1⟩ := hv.kidW (w' := w) 1 (by omega)
 obtain ⟨ty1, hx1, -⟩ := tyE_xt hox hts 1 k1 hk1
 have hw1 := Exs.wf_at hxw 1 k1 hk1
 have hk1 := hid hk1
 subst hka0
 obtain ⟨rfl, rfl⟩ : b1 = b0 ∧ o1 = o0 := by cases hka1; exact ⟨rfl, rfl⟩
 clear hka1
 have hB0 := (Below.refl w.heap.size w).alloc (Nat.le_refl _) (.cells #[.int .i64 t, .int .u8 a1, .string a2, .int .u8 a3, .string a4, .slice (some ⟨b1, o1, none⟩) len xc, .slice ba bl bc, .slice ea el ec] 109)
 have hX0 := hX.below hB0
 have hb0 := Bx.new w #[.int .i64 t, .int .u8 a1, .string a2, .int .u8 a3, .string a4, .slice (some ⟨b1, o1, none⟩) len xc, .slice ba bl bc, .slice ea el ec] 109
 have V0 := hid (KV.of p ve hB0)
 have EB := hid (show ∀ w9, Kpt (fun b => p.TE ve b ∨ FS F g ms fb b) (w.alloc (.cells #[.int .i64 t, .int .u8 a1, .string a2, .int .u8 a3, .string a4, .slice (some ⟨b1, o1, none⟩) len xc, .slice ba bl bc, .slice ea el ec] 109)).heap.size (w.alloc (.cells #[.int .i64 t, .int .u8 a1, .string a2, .int .u8 a3, .string a4, .slice (some ⟨b1, o1, none⟩) len xc, .slice ba bl bc, .slice ea el ec] 109)) w9 → Bx w9 w.heap.size #[.int .i64 t, .int .u8 a1, .string a2, .int .u8 a3, .string a4, .slice (some ⟨b1, o1, none⟩) len xc, .slice ba bl bc, .slice ea el ec] 109 from fun w9 hk => hX0.boxKS hk hb0 (by decide) (by decide))
 have K0 := hid (show ∀ w9, Kpt (fun b => p.TE ve b ∨ FS F g ms fb b) (w.alloc (.cells #[.int .i64 t, .int .u8 a1, .string a2, .int .u8 a3, .string a4, .slice (some ⟨b1, o1, none⟩) len xc, .slice ba bl bc, .slice ea el ec] 109)).heap.size (w.alloc (.cells #[.int .i64 t, .int .u8 a1, .string a2, .int .u8 a3, .string a4, .slice (some ⟨b1, o1, none⟩) len xc, .slice ba bl bc, .slice ea el ec] 109)) w9 → KidR w9 b1 (o1) t0 k0 (.slice ya0 k0.2.len yc0) ∧ SlE (onlyW w9 (oldB p.B)) false none k0.2 (.slice ya0 k0.2.len yc0) from fun w9 hk => ⟨by
  have h := ((hr0.sub (cells_old_below hB0)).sub (hX0.oldKS hk)).sub (cells_only _ _)
  simpa only [Nat.zero_mul, Nat.add_zero, Nat.one_mul] using h, (hs0.sub (cells_old_below hB0)).sub (hX0.oldKS hk)⟩)
 have c79a := hid (fun (m1 : MS) (ve1 : EvS) (w1 : World) (hX1 : CtX p cf u n shp d m1 ve1 F fb g cap ms w1) (hs : SlE (onlyW w1 (oldB p.B)) false none k0.2 (.slice ya0 k0.2.len yc0)) (hnl1 : (evl cf k).E d (bareF fb) k0.1 k0.2 m1 ≠ .lost) => HE.out d m1 ve1 F fb g cap ms t0 k0.1 k0.2 _ ty0 w1 hx0 hw0.1 hw0.2 hs hX1 hnl1)
 have hek0 := hid (fun (m1 : MS) => evK_at (ev := evl cf k) (d := d) (fr := bareF fb) (m := m1) hk0.out)
 have K1 := hid (show ∀ w9, Kpt (fun b => p.TE ve b ∨ FS F g ms fb b) (w.alloc (.cells #[.int .i64 t, .int .u8 a1, .string a2, .int .u8 a3, .string a4, .slice (some ⟨b1, o1, none⟩) len xc, .slice ba bl bc, .slice ea el ec] 109)).heap.size (w.alloc (.cells #[.int .i64 t, .int .u8 a1, .string a2, .int .u8 a3, .string a4, .slice (some ⟨b1, o1, none⟩) len xc, .slice ba bl bc, .slice ea el ec] 109)) w9 → KidR w9 b1 (o1 + 7) t1 k1 (.slice ya1 k1.2.len yc1) ∧ SlE (onlyW w9 (oldB p.B)) false none k1.2 (.slice ya1 k1.2.len yc1) from fun w9 hk => ⟨by
  have h := ((hr1.sub (cells_old_below hB0)).sub (hX0.oldKS hk)).sub (cells_only _ _)
  simpa only [Nat.zero_mul, Nat.add_zero, Nat.one_mul] using h, (hs1.sub (cells_old_below hB0)).sub (hX0.oldKS hk)⟩)
 have c79b := hid (fun (m1 : MS) (ve1 : EvS) (w1 : World) (hX1 : CtX p cf u n shp d m1 ve1 F fb g cap ms w1) (hs : SlE (onlyW w1 (oldB p.B)) false none k1.2 (.slice ya1 k1.2.len yc1)) (hnl1 : (evl cf k).E d (bareF fb) k1.1 k1.2 m1 ≠ .lost) => HE.out d m1 ve1 F fb g cap ms t1 k1.1 k1.2 _ ty1 w1 hx1 hw1.1 hw1.2 hs hX1 hnl1)
 have hek1 := hid (fun (m1 : MS) => evK_at (ev := evl cf k) (d := d) (fr := bareF fb) (m := m1) hk1.out)
 have HVS := hid hvs
 have HX0 := hid hX0
 have hty : typeV cf a2 = ty := by unfold typeV; rw [hvs]; rfl
 have hh := hid (show putV cf (evl cf k) d (bareF fb) ⟨a0, a1, a2, a3, a4⟩ x m = _ by unfold putV; rw [hek0.out])
 have hnl0 : (evl cf k).E d (bareF fb) k0.1 k0.2 m ≠ .lost := Out.of_bind (by rw [← hh.out]; exact hnl)
 have HNL := hid hnl
 rw [hty, ha] at hh
 obtain ⟨⟨c0, c1, c2, c3, c4, c5⟩, kk⟩ := k0
 obtain ⟨⟨f0, f1, f2, f3, f4, f5⟩, kl⟩ := k1
 simp only [] at c79a c79b K0 K1 hh hnl0 hek1
 clear HE hts hox hxw hv hX hvt hnl hlen hr0 hs0 hx0 hw0 hk0 hr1 hs1 hx1 hw1 hk1 hB0 hX0 hb0 hvs ha hek0 hty
 go_enter Tryz.func181, Tryz.ntmps181
 go_wp2_with fail
 generalize (w.alloc (.cells #[.int .i64 t, .int .u8 a1, .string a2, .int .u8 a3, .string a4, .slice (some ⟨b1, o1, none⟩) len xc, .slice ba bl bc, .slice ea el ec] 109)) = w0 at EB K0 K1 V0 HX0 ⊢
 have E2 := hid (show ∀ w9, (Kpt (fun b => p.TE ve b ∨ FS F g ms fb b) w0.heap.size w0) w9 → w9.cell? ⟨w.heap.size, 2, none⟩ = some (.string a2) from fun w9 hk => by simpa using (EB.out w9 hk).cell 2)
 have E5 := hid (show ∀ w9, (Kpt (fun b => p.TE ve b ∨ FS F g ms fb b) w0.heap.size w0) w9 → w9.cell? ⟨w.heap.size, 5, none⟩ = some (.slice (some ⟨b1, o1, none⟩) len xc) from fun w9 hk => by simpa using (EB.out w9 hk).cell 5)
 refine wp_region_held_drew (S := (Kpt (fun b => p.TE ve b ∨ FS F g ms fb b) w0.heap.size w0)) (by kernel_rfl) (Kpt.of (Below.refl _ _).drew) (fun hHeld => ?_)
 refine tk 0 ?_
 refine tk 1 ?_
 refine tk 2 ?_ (hy := by intro w' hSw; have q := E2.out w' hSw; go_simp; (try with_reducible rfl))
 refine tk 3 ?_
 refine tk 4 ?_
 refine tk 5 ?_
 refine tk 6 ?_ (hy := by intro w' hSw; have q := E5.out w' hSw; go_simp; (try with_reducible rfl))
 refine tk 7 ?_
 refine tk 8 ?_ (hy := by intro w' hSw; obtain ⟨q0, q1, q2, q3, q4, q5, q6⟩ := (K0.out w' hSw).1; go_simp; (try with_reducible rfl))
 refine tr 9 fun K hK => ?_
 go_simp
 go_at_call 79
 have V0d := hid (V0.out.below (Below.refl w0.heap.size w0).drew)
 have W0 := hid (KV.of p ve (Below.refl w0.heap.size w0).drew)
 have cx := hid (c79a.out m ve w0.drew (HX0.out.below (Below.refl _ _).drew) ((K0.out w0.drew (Kpt.of (Below.refl _ _).drew)).2) hnl0)
 clear c79a
 cases ho : (evl cf k).E d (bareF fb) ⟨c0, c1, c2, c3, c4, c5⟩ kk m with
 | lost => exact absurd ho hnl0
 | stop a b9 m1 =>
  rw [ho] at cx hh
  have hh := hid (show _ = Out.stop a b9 m1 from hh.out)
  refine cx.out.mono ?_
  rintro e w1 ⟨rfl, ve1, d1, hM1, hV1⟩
  have F1 : Hid (PostS p cf u n shp d F ve (FS F g ms fb) (fun _ => True) (fun _ : Unit => bareF fb) (fun _ : Unit => .returned (.tuple #[])) (.stop a b9 m1) w (endE a b9) w1) := hid (finS_stop hM1 ((V0d.out.trans hV1).ks (FS F g ms fb)) rfl)
  clear hK hHeld hM1 hV1 cx
  go_wp2_with fail
  refine bp_panic ?_
  rw [HR.out, hh.out]
  exact F1.out
 | ok iv m1 =>
  rw [ho] at cx hh
  refine cx.out.mono ?_
  rintro e w1 ⟨rfl, hU, ve1, hX1, hV1⟩
  have hh := hid (show putV cf (evl cf k) d (bareF fb) ⟨a0, a1, a2, a3, a4⟩ x m = (match (wordsAt cf m1 a2)[iv.toNat]? with | none => Out.stop 2 1 m1 | some old => (evK (evl cf k) d (bareF fb) x 1 m1).bind fun v m2 => if a4.toList.isEmpty = true then .ok () (putW cf m2 a2 iv.toNat v) else match workedV aluV a4 ty old v with | some r => .ok () (putW cf m2 a2 iv.toNat r) | none => .stop 2 2 m2) from hh.out)
  rw [hek1.out] at hh
  obtain ⟨i, gx, hi, hi2, hgp, hpl, hob, hrb, hwd⟩ := hX1.elem HVS.out
  have hps := hX1.c.pos _ (List.getElem_mem hi2)
  have c78 := hid (element78 p cf u cf.allowed n d m1 ve1 a2 i iv w1 hX1.c.st hX1.c.me hgp hi hi2 hps.1 hps.2 hU)
  rw [hrb] at c78
  rw [hwd] at hh
  have X1 := hid hX1
  have V1 := hid (V0d.out.trans hV1)
  have KW1 := hid (W0.out.trans hV1)
  have hk := ((W0.out.trans hV1).ks (FS F g ms fb)).k
  have UI := hid hU
  have EC := hid (fun (m2 : MS) (ve2 : EvS) (w2 : World) (hX2 : CtX p cf u n shp d m2 ve2 F fb g cap ms w2) (hi3 : i < m2.held.length) (hj : iv.toNat < m2.held[i].length) => hX2.elemCell hi hi3 hob iv.toNat hj)
  have EC2 := hid (show ∀ (m2 : MS) (ve2 : EvS) (w2 : World) (hX2 : CtX p cf u n shp d m2 ve2 F fb g cap ms w2) (hi3 : i < m2.held.length) (hj : iv.toNat < m2.held[i].length), ∃ y, w2.cell? ⟨gx, iv.toNat, none⟩ = some (.int .u32 y) ∧ w2.frozen? ⟨gx, iv.toNat, none⟩ = false from fun m2 ve2 w2 hX2 hi3 hj => ⟨_, hX2.elemCell hi hi3 hob iv.toNat hj⟩)
  have SW := hid (fun (m2 : MS) (ve2 : EvS) (w2 : World) (hX2 : CtX p cf u n shp d m2 ve2 F fb g cap ms w2) (v : Int) (hv : U v) => hX2.setW (s := a2) hi hpl hob iv.toNat hv)
  have HI2 := hid hi2
  have hlw0 : ∃ z, z = m1.held[i]'(HI2.out) := ⟨_, rfl⟩
  obtain ⟨lw, hlw⟩ := hlw0
  simp only [← hlw] at c78 hh
  have HLW := hid hlw
  clear hHeld hX1 hV1 cx ho hnl0 hps hU hgp hpl hob hrb hwd hlw hi2
  go_wp2_with fail
  refine hK.out _ _ hk (fun hHeld => ?_)
  clear hK K
  try simp only [tpa, tpb, tpc, tpd, tpe]
  clear hk
  refine tr 10 fun K hK => ?_
  go_simp
  go_at_call 78
  unfold elOut at c78
  by_cases hc : (lw.length : Int) ≤ iv
  ·rw [if_pos hc] at c78
   have hz := hid (show putV cf (evl cf k) d (bareF fb) ⟨a0, a1, a2, a3, a4⟩ x m = .stop 2 1 m1 by rw [hh.out, List.getElem?_eq_none (by have := UI.out.1; omega)])
   refine c78.out.mono ?_
   rintro e w2 ⟨rfl, hb2⟩
   have F1 : Hid (PostS p cf u n shp d F ve (FS F g ms fb) (fun _ => True) (fun _ : Unit => bareF fb) (fun _ : Unit => .returned (.tuple #[])) (.stop 2 1 m1) w (endE 2 1) w2) := hid (finS_stop (X1.out.c.me.below hb2) ((V1.out.below hb2).ks (FS F g ms fb)) rfl)
   clear c78 hK hHeld hb2
   go_wp2_with fail
   refine bp_panic ?_
   rw [HR.out, hz.out]
   exact F1.out
  ·rw [if_neg hc] at c78
   have hlt : iv.toNat < lw.length := by have := UI.out.1; omega
   have hh := hid (show putV cf (evl cf k) d (bareF fb) ⟨a0, a1, a2, a3, a4⟩ x m = ((evl cf k).E d (bareF fb) ⟨f0, f1, f2, f3, f4, f5⟩ kl m1).bind fun v m2 => if a4.toList.isEmpty = true then .ok () (putW cf m2 a2 iv.toNat v) else match workedV aluV a4 ty lw[iv.toNat] v with | some r => .ok () (putW cf m2 a2 iv.toNat r) | none => .stop 2 2 m2 by rw [hh.out, List.getElem?_eq_getElem hlt])
   have hnl1 : (evl cf k).E d (bareF fb) ⟨f0, f1, f2, f3, f4, f5⟩ kl m1 ≠ .lost := Out.of_bind (by rw [← hh.out]; exact HNL.out)
   have HLT := hid hlt
   have hold0 : ∃ z, z = lw[iv.toNat]'(HLT.out) := ⟨_, rfl⟩
   obtain ⟨old, hold⟩ := hold0
   simp only [← hold] at hh
   have HOLD := hid hold
   clear hold hlt
   refine c78.out.mono ?_
   rintro e w2 ⟨rfl, hb2⟩
   clear c78
   have X2 := hid (X1.out.below hb2)
   have V2 := hid (V1.out.below hb2)
   have KW2 := hid (KW1.out.below hb2)
   have hk := ((KW1.out.below hb2).ks (FS F g ms fb)).k
   have K02 := hid hk
   clear hHeld hb2
   go_wp2_with fail
   refine hK.out _ _ hk (fun hHeld => ?_)
   clear hK K
   try simp only [tpa, tpb, tpc, tpd, tpe]
   clear hk
   refine tk 11 ?_
   refine td ?_
   clear hHeld
   have hbx := EB.out w2 K02.out
   obtain ⟨⟨y0, y1, y2, y3, y4, y5, y6⟩, hs1⟩ := K1.out w2 K02.out
   simp only [] at y1 y2 y3 y4 y5 y6
   have e4 : w2.cell? ⟨w.heap.size, 4, none⟩ = some (.string a4) := by simpa using hbx.cell 4
   have e5 : w2.cell? ⟨w.heap.size, 5, none⟩ = some (.slice (some ⟨b1, o1, none⟩) len xc) := by simpa using hbx.cell 5
   have HBX := hid hbx
   clear hbx
   cases hsg : a4.toList.isEmpty
   case true =>
    have cx := hid (c79b.out m1 ve1 w2 X2.out hs1 hnl1)
    clear c79b hs1
    go_wp2_with fail
    cases ho : (evl cf k).E d (bareF fb) ⟨f0, f1, f2, f3, f4, f5⟩ kl m1 with
    | lost => exact absurd ho hnl1
    | stop a b9 m2 =>
     rw [ho] at cx hh
     have hh := hid (show _ = Out.stop a b9 m2 from hh.out)
     refine cx.out.mono ?_
     rintro e w3 ⟨rfl, ve2, d2, hM2, hV2⟩
     have F1 : Hid (PostS p cf u n shp d F ve (FS F g ms fb) (fun _ => True) (fun _ : Unit => bareF fb) (fun _ : Unit => .returned (.tuple #[])) (.stop a b9 m2) w (endE a b9) w3) := hid (finS_stop hM2 ((V2.out.trans hV2).ks (FS F g ms fb)) rfl)
     clear hM2 hV2 cx
     go_wp2_with fail
     refine bp_panic ?_
     rw [HR.out, hh.out]
     exact F1.out
    | ok rv m2 =>
     rw [ho] at cx hh
     refine cx.out.mono ?_
     rintro e w3 ⟨rfl, hU, ve2, hX2, hV2⟩
     have hh := hid (show putV cf (evl cf k) d (bareF fb) ⟨a0, a1, a2, a3, a4⟩ x m = .ok () (putW cf m2 a2 iv.toNat rv) from hh.out.trans (by simp only [Out.bind]; rw [if_pos hsg]))
     have hi3 : i < m2.held.length := by have := hX2.c.me.len; omega
     obtain ⟨zy, z1, z2⟩ := EC2.out m2 ve2 w3 hX2 hi3 (by rw [held_len X1.out.inv hX2.inv i HI2.out hi3, ← HLW.out]; exact HLT.out)
     obtain ⟨h2, h3⟩ := SW.out m2 ve2 w3 hX2 rv hU
     have F1 : Hid (PostS p cf u n shp d F ve (FS F g ms fb) (fun _ => True) (fun _ : Unit => bareF fb) (fun _ : Unit => .returned (.tuple #[])) (.ok () (putW cf m2 a2 iv.toNat rv)) w (.returned (.tuple #[])) (w3.setCell ⟨gx, iv.toNat, none⟩ (.int .u32 rv))) := hid (finS_ok h2 rfl trivial (((V2.out.trans hV2).trans h3).ks _) rfl)
     clear hX2 hV2 h2 h3 cx
     go_wp2_with fail
     go_end0
     rw [HR.out, hh.out]
     exact F1.out
   case false =>
    obtain ⟨z1, z2⟩ := EC.out m1 ve1 w2 X2.out HI2.out (by rw [← HLW.out]; exact HLT.out)
    have e9 : m1.held[i]'HI2.out = lw := HLW.out.symm
    simp only [e9] at z1
    rw [← HOLD.out] at z1
    clear e9
    go_wp2_with fail
    have G4 := hid (show ∀ w9, Kpt (fun b => p.TE ve1 b ∨ FS F g ms fb b) w2.heap.size w2 w9 → w9.cell? ⟨w.heap.size, 4, none⟩ = some (.string a4) from fun w9 hk => by simpa using (X2.out.boxKS hk HBX.out (by decide) (by decide)).cell 4)
    have G2 := hid (show ∀ w9, Kpt (fun b => p.TE ve1 b ∨ FS F g ms fb b) w2.heap.size w2 w9 → w9.cell? ⟨w.heap.size, 2, none⟩ = some (.string a2) from fun w9 hk => by simpa using (X2.out.boxKS hk HBX.out (by decide) (by decide)).cell 2)
    have G5 := hid (show ∀ w9, Kpt (fun b => p.TE ve1 b ∨ FS F g ms fb b) w2.heap.size w2 w9 → w9.cell? ⟨w.heap.size, 5, none⟩ = some (.slice (some ⟨b1, o1, none⟩) len xc) from fun w9 hk => by simpa using (X2.out.boxKS hk HBX.out (by decide) (by decide)).cell 5)
    have GX := hid (show ∀ w9, Kpt (fun b => p.TE ve1 b ∨ FS F g ms fb b) w2.heap.size w2 w9 → w9.cell? ⟨p.X, 3, none⟩ = some (.map (some p.vb)) from fun w9 hk => by simpa using (X2.out.boxKS hk X2.out.c.st.X (by decide) (by decide)).cell 3)
    have GV := hid (show ∀ w9, Kpt (fun b => p.TE ve1 b ∨ FS F g ms fb b) w2.heap.size w2 w9 → _ from X2.out.varKS HVS.out)
    have KK := hid (show ∀ w9, Kpt (fun b => p.TE ve1 b ∨ FS F g ms fb b) w2.heap.size w2 w9 → KidR w9 b1 (o1 + 7) t1 (⟨f0, f1, f2, f3, f4, f5⟩, kl) (.slice ya1 kl.len yc1) from fun w9 hk => (K1.out w9 ((KS.trans (KW2.out.ks (FS F g ms fb)) (⟨hk, Vc.refl _ _, fun _ h => .inl h⟩ : KS p ve1 ve1 (FS F g ms fb) (FS F g ms fb) w2 w9)).k)).1)
    have hfd : ∀ w9 : World, (Instr.field 155 (.agg #[.int .u8 ty, .int .u32 ln]) 0).run Tryz.prog w9 = .ok (.int .u8 ty) w9 := fun w9 => by kernel_rfl
    have HFD := hid hfd
    clear hfd
    have b0M := cell_on X2.out.c.b0 (Below.refl w2.heap.size w2).drew
    refine wp_region_held_drew (S := (fun w9 => Kpt (fun b => p.TE ve1 b ∨ FS F g ms fb b) w2.heap.size w2 w9 ∧ w9.cell? ⟨p.M, 0, none⟩ = some (.pointer (some ⟨p.X, 0, none⟩)))) (by kernel_rfl) ⟨Kpt.of (Below.refl _ _).drew, b0M⟩ (fun hHeld => ?_)
    refine tk 0 ?_
    refine tk 1 ?_
    refine tk 2 ?_ (hy := by intro w' hSw; have q := G4.out w' hSw.1; go_simp; (try with_reducible rfl))
    refine tk 3 ?_
    refine tk 4 ?_
    refine tk 5 ?_
    refine tk 6 ?_ (hy := by intro w' hSw; have q := hSw.2; go_simp; (try with_reducible rfl))
    refine tk 7 ?_
    refine tk 8 ?_
    refine tk 9 ?_
    refine tk 10 ?_ (hy := by intro w' hSw; have q := GX.out w' hSw.1; go_simp; (try with_reducible rfl))
    refine tk 11 ?_
    refine tk 12 ?_ (hy := by intro w' hSw; have q := G2.out w' hSw.1; go_simp; (try with_reducible rfl))
    refine tk 13 ?_ (hy := by intro w' hSw; have q := GV.out w' hSw.1; go_simp; (try with_reducible rfl))
    refine tk 14 ?_ (hy := by intro w' hSw; have q := HFD.out w'; go_simp; (try with_reducible rfl))
    refine tk 15 ?_
    refine tk 16 ?_
    refine tk 17 ?_
    refine tk 18 ?_
    refine tk 19 ?_ (hy := by intro w' hSw; have q := G5.out w' hSw.1; go_simp; (try with_reducible rfl))
    refine tk 20 ?_
    refine tk 21 ?_ (hy := by intro w' hSw; obtain ⟨q0, q1, q2, q3, q4, q5, q6⟩ := KK.out w' hSw.1; go_simp; (try with_reducible rfl))
    refine tr 22 fun K hK => ?_
    go_simp
    go_at_call 79
    have V2d := hid (V2.out.below (Below.refl w2.heap.size w2).drew)
    have W2 := hid (KV.of p ve1 (Below.refl w2.heap.size w2).drew)
    have cx := hid (c79b.out m1 ve1 w2.drew (X2.out.below (Below.refl _ _).drew) (hs1.sub (cells_old_below (Below.refl _ _).drew)) hnl1)
    clear c79b hs1 z1 z2 e4 e5 y0 y1 y2 y3 y4 y5 y6
    cases ho : (evl cf k).E d (bareF fb) ⟨f0, f1, f2, f3, f4, f5⟩ kl m1 with
    | lost => exact absurd ho hnl1
    | stop a b9 m2 =>
     rw [ho] at cx hh
     have hh := hid (show _ = Out.stop a b9 m2 from hh.out)
     refine cx.out.mono ?_
     rintro e w3 ⟨rfl, ve2, d2, hM2, hV2⟩
     have F1 : Hid (PostS p cf u n shp d F ve (FS F g ms fb) (fun _ => True) (fun _ : Unit => bareF fb) (fun _ : Unit => .returned (.tuple #[])) (.stop a b9 m2) w (endE a b9) w3) := hid (finS_stop hM2 ((V2d.out.trans hV2).ks (FS F g ms fb)) rfl)
     clear hK hHeld
     clear hM2 hV2 cx
     go_wp2_with fail
     refine bp_panic ?_
     rw [HR.out, hh.out]
     exact F1.out
    | ok rv m2 =>
     rw [ho] at cx hh
     refine cx.out.mono ?_
     rintro e w3 ⟨rfl, hU, ve2, hX3, hV3⟩
     have X3 := hid hX3
     have V3 := hid (V2d.out.trans hV3)
     have UU := hid hU
     have KW3 := hid (W2.out.trans hV3)
     have k3 : (fun w9 => Kpt (fun b => p.TE ve1 b ∨ FS F g ms fb b) w2.heap.size w2 w9 ∧ w9.cell? ⟨p.M, 0, none⟩ = some (.pointer (some ⟨p.X, 0, none⟩))) w3 := ⟨((W2.out.trans hV3).ks (FS F g ms fb)).k, hX3.c.b0⟩
     have K3 := hid k3
     have c118 := hid (worked118 a4 ty old rv hU.1 w3)
     have hh := hid (show putV cf (evl cf k) d (bareF fb) ⟨a0, a1, a2, a3, a4⟩ x m = (match workedV aluV a4 ty old rv with | some r => .ok () (putW cf m2 a2 iv.toNat r) | none => .stop 2 2 m2) from hh.out.trans (by simp only [Out.bind]; rw [if_neg (by simp [hsg])]; try rfl))
     clear hHeld hX3 hV3 hU cx ho hnl1
     go_wp2_with fail
     refine hK.out _ _ k3 (fun hHeld => ?_)
     clear hK K
     try simp only [tpa, tpb, tpc, tpd, tpe]
     clear k3
     refine tr 23 fun K hK => ?_
     go_simp
     go_at_call 118
     refine c118.out.mono ?_
     intro e w4 hp
     obtain ⟨he, hb4⟩ := hp
     clear c118 hHeld
     cases hwk : workedV aluV a4 ty old rv with
     | none =>
      rw [hwk] at he hh
      have he : e = endE 2 2 := he
      subst he
      have F1 : Hid (PostS p cf u n shp d F ve (FS F g ms fb) (fun _ => True) (fun _ : Unit => bareF fb) (fun _ : Unit => .returned (.tuple #[])) (.stop 2 2 m2) w (endE 2 2) w4) := hid (finS_stop (X3.out.c.me.below hb4) ((V3.out.below hb4).ks (FS F g ms fb)) rfl)
      have hh := hid (show _ = Out.stop 2 2 m2 from hh.out)
      clear hK hb4
      go_wp2_with fail
      refine bp_panic ?_
      rw [HR.out, hh.out]
      exact F1.out
     | some r =>
      rw [hwk] at he hh
      have he : e = .returned (.int .u32 r) := he
      subst he
      have hh := hid (show _ = Out.ok () (putW cf m2 a2 iv.toNat r) from hh.out)
      have X4 := X3.out.below hb4
      have hUo : U old := by rw [HOLD.out]; simp only [HLW.out]; exact X1.out.rg _ (List.getElem_mem HI2.out) _ (List.getElem_mem _)
      have hUr : U r := workedV_rg aluV_rg hUo UU.out hwk
      have hi3 : i < m2.held.length := by have := X4.c.me.len; omega
      obtain ⟨zy, z1, z2⟩ := EC2.out m2 ve2 w4 X4 hi3 (by rw [held_len X1.out.inv X4.inv i HI2.out hi3, ← HLW.out]; exact HLT.out)
      obtain ⟨h2, h3⟩ := SW.out m2 ve2 w4 X4 r hUr
      have F1 : Hid (PostS p cf u n shp d F ve (FS F g ms fb) (fun _ => True) (fun _ : Unit => bareF fb) (fun _ : Unit => .returned (.tuple #[])) (.ok () (putW cf m2 a2 iv.toNat r)) w (.returned (.tuple #[])) (w4.setCell ⟨gx, iv.toNat, none⟩ (.int .u32 r))) := hid (finS_ok h2 rfl trivial (((V3.out.below hb4).trans h3).ks _) rfl)
      have k4 : (fun w9 => Kpt (fun b => p.TE ve1 b ∨ FS F g ms fb b) w2.heap.size w2 w9 ∧ w9.cell? ⟨p.M, 0, none⟩ = some (.pointer (some ⟨p.X, 0, none⟩))) w4 := ⟨((KW3.out.below hb4).ks (FS F g ms fb)).k, X4.c.b0⟩
      have k5 := hid (show (fun w9 => Kpt (fun b => p.TE ve1 b ∨ FS F g ms fb b) w2.heap.size w2 w9 ∧ w9.cell? ⟨p.M, 0, none⟩ = some (.pointer (some ⟨p.X, 0, none⟩))) (w4.setCell ⟨gx, iv.toNat, none⟩ (.int .u32 r)) from ⟨(((KW3.out.below hb4).trans h3).ks (FS F g ms fb)).k, h2.c.b0⟩)
      clear hb4 h2 h3 X4 hUr hUo hwk
      go_wp2_with fail
      refine hK.out _ _ k4 (fun hHeld => ?_)
      clear hK K
      try simp only [tpa, tpb, tpc, tpd, tpe]
      refine tk 24 ?_
      refine tr 25 fun K hK => ?_
      go_simp
      refine hK.out _ _ k5.out (fun hHeld => ?_)
      clear hK K
      try simp only [tpa, tpb, tpc, tpd, tpe]
      refine td ?_
      go_wp2_with fail
      go_end0
      rw [HR.out, hh.out]
      exact F1.out
end
section
open Go.Shelf
structure StmK (w : World) (b q : Nat) (t : Int) (h : SH) (vx vb ve : Value) : Prop where
 c0 : w.cell? ⟨b, q, none⟩ = some (.int .i64 t)
 c1 : w.cell? ⟨b, q + 1, none⟩ = some (.int .u8 h.kind)
 c2 : w.cell? ⟨b, q + 2, none⟩ = some (.string h.name)
 c3 : w.cell? ⟨b, q + 3, none⟩ = some (.int .u8 h.type)
 c4 : w.cell? ⟨b, q + 4, none⟩ = some (.string h.sign)
 c5 : w.cell? ⟨b, q + 5, none⟩ = some vx
 c6 : w.cell? ⟨b, q + 6, none⟩ = some vb
 c7 : w.cell? ⟨b, q + 7, none⟩ = some ve
theorem StmK.sub {w w' : World} {b q : Nat} {t : Int} {h : SH} {vx vb ve : Value} (k : StmK w b q t h vx vb ve) (hc : Cells w w') : StmK w' b q t h vx vb ve := ⟨hc _ _ k.c0, hc _ _ k.c1, hc _ _ k.c2, hc _ _ k.c3, hc _ _ k.c4, hc _ _ k.c5, hc _ _ k.c6, hc _ _ k.c7⟩
theorem SlS.kid {w : World} {l : Sts} {v : Value} (hl : SlS w false none l v) (i : Nat) (h : SH) (x : Exs) (b e : Sts) (ha : l.toL[i]? = some (h, x, b, e)) :
  ∃ bk off cap t xa xc ba bc ea ec, v = .slice (some ⟨bk, off, none⟩) l.len cap ∧ StmK w bk (off + i * 8) t h (.slice xa x.len xc) (.slice ba b.len bc) (.slice ea e.len ec) ∧ SlE w false none x (.slice xa x.len xc) ∧ SlS w false none b (.slice ba b.len bc) ∧ SlS w false none e (.slice ea e.len ec) := by
 obtain ⟨ka, kb, koff, kcap, rfl, y2, y3⟩ := SlS_iff.1 hl
 obtain ⟨hi, e1⟩ := List.getElem?_eq_some_iff.1 ha
 have y4 := y3 i hi
 rw [e1] at y4
 obtain ⟨⟨⟨t, z0, _⟩, z1, z2, z3, z4⟩, ⟨vx, z5, hx⟩, ⟨vb, z6, hb⟩, ⟨ve, z7, he⟩⟩ := y4
 have hk : ka = some ⟨kb, koff, none⟩ := by
  rcases y2 with ⟨q, _⟩ | ⟨q, _⟩
  ·omega
  ·exact q
 subst hk
 obtain ⟨xa, xc, rfl⟩ := hx.shape'
 obtain ⟨ba, bc, rfl⟩ := hb.shape'
 obtain ⟨ea, ec, rfl⟩ := he.shape'
 exact ⟨kb, koff, kcap, t, xa, xc, ba, bc, ea, ec, by rw [Sts.toL_len], ⟨z0, z1, z2, z3, z4, z5, z6, z7⟩, hx, hb, he⟩
def WLi (p : Pt) (cf : Cf) (u : UT) (n : Nat) (shp : List Nat) (k : Nat) : Prop :=
 ∀ (d : Nat) (m : MS) (ve : EvS) (F : Nat) (fb : List BSc) (g cap : Nat) (ms : List Nat) (l : Sts) (v : Value) (ret : Int) (lp : Nat) (c' : Scope) (w : World), okS l = true → l.Wf → chS cf.vs cf.cs ret l (tysF fb) [] lp = .ok c' → SlS (onlyW w (oldB p.B)) false none l v → fb.length + l.sz ≤ 99999990 →
  CtX p cf u n shp d m ve F fb g cap ms w → (evl cf k).L d (bareF fb) l m ≠ .lost →
  Calls Tryz.prog 123 #[.pointer (some ⟨p.M, 0, none⟩), .pointer (some ⟨F, 0, none⟩), v] w (PostS p cf u n shp d F ve (FS F g ms fb) (fun q => U q.2.1) (fun q => q.2.2) (fun q => .returned (.tuple #[.int .i64 q.1, .int .u32 q.2.1])) ((evl cf k).L d (bareF fb) l m) w)
def WWh (p : Pt) (cf : Cf) (u : UT) (n : Nat) (shp : List Nat) (k : Nat) : Prop :=
 ∀ (d : Nat) (m : MS) (ve : EvS) (F : Nat) (fb : List BSc) (g cap : Nat) (ms : List Nat) (t : Int) (h : SH) (x : Exs) (b : Sts) (vx vb vz : Value) (a : EH × Exs) (ty ret : Int) (lp : Nat) (c' : Scope) (w : World), x.toL[0]? = some a → XT cf (tysF fb) a.1 a.2 ty → a.1.Wf → a.2.Wf → okS b = true → b.Wf → chS cf.vs cf.cs ret b (tysF fb) [] lp = .ok c' →
  SlE (onlyW w (oldB p.B)) false none x vx → SlS (onlyW w (oldB p.B)) false none b vb → (∃ l, SlS (onlyW w (oldB p.B)) false none l vz) → fb.length + b.sz ≤ 99999990 →
  CtX p cf u n shp d m ve F fb g cap ms w → (evl cf k).W d (bareF fb) a.1 a.2 b m ≠ .lost →
  Calls Tryz.prog 182 #[.pointer (some ⟨p.M, 0, none⟩), .pointer (some ⟨F, 0, none⟩), aggS t h vx vb vz] w (PostS p cf u n shp d F ve (FS F g ms fb) (fun q => U q.2.1) (fun q => q.2.2) (fun q => .returned (.tuple #[.int .i64 q.1, .int .u32 q.2.1])) ((evl cf k).W d (bareF fb) a.1 a.2 b m) w)
def WSt (p : Pt) (cf : Cf) (u : UT) (n : Nat) (shp : List Nat) (k : Nat) : Prop :=
 ∀ (d : Nat) (m : MS) (ve : EvS) (F : Nat) (fb : List BSc) (g cap : Nat) (ms : List Nat) (t : Int) (h : SH) (x : Exs) (b e : Sts) (vx vb vz : Value) (ss : List Scope) (c c1 : Scope) (ret : Int) (lp : Nat) (w : World), tysF fb = ss ++ [c] → okSH h x.len x.fk b.len e.len = true → okE x = true → okS b = true → okS e = true → x.Wf → b.Wf → e.Wf →
  stF cf.vs cf.cs ret h x (unitE (chS cf.vs cf.cs ret b (ss ++ [c]) [] lp)) (unitE (chS cf.vs cf.cs ret e (ss ++ [c]) [] lp)) (unitE (chS cf.vs cf.cs ret b (ss ++ [c]) [] (lp + 1))) ss c lp = .ok c1 →
  SlE (onlyW w (oldB p.B)) false none x vx → SlS (onlyW w (oldB p.B)) false none b vb → SlS (onlyW w (oldB p.B)) false none e vz → fb.length + (b.sz + e.sz) ≤ 99999990 → CtX p cf u n shp d m ve F fb g cap ms w → stmtV cf (evl cf k) d (bareF fb) h x b e m ≠ .lost →
  Calls Tryz.prog 149 #[.pointer (some ⟨p.M, 0, none⟩), .pointer (some ⟨F, 0, none⟩), aggS t h vx vb vz] w (PostS p cf u n shp d F ve (FS F g ms fb) (fun q => U q.2.1) (fun q => q.2.2) (fun q => .returned (.tuple #[.int .i64 q.1, .int .u32 q.2.1])) (stmtV cf (evl cf k) d (bareF fb) h x b e m) w)
theorem tys_last {fb : List BSc} {ss : List Scope} {c : Scope} (h : tysF fb = ss ++ [c]) : ∃ fb0 cb, fb = fb0 ++ [cb] ∧ tysF fb0 = ss ∧ (cb.map fun x => (x.1, x.2.1.1)) = c := by
 rcases List.eq_nil_or_concat fb with rfl | ⟨fb0, cb, rfl⟩
 ·simp [tysF] at h
 ·simp only [List.concat_eq_append, tysF, List.map_append, List.map_cons, List.map_nil] at h ⊢
  obtain ⟨h1, h2⟩ := List.append_inj' h rfl
  exact ⟨fb0, cb, rfl, h1, by simpa using h2⟩
theorem list_drop {α : Type} {l r : List α} {a : α} {j : Nat} (h : a :: r = l.drop j) : l[j]? = some a ∧ r = l.drop (j + 1) := by
 have h1 : (l.drop j)[0]? = some a := by rw [← h]; rfl
 have h2 : (l.drop j).drop 1 = r := by rw [← h]; rfl
 rw [List.getElem?_drop] at h1
 rw [List.drop_drop] at h2
 exact ⟨by simpa using h1, h2.symm⟩
theorem tysF_len (fb : List BSc) : (tysF fb).length = fb.length := by simp [tysF]
theorem bareF_app (fb : List BSc) (c : BSc) : bareF (fb ++ [c]) = bareF fb ++ [bareSc c] := by simp [bareF]
theorem list123 (p : Pt) (cf : Cf) (u : UT) (n : Nat) (shp : List Nat) (k : Nat) (HS : Hid (WSt p cf u n shp k)) : WLi p cf u n shp (k + 1) := by
 intro d m ve F fb g cap ms l v ret lp c' w ho hwf hch hv hsz hX hnl
 obtain ⟨ka, kc, rfl⟩ := hv.shape'
 obtain ⟨R, hR⟩ : ∃ z, z = PostS p cf u n shp d F ve (FS F g ms fb) (fun q => U q.2.1) (fun q => q.2.2) (fun q => Ending.returned (.tuple #[.int .i64 q.1, .int .u32 q.2.1])) ((evl cf (k + 1)).L d (bareF fb) l m) w := ⟨_, rfl⟩
 rw [← hR]
 have HR := hid hR
 have hh := hid (show (evl cf (k + 1)).L d (bareF fb) l m = (stmtsV cf (evl cf k) d l (bareF fb ++ [[]]) m).bind fun q m => .ok (q.1, q.2.1, q.2.2.dropLast) m from rfl)
 have hnl0 := hid (show stmtsV cf (evl cf k) d l (bareF fb ++ [[]]) m ≠ .lost from Out.of_bind (by rw [← hh.out]; exact hnl))
 obtain ⟨w1, hw1⟩ : ∃ x : World, x = w.alloc (.map #[] 0) := ⟨_, rfl⟩
 have hmm : (Instr.makeMap 210 none).run Tryz.prog w = .ok (.map (some w.heap.size)) w1 := by rw [hw1]; exact run_makeMap 210 w
 have p2 := hX.c.fr.box.cell 0
 simp at p2
 have hb1 : Below w.heap.size w w1 := by rw [hw1]; exact (Below.refl _ w).alloc (Nat.le_refl _) _
 have hr1 := hid (ownsRow_at hX.c.fr.row hb1)
 have hX1 := hid (hX.below hb1)
 have hn1 : n ≤ w1.heap.size := Nat.le_trans hX.c.me.size hb1.size
 have X0 := hid hX
 have HW1 := hid hw1
 obtain ⟨len, hlen⟩ : ∃ z, z = l.len := ⟨_, rfl⟩
 rw [← hlen] at hv ⊢
 have HLEN := hid hlen
 have hll := l.len_le
 have hfl : fb.length ≤ 99999990 := by omega
 have hkl : len ≤ 99999990 := by omega
 obtain ⟨fl, hfle⟩ : ∃ z, z = fb.length := ⟨_, rfl⟩
 have HFL := hid hfle
 rw [← hfle] at p2 hr1 hfl hsz
 have HSZ := hid hsz
 have KT : Hid (∀ wr, Kpt (fun b => p.TE ve b ∨ FS F g ms fb b) w.heap.size w wr → SlS (onlyW wr (oldB p.B)) false none l (.slice ka len kc)) := hid fun wr hk => hv.sub (hX.oldKS hk)
 have OK := hid (And.intro ho (And.intro hwf hch))
 have HLL := hid hll
 clear hR hw1 hX hb1 hv ho hwf hch hnl hlen hll hfle hsz
 go_enter Tryz.func123, Tryz.ntmps123
 go_wp2_with (at_builtin; go_must (refine wpList_append_str rfl _ _ 211 rfl n 210 210 (.map none) 1 8 1 Tryz.underlying211 (by kernel_rfl) rfl (by decide) _ fl _ [_] (0, 0) hr1.out rfl (by simp [Value.oneCell']) (by unfold maxLen; omega) (by omega) hn1 rfl rfl ?_); intro v' w' hA; obtain ⟨g', cap', rfl⟩ := ownsRow_succ' hA.own; have hx2 := hX1.out.c.fr.box.on hA.grown (hX1.out.c.fr.box.not_row hr1.out (by decide)); have q2 := hx2.cell 0; simp at q2; have f2 := hx2.free 0; have hA' := hid hA; clear hA hx2)
 have hA2 := hA'.out
 rw [HFL.out] at hA2
 obtain ⟨g2, cap2, hv2, hX2, hK2⟩ := X0.out.push HW1.out hA2 (by have := HFL.out; omega)
 cases hv2
 rw [← HFL.out] at hX2 hK2
 have HX2 := hid hX2
 have HK2 := hid hK2
 have LF := hid (show ∀ (fb1 : List BSc) (cty : Scope), tysF fb1 = tysF fb ++ [cty] → fb1.length = fl + 1 from fun fb1 cty h => by
  have := congrArg List.length h
  rw [tysF_len, List.length_append, tysF_len] at this
  have h2 := HFL.out
  simp at this
  omega)
 clear hX2 hK2 hA2 hA' hr1 hX1 HW1 hmm p2 hn1
 go_loopw [30] (fun i wr => ∃ (j : Nat) (r : Sts) (cty : Scope) (fb1 : List BSc) (g1 cap1 : Nat) (ms1 : List Nat) (m1 : MS) (ve1 : EvS), j + r.len = len ∧ i = .int .i64 j ∧ r.toL = l.toL.drop j ∧ r.sz ≤ l.sz ∧ okS r = true ∧ r.Wf ∧ chS cf.vs cf.cs ret r (tysF fb) cty lp = .ok c' ∧ tysF fb1 = tysF fb ++ [cty] ∧ stmtsV cf (evl cf k) d l (bareF fb ++ [[]]) m = stmtsV cf (evl cf k) d r (bareF fb1) m1 ∧ CtX p cf u n shp d m1 ve1 F fb1 g1 cap1 ms1 wr ∧ KS p ve ve1 (FS F g ms fb) (FS F g1 ms1 fb1) w wr) (fun i _ => len - (intOf i).toNat)
 case atStart => exact ⟨0, l, [], fb ++ [[]], _, _, _, m, ve, by have := HLEN.out; omega, rfl, rfl, Nat.le_refl _, OK.out.1, OK.out.2.1, OK.out.2.2, by simp [tysF], by rw [bareF_app]; rfl, HX2.out, HK2.out⟩
 case round =>
  clear HX2 HK2
  obtain ⟨j, r, cty, fb1, g1, cap1, ms1, m1, ve1, hj, rfl, hr, hz, hro, hrw, hch, hty, hst, hX1, hK1⟩ := hrel
  have hfl1 := LF.out fb1 cty hty
  obtain ⟨fbx, cb, rfl, hty1, hty2⟩ := tys_last hty
  have hfx : fbx.length = fl := by simpa using hfl1
  have HX1 := hid hX1
  have HK1 := hid hK1
  have p2 := hX1.c.fr.box.cell 0
  simp at p2
  have f2 := hX1.c.fr.box.free 0
  rw [hfx] at p2
  have HFX := hid hfx
  have hcp : fl + 1 ≤ cap1 ∧ cap1 ≤ 9223372036854775807 := by
   rcases hX1.c.fr.row.2 with ⟨q, _⟩ | ⟨g3, cap3, cur3, hv3, _, _, q1, q2, _⟩
   ·cases q
   ·cases hv3
    simp at q1
    unfold maxLen at q2
    exact ⟨by omega, by omega⟩
  have POP := hid (show ∀ (fby : List BSc) (cy : BSc) (g9 cap9 : Nat) (ms9 : List Nat) (m9 : MS) (ve9 : EvS) (w9 : World) (q : Int × Int × Fr), fby.length = fl → CtX p cf u n shp d m9 ve9 F (fby ++ [cy]) g9 cap9 ms9 w9 → KS p ve ve9 (FS F g ms fb) (FS F g9 ms9 (fby ++ [cy])) w w9 → U q.2.1 → bareF (fby ++ [cy]) = q.2.2 → stmtsV cf (evl cf k) d l (bareF fb ++ [[]]) m = .ok q m9 →
    R (.returned (.tuple #[.int .i64 q.1, .int .u32 q.2.1])) (w9.setCell ⟨F, 0, none⟩ (.slice (some ⟨g9, 0, none⟩) fl cap9)) from fun fby cy g9 cap9 ms9 m9 ve9 w9 q h1 h2 h3 h4 h5 h6 => by
   obtain ⟨k1, k2⟩ := h2.pop
   rw [h1] at k1 k2
   rw [HR.out, hh.out, h6]
   refine finS_ok (x := (q.1, q.2.1, q.2.2.dropLast)) k1 ?_ h4 (h3.trans k2) rfl
   rw [← h5]
   simp [bareF])
  clear hX1 hK1 hfl1 hfx
  cases r with
  | nil =>
   simp only [Sts.len, Nat.add_zero] at hj
   have HST := hid (show stmtsV cf (evl cf k) d l (bareF fb ++ [[]]) m = .ok (0, 0, bareF (fbx ++ [cb])) m1 from hst)
   clear hr hz hro hrw hch hty hst
   obtain rfl : len = j := hj.symm
   obtain ⟨hcp1, hcp2⟩ := hcp
   have hcp3 : fl ≤ cap1 := by omega
   have hwr : IntKind.i64.wrap (fl : Int) = (fl : Int) := IntWalk.i64_in _ (by omega)
   go_wp2_with fail
   exact POP.out fbx cb g1 cap1 ms1 m1 ve1 wr (0, 0, bareF (fbx ++ [cb])) HFX.out HX1.out HK1.out U0 rfl HST.out
  | cons h x b e rest =>
   simp only [Sts.len] at hj
   simp only [Sts.sz] at hz
   simp only [okS, Bool.and_eq_true] at hro
   obtain ⟨c1, hs1, hs2⟩ := chS_cons hch
   obtain ⟨hget, hrd⟩ := list_drop (show (h, x, b, e) :: rest.toL = l.toL.drop j from hr)
   obtain ⟨bk, off, cp9, t, xa, xc, ba, bc, ea, ec, hk1, hk2, hk3, hk4, hk5⟩ := (KT.out wr HK1.out.k).kid j h x b e hget
   obtain ⟨rfl, hlk, rfl⟩ : ka = some ⟨bk, off, none⟩ ∧ len = l.len ∧ kc = cp9 := by simpa using hk1
   have hnlS : stmtV cf (evl cf k) d (bareF (fbx ++ [cb])) h x b e m1 ≠ .lost := by
    have := hnl0.out
    rw [hst] at this
    exact Out.of_bind this
   have hkid := hk2.sub (cells_only _ _)
   obtain ⟨a0, a1, a2, a3, a4⟩ := h
   obtain ⟨y0, y1, y2, y3, y4, y5, y6, y7⟩ := hkid
   simp only [] at y1 y2 y3 y4
   have BW := hid ((Below.refl wr.heap.size wr).alloc (Nat.le_refl _) (.cells #[.int .i64 t, .int .u8 a1, .string a2, .int .u8 a3, .string a4, .slice xa x.len xc, .slice ba b.len bc, .slice ea e.len ec] 109))
   have cx := hid (HS.out d m1 ve1 F (fbx ++ [cb]) g1 cap1 ms1 t ⟨a0, a1, a2, a3, a4⟩ x b e (.slice xa x.len xc) (.slice ba b.len bc) (.slice ea e.len ec) (tysF fb) cty c1 ret lp _ hty hro.1 hro.2.2.2.1 hro.2.1 hro.2.2.1 hrw.2.1 hrw.2.2.1 hrw.2.2.2.1 hs1 (hk3.sub (cells_old_below BW.out)) (hk4.sub (cells_old_below BW.out)) (hk5.sub (cells_old_below BW.out)) (by have h1 := HSZ.out; have h2 := HFX.out; simp; omega) (HX1.out.below BW.out) hnlS)
   have HTY := hid hty
   have HS1 := hid hs1
   have NX := hid (And.intro hrd (And.intro hro.2.2.2.2 (And.intro hrw.2.2.2.2 hs2)))
   have hjl : j < len := by omega
   have HJ := hid hj
   have HZ := hid hz
   have HST := hid hst
   have KB := hid (HK1.out.below BW.out)
   clear hr hz hro hrw hch hty hst hk1 hk2 hk3 hk4 hk5 hs1 hs2 hget hrd hj hlk hcp p2 f2
   go_wp2_with fail
   refine cx.out.mono ?_
   intro e9 w2 hp
   clear cx
   cases ho : stmtV cf (evl cf k) d (bareF (fbx ++ [cb])) ⟨a0, a1, a2, a3, a4⟩ x b e m1 with
   | lost => exact absurd ho hnlS
   | stop a b9 m2 =>
    rw [ho] at hp
    obtain ⟨rfl, ve2, d2, hM2, hK2⟩ := hp
    have hz9 := hid (show (evl cf (k + 1)).L d (bareF fb) l m = .stop a b9 m2 by rw [hh.out, HST.out]; simp only [stmtsV, ho, Out.bind])
    have F1 : Hid (PostS p cf u n shp d F ve (FS F g ms fb) (fun q : Int × Int × Fr => U q.2.1) (fun q => q.2.2) (fun q => Ending.returned (.tuple #[.int .i64 q.1, .int .u32 q.2.1])) (.stop a b9 m2) w (endE a b9) w2) := hid (finS_stop hM2 (KB.out.trans hK2) rfl)
    clear hM2 hK2 ho hnlS
    go_wp2_with fail
    refine bp_panic ?_
    rw [HR.out, hz9.out]
    exact F1.out
   | ok q m2 =>
    rw [ho] at hp
    obtain ⟨rfl, hU, ve2, fb2, g2, cap2, ms2, hb2, hX2, hK2⟩ := hp
    have hb2 : bareF fb2 = q.2.2 := hb2
    have hty2b : tysF fb2 = tysF fb ++ [c1] := by
     have h1 := Out.ty_ok (stmtV_ty (evl_ty cf k) d (bareF (fbx ++ [cb])) ⟨a0, a1, a2, a3, a4⟩ x b e m1) ho
     rw [tyFr_bare, HTY.out, stT_ok HS1.out, ← hb2, tyFr_bare] at h1
     exact h1
    obtain ⟨how, v2, fr2⟩ := q
    simp only [] at hU hb2 ⊢
    have K2 := hid (KB.out.trans hK2)
    have X2 := hid hX2
    have HB2 := hid hb2
    have HU := hid hU
    have TY2 := hid hty2b
    by_cases hq : how = 0
    ·have HST2 := hid (show stmtsV cf (evl cf k) d l (bareF fb ++ [[]]) m = stmtsV cf (evl cf k) d rest (bareF fb2) m2 by
      rw [HST.out]
      simp only [stmtsV, ho, Out.bind]
      rw [if_pos hq, hb2])
     subst hq
     clear hX2 hK2 ho hnlS hb2 hU hty2b
     go_wp2_with fail
     exact ⟨⟨j + 1, rest, c1, fb2, g2, cap2, ms2, m2, ve2, by have := HJ.out; omega, by go_num, NX.out.1, by have := HZ.out; omega, NX.out.2.1, NX.out.2.2.1, NX.out.2.2.2, TY2.out, HST2.out, X2.out, K2.out⟩, by simp only [intOf]; omega⟩
    ·obtain ⟨fby, cy, rfl, hty3, hty4⟩ := tys_last hty2b
     have hfl2 : fby.length = fl := by have := LF.out _ _ hty2b; simpa using this
     have HST2 := hid (show stmtsV cf (evl cf k) d l (bareF fb ++ [[]]) m = .ok (how, v2, fr2) m2 by
      rw [HST.out]
      simp only [stmtsV, ho, Out.bind]
      rw [if_neg hq])
     have p2 := hX2.c.fr.box.cell 0
     simp at p2
     rw [hfl2] at p2
     have f2 := hX2.c.fr.box.free 0
     have hcp : fl + 1 ≤ cap2 ∧ cap2 ≤ 9223372036854775807 := by
      rcases hX2.c.fr.row.2 with ⟨q, _⟩ | ⟨g3, cap3, cur3, hv3, _, _, q1, q2, _⟩
      ·cases q
      ·cases hv3
       simp at q1
       unfold maxLen at q2
       exact ⟨by omega, by omega⟩
     obtain ⟨hcp1, hcp2⟩ := hcp
     have hcp3 : fl ≤ cap2 := by omega
     have hwr : IntKind.i64.wrap (fl : Int) = (fl : Int) := IntWalk.i64_in _ (by omega)
     have HFL2 := hid hfl2
     have hne : (how != 0) = true := by simpa using hq
     clear hX2 hK2 ho hnlS hb2 hU hty2b hty3 hty4 hfl2
     go_wp2_with fail
     exact POP.out fby cy g2 cap2 ms2 m2 ve2 w2 (how, v2, fr2) HFL2.out X2.out K2.out HU.out HB2.out HST2.out
end
end Go.Proofs.YtlabadkfkbenoaaGreatDoor
