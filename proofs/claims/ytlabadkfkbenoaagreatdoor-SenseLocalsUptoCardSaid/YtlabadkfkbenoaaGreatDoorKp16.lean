/- Walks and plain laws, merged: IntU IntV IntW. No condition. -/
import Derived.Test.YtlabadkfkbenoaaGreatDoorKp01
import Derived.Test.YtlabadkfkbenoaaGreatDoorKp15
namespace Go.Proofs.YtlabadkfkbenoaaGreatDoor
open Go.RowKit
set_option linter.unusedVariables false
set_option linter.unusedSimpArgs false
set_option maxRecDepth 100000
set_option maxHeartbeats 64000000
section
open Go.Shelf
theorem Q9 (p:Pt) (cf:Cf) (u:UT) (n:Nat) (aN:List Nat) (k d:Nat) (m:MS) (ve:EvS) (F:Nat) (fb:List dQ) (g cap:Nat) (ms:List Nat) (t a0 a1 a3:Int) (a2 a4:ByteArray) (x:az) (xa ba ea:Option Addr) (xc bl bc el ec:Nat) (ty:Int) (ts:List Int) (w:World) (ha:cf.jd=gm) (HE:Hid (CY p cf u n aN k)) (zx:jn cf.vs cf.cs (dm fb) x=.ok ts) (CT:jS x=true) (Ky:x.Wf) (hv:dI (aA w (bJ p.B)) false none x (.slice xa x.len xc)) (hX:dW p cf u n aN d m ve F fb g cap ms w) (hx1:1≤x.len) (O0:gi cf.vs (dm fb) a2=.ok ty) (ey:ij cf (aI cf k) d (ai fb) ⟨a0,a1,a2,a3,a4⟩ x m≠.lost):
  Calls Tryz.prog 180 #[.pointer (some ⟨p.M,0,none⟩),.pointer (some ⟨F,0,none⟩),.agg #[.int .i64 t,.int .u8 a1,.string a2,.int .u8 a3,.string a4,.slice xa x.len xc,.slice ba bl bc,.slice ea el ec]] w (bY p cf u n aN d F ve (FS F g ms fb) (fun _=>True) (fun fr=>fr) (fun _=>.returned (.tuple #[])) (ij cf (aI cf k) d (ai fb) ⟨a0,a1,a2,a3,a4⟩ x m) w):=by
 obtain⟨R,hR⟩:∃z,z=(bY p cf u n aN d F ve (FS F g ms fb) (fun _=>True) (fun fr=>fr) (fun _=>.returned (.tuple #[])) (ij cf (aI cf k) d (ai fb) ⟨a0,a1,a2,a3,a4⟩ x m) w):=⟨_,rfl⟩;rw[←hR];have HR:=af hR;clear hR;obtain⟨len,hlen⟩:∃z,z=x.len:=⟨_,rfl⟩;rw[←hlen] at hv hx1⊢;have hl0:0<len:=by omega
 obtain⟨b0,o0,t0,O4,O5,k0,gJ,mR,oV,hs0⟩:=hv.sI (w':=w) 0 (by omega);obtain⟨jw,hx0,-⟩:=dL CT zx 0 k0 gJ;have hw0:=az.fW Ky 0 k0 gJ;have gJ:=af gJ;subst mR;have cF:=(Below.refl w.heap.size w).alloc (Nat.le_refl _) (.cells #[.int .i64 t,.int .u8 a1,.string a2,.int .u8 a3,.string a4,.slice (some ⟨b0,o0,none⟩) len xc,.slice ba bl bc,.slice ea el ec] 109);have cG:=hX.below cF;have hb0:=Bx.new w #[.int .i64 t,.int .u8 a1,.string a2,.int .u8 a3,.string a4,.slice (some ⟨b0,o0,none⟩) len xc,.slice ba bl bc,.slice ea el ec] 109;have V0:=af (KV.of p ve cF);have EB:=af (show∀w9,aU (fun b=>p.TE ve b∨FS F g ms fb b) (w.alloc (.cells #[.int .i64 t,.int .u8 a1,.string a2,.int .u8 a3,.string a4,.slice (some ⟨b0,o0,none⟩) len xc,.slice ba bl bc,.slice ea el ec] 109)).heap.size (w.alloc (.cells #[.int .i64 t,.int .u8 a1,.string a2,.int .u8 a3,.string a4,.slice (some ⟨b0,o0,none⟩) len xc,.slice ba bl bc,.slice ea el ec] 109)) w9→Bx w9 w.heap.size #[.int .i64 t,.int .u8 a1,.string a2,.int .u8 a3,.string a4,.slice (some ⟨b0,o0,none⟩) len xc,.slice ba bl bc,.slice ea el ec] 109 from fun w9 hk=>cG.jO hk hb0 (by decide) (by decide));have K0:=af (show∀w9,aU (fun b=>p.TE ve b∨FS F g ms fb b) (w.alloc (.cells #[.int .i64 t,.int .u8 a1,.string a2,.int .u8 a3,.string a4,.slice (some ⟨b0,o0,none⟩) len xc,.slice ba bl bc,.slice ea el ec] 109)).heap.size (w.alloc (.cells #[.int .i64 t,.int .u8 a1,.string a2,.int .u8 a3,.string a4,.slice (some ⟨b0,o0,none⟩) len xc,.slice ba bl bc,.slice ea el ec] 109)) w9→jL w9 b0 (o0) t0 k0 (.slice O4 k0.2.len O5)∧dI (aA w9 (bJ p.B)) false none k0.2 (.slice O4 k0.2.len O5) from fun w9 hk=>⟨by
  have h:=((oV.sub (aw cF)).sub (cG.oq hk)).sub (aZ _ _);simpa only[Nat.zero_mul,Nat.add_zero,Nat.one_mul] using h,(hs0.sub (aw cF)).sub (cG.oq hk)⟩)
 have wC:=af (fun(m1:MS) (aR:EvS) (w1:World) (aB:dW p cf u n aN d m1 aR F fb g cap ms w1) (hs:dI (aA w1 (bJ p.B)) false none k0.2 (.slice O4 k0.2.len O5)) (dh:(aI cf k).E d (ai fb) k0.1 k0.2 m1≠.lost)=>HE.out d m1 aR F fb g cap ms t0 k0.1 k0.2 _ jw w1 hx0 hw0.1 hw0.2 hs aB dh);have Ji:=af (fun(m1:MS)=>gY (ev:=aI cf k) (d:=d) (fr:=ai fb) (m:=m1) gJ.out);obtain⟨b,hpl,Bi,Px⟩:=cG.Wx O0;have Px:=af Px;have PL:=af hpl;have Jh:=af cG;have RV:=af Bi;have hh:=af (show ij cf (aI cf k) d (ai fb) ⟨a0,a1,a2,a3,a4⟩ x m=_ by unfold ij;rw[Ji.out]);have cL:(aI cf k).E d (ai fb) k0.1 k0.2 m≠.lost:=Out.cN (by rw[←hh.out];exact ey);rw[Bi,ha] at hh;obtain⟨⟨c0,c1,c2,c3,c4,c5⟩,kk⟩:=k0;simp only[] at wC K0 hh cL;clear HE zx CT Ky hv hX hx1 O0 ey hlen oV hs0 hx0 hw0 gJ cF cG hb0 hpl Bi ha Ji;go_enter Tryz.func180,Tryz.ntmps180;go_wp2_with fail
 refine Px.mono ?_;rintro e w1 ⟨rfl,hb1⟩;clear Px;have B01:=af hb1;have kp1:=aU.of (T:=fun b=>p.TE ve b∨FS F g ms fb b) hb1;have X1:=af (Jh.below hb1);have V1:=af (V0.below hb1);have dT:=EB.out w1 kp1;obtain⟨⟨y0,y1,y2,y3,y4,y5,y6⟩,hs1⟩:=K0.out w1 kp1;simp only[] at y1 y2 y3 y4 y5 y6;have e4:w1.cell? ⟨w.heap.size,4,none⟩=some (.string a4):=by simpa using dT.cell 4
 have e5:w1.cell? ⟨w.heap.size,5,none⟩=some (.slice (some ⟨b0,o0,none⟩) len xc):=by simpa using dT.cell 5
 have lU:=af dT;clear hb1 kp1 dT Jh V0;cases zq:a4.toList.isEmpty
 case true=>
  have cx:=af (wC.out m ve w1 X1.out hs1 cL);clear wC hs1;go_wp2_with fail
  cases ho:(aI cf k).E d (ai fb) ⟨c0,c1,c2,c3,c4,c5⟩ kk m with
  |lost=>exact absurd ho cL
  |stop a b9 m1=>
   rw[ho] at cx hh;have hh:=af (show _=Out.stop a b9 m1 from hh.out);refine cx.mono ?_;rintro e w2 ⟨rfl,aR,d1,pZ,hV1⟩;have F1:Hid (bY p cf u n aN d F ve (FS F g ms fb) (fun _=>True) (fun fr=>fr) (fun _=>.returned (.tuple #[])) (.stop a b9 m1) w (dy a b9) w2):=af (bQ pZ ((V1.trans hV1).ks _) rfl);clear pZ hV1 cx;go_wp2_with fail
   refine ar ?_;rw[HR.out,hh.out];exact F1.out
  |ok rv m1=>
   rw[ho] at cx hh;refine cx.mono ?_;rintro e w2 ⟨rfl,hU,aR,aB,hV1⟩;have hh:=af (show ij cf (aI cf k) d (ai fb) ⟨a0,a1,a2,a3,a4⟩ x m=.ok (cE cf (ai fb) m1 a2 rv).1 (cE cf (ai fb) m1 a2 rv).2 from hh.trans (by simp only[Out.bind];rw[if_pos zq]));obtain⟨z1,z2⟩:=aB.Bh PL.out;obtain⟨O6,h1,h2,h3⟩:=aB.write PL.out hU;have F1:Hid (bY p cf u n aN d F ve (FS F g ms fb) (fun _=>True) (fun fr=>fr) (fun _=>.returned (.tuple #[])) (.ok (cE cf (ai fb) m1 a2 rv).1 (cE cf (ai fb) m1 a2 rv).2) w (.returned (.tuple #[])) (w2.setCell ⟨b,0,none⟩ (.int .u32 rv))):=af (dZ h2 h1 trivial (((V1.trans hV1).ks _).trans h3) rfl);clear aB hV1 h1 h2 h3 cx;go_wp2_with fail
   go_end0;rw[HR.out,hh.out];exact F1.out
 case false=>
  obtain⟨z1,z2⟩:=X1.Bh PL.out;skip;obtain⟨old,hold⟩:∃z,z=(ib cf (ai fb) m a2).2:=⟨_,rfl⟩;rw[←hold] at z1 hh;have HOLD:=af hold;clear hold;go_wp2_with fail
  have E4:=af (show∀w9,aU (fun b=>p.TE ve b∨FS F g ms fb b) w1.heap.size w1 w9→w9.cell? ⟨w.heap.size,4,none⟩=some (.string a4) from fun w9 hk=>by simpa using(X1.jO hk lU.out (by decide) (by decide)).cell 4);have E5:=af (show∀w9,aU (fun b=>p.TE ve b∨FS F g ms fb b) w1.heap.size w1 w9→w9.cell? ⟨w.heap.size,5,none⟩=some (.slice (some ⟨b0,o0,none⟩) len xc) from fun w9 hk=>by simpa using(X1.jO hk lU.out (by decide) (by decide)).cell 5);have KK:=af (show∀w9,aU (fun b=>p.TE ve b∨FS F g ms fb b) w1.heap.size w1 w9→jL w9 b0 o0 t0 (⟨c0,c1,c2,c3,c4,c5⟩,kk) (.slice O4 kk.len O5) from fun w9 hk=>(K0.out w9 ((aU.of B01.out).trans (hk.mono B01.size fun b _ q=>q))).1);refine wp_region_held_drew (S:=(aU (fun b=>p.TE ve b∨FS F g ms fb b) w1.heap.size w1)) (by kernel_rfl) (aU.of (Below.refl _ _).drew) (fun hHeld=>?_);refine tk 0 ?_;refine tk 1 ?_;refine tk 2 ?_ (hy:=by intro w' hSw;have q:=E4.out w' hSw;go_simp;(try with_reducible rfl));refine tk 3 ?_;refine tk 4 ?_;refine tk 5 ?_;refine tk 6 ?_;refine tk 7 ?_;refine tk 8 ?_ (hy:=by intro w' hSw;have q:=E5.out w' hSw;go_simp;(try with_reducible rfl));refine tk 9 ?_;refine tk 10 ?_ (hy:=by intro w' hSw;obtain⟨q0,q1,q2,q3,q4,q5,q6⟩:=KK.out w' hSw;go_simp;(try with_reducible rfl));refine tr 11 fun K hK=>?_
  go_simp;go_at_call 79;have V1d:=af (V1.below (Below.refl w1.heap.size w1).drew);have W1:=af (KV.of p ve (Below.refl w1.heap.size w1).drew);have cx:=af (wC.out m ve w1.drew (X1.below (Below.refl _ _).drew) (hs1.sub (aw (Below.refl _ _).drew)) cL);clear wC hs1 z1 z2 e4 e5 y0 y1 y2 y3 y4 y5 y6;cases ho:(aI cf k).E d (ai fb) ⟨c0,c1,c2,c3,c4,c5⟩ kk m with
  |lost=>exact absurd ho cL
  |stop a b9 m1=>
   rw[ho] at cx hh;have hh:=af (show _=Out.stop a b9 m1 from hh.out);refine cx.mono ?_;rintro e w2 ⟨rfl,aR,d1,pZ,hV1⟩;have F1:Hid (bY p cf u n aN d F ve (FS F g ms fb) (fun _=>True) (fun fr=>fr) (fun _=>.returned (.tuple #[])) (.stop a b9 m1) w (dy a b9) w2):=af (bQ pZ ((V1d.trans hV1).ks _) rfl);clear hK hHeld;clear pZ hV1 cx;go_wp2_with fail
   refine ar ?_;rw[HR.out,hh.out];exact F1.out
  | ok rv m1=>
   rw[ho] at cx hh;refine cx.mono ?_;rintro e w2 ⟨rfl,hU,aR,aB,hV1⟩;have X2:=af aB;have V2:=af (V1d.trans hV1);have UU:=af hU;have KW2:=af (W1.trans hV1);have k2:=((W1.trans hV1).ks (FS F g ms fb)).k;have K2:=af k2;have vo:=af (px a4 ty old rv hU.1 w2);have hh:=af (show ij cf (aI cf k) d (ai fb) ⟨a0,a1,a2,a3,a4⟩ x m=(match cD gm a4 ty old rv with|some r=>.ok (cE cf (ai fb) m1 a2 r).1 (cE cf (ai fb) m1 a2 r).2|none=>.stop 2 2 m1) from hh.trans (by simp only[Out.bind];rw[if_neg (by simp[zq])];try rfl));clear hHeld aB hV1 hU cx ho cL;go_wp2_with fail
   refine hK.out _ _ k2 (fun hHeld=>?_);clear hK K
   try simp only[bK,bL,bM,bN,bO]
   clear k2;refine tr 12 fun K hK=>?_
   go_simp;go_at_call 118;refine vo.mono ?_;intro e w3 hp;obtain⟨he,hb3⟩:=hp;clear vo hHeld;cases EW:cD gm a4 ty old rv with
   |none=>
    rw[EW] at he hh;have he:e=dy 2 2:=he;subst he;have F1:Hid (bY p cf u n aN d F ve (FS F g ms fb) (fun _=>True) (fun fr=>fr) (fun _=>.returned (.tuple #[])) (.stop 2 2 m1) w (dy 2 2) w3):=af (bQ (X2.c.me.below hb3) ((V2.below hb3).ks (FS F g ms fb)) rfl);have hh:=af (show _=Out.stop 2 2 m1 from hh.out);clear hK hb3;go_wp2_with fail
    refine ar ?_;rw[HR.out,hh.out];exact F1.out
   |some r=>
    rw[EW] at he hh;have he:e=.returned (.int .u32 r):=he;subst he;have hh:=af (show _=Out.ok (cE cf (ai fb) m1 a2 r).1 (cE cf (ai fb) m1 a2 r).2 from hh.out);have X3:=X2.below hb3;have Wy:U r:=iH wj (by rw[HOLD.out];exact su X1.I6 X1.rg a2) UU.out EW;obtain⟨z1,z2⟩:=X3.Bh PL.out;obtain⟨O6,h1,h2,h3⟩:=X3.write PL.out Wy;have F1:Hid (bY p cf u n aN d F ve (FS F g ms fb) (fun _=>True) (fun fr=>fr) (fun _=>.returned (.tuple #[])) (.ok (cE cf (ai fb) m1 a2 r).1 (cE cf (ai fb) m1 a2 r).2) w (.returned (.tuple #[])) (w3.setCell ⟨b,0,none⟩ (.int .u32 r))):=af (dZ h2 h1 trivial (((V2.below hb3).ks _).trans h3) rfl);have k3:aU (fun b=>p.TE ve b∨FS F g ms fb b) w1.heap.size w1 w3:=K2.trans (aU.of (hb3.mono K2.size));have k4:=af ((((KW2.below hb3).ks (FS F g ms fb)).trans h3).k);clear hb3 h1 h2 h3 X3 Wy EW;go_wp2_with fail
    refine hK.out _ _ k3 (fun hHeld=>?_);clear hK K
    try simp only[bK,bL,bM,bN,bO]
    refine tk 13 ?_;refine tr 14 fun K hK=>?_
    go_simp;refine hK.out _ _ k4.out (fun hHeld=>?_);clear hK K
    try simp only[bK,bL,bM,bN,bO]
    refine td ?_;go_wp2_with fail
    go_end0;rw[HR.out,hh.out];exact F1.out
theorem dW.Wz {p:Pt} {cf:Cf} {u:UT} {n:Nat} {aN:List Nat} {d:Nat} {m:MS} {ve:EvS} {F:Nat} {fb:List dQ} {g cap:Nat} {ms:List Nat} {w:World} (hX:dW p cf u n aN d m ve F fb g cap ms w) {s:ByteArray} {t ln:Int} (hv:getM s cf.vs=some (t,ln)) (w9:World) (hk:aU (fun b=>p.TE ve b∨FS F g ms fb b) w.heap.size w w9):
  (Instr.lookup 88 (.map (some p.vb)) (.string s) false).run Tryz.prog w9=.ok (.agg #[.int .u8 t,.int .u32 ln]) w9:=by
 have hlt:=hX.c.st.lv;have hn:=hX.c.st.Bn;have hm:=ew hX.c.st.nm.vars (by simpa using hlt);have l2:=(hk.map hm hm.lt (fun q=>q.elim (hX.c.me.old hX.c.st.M hn hlt) fun q=>by have:=(hX.c.fr.fs q).1;omega)).lookup nt bm s _ (qD w9) false;rw[di tG,hv] at l2;simpa using l2
theorem yH {cf:Cf} {aN:List Nat} {m1 m2:MS} (h1:Inv cf aN m1) (h2:Inv cf aN m2) (i:Nat) (q1:i<m1.held.length) (q2:i<m2.held.length):m2.held[i].length=m1.held[i].length:=by
 have e:=h2.shape.trans h1.shape.symm;have:=congrArg (fun l=>l[i]?) e;simpa[q1,q2] using this
theorem Ra (p:Pt) (cf:Cf) (u:UT) (n:Nat) (aN:List Nat) (k d:Nat) (m:MS) (ve:EvS) (F:Nat) (fb:List dQ) (g cap:Nat) (ms:List Nat) (t a0 a1 a3:Int) (a2 a4:ByteArray) (x:az) (xa ba ea:Option Addr) (xc bl bc el ec:Nat) (ty:Int) (ts:List Int) (w:World) (ha:cf.jd=gm) (HE:Hid (CY p cf u n aN k)) (zx:jn cf.vs cf.cs (dm fb) x=.ok ts) (CT:jS x=true) (Ky:x.Wf) (hv:dI (aA w (bJ p.B)) false none x (.slice xa x.len xc)) (hX:dW p cf u n aN d m ve F fb g cap ms w) (hx1:2≤x.len) (O0:gj cf.vs (dm fb) a2=.ok ty) (ey:gB cf (aI cf k) d (ai fb) ⟨a0,a1,a2,a3,a4⟩ x m≠.lost):
  Calls Tryz.prog 181 #[.pointer (some ⟨p.M,0,none⟩),.pointer (some ⟨F,0,none⟩),.agg #[.int .i64 t,.int .u8 a1,.string a2,.int .u8 a3,.string a4,.slice xa x.len xc,.slice ba bl bc,.slice ea el ec]] w (bY p cf u n aN d F ve (FS F g ms fb) (fun _=>True) (fun _:Unit=>ai fb) (fun _:Unit=>.returned (.tuple #[])) (gB cf (aI cf k) d (ai fb) ⟨a0,a1,a2,a3,a4⟩ x m) w):=by
 obtain⟨R,hR⟩:∃z,z=(bY p cf u n aN d F ve (FS F g ms fb) (fun _=>True) (fun _:Unit=>ai fb) (fun _:Unit=>.returned (.tuple #[])) (gB cf (aI cf k) d (ai fb) ⟨a0,a1,a2,a3,a4⟩ x m) w):=⟨_,rfl⟩;rw[←hR];have HR:=af hR;clear hR;obtain⟨ln,QM,-⟩:=CW O0;obtain⟨len,hlen⟩:∃z,z=x.len:=⟨_,rfl⟩;rw[←hlen] at hv hx1⊢;have hl0:0<len:=by omega
 have kt:1<len:=by omega
 have hl2:(1:Int)<(len:Int):=by omega
 obtain⟨b0,o0,t0,O4,O5,k0,gJ,mR,oV,hs0⟩:=hv.sI (w':=w) 0 (by omega);obtain⟨jw,hx0,-⟩:=dL CT zx 0 k0 gJ;have hw0:=az.fW Ky 0 k0 gJ;have gJ:=af gJ;obtain⟨b1,o1,t1,Y8,Y9,k1,dH,yE,hr1,hs1⟩:=hv.sI (w':=w) 1 (by omega);obtain⟨OW,hx1,-⟩:=dL CT zx 1 k1 dH;have gO:=az.fW Ky 1 k1 dH;have dH:=af dH;subst mR;obtain⟨rfl,rfl⟩:b1=b0∧o1=o0:=by cases yE;exact⟨rfl,rfl⟩
 clear yE;have cF:=(Below.refl w.heap.size w).alloc (Nat.le_refl _) (.cells #[.int .i64 t,.int .u8 a1,.string a2,.int .u8 a3,.string a4,.slice (some ⟨b1,o1,none⟩) len xc,.slice ba bl bc,.slice ea el ec] 109);have cG:=hX.below cF;have hb0:=Bx.new w #[.int .i64 t,.int .u8 a1,.string a2,.int .u8 a3,.string a4,.slice (some ⟨b1,o1,none⟩) len xc,.slice ba bl bc,.slice ea el ec] 109;have V0:=af (KV.of p ve cF);have EB:=af (show∀w9,aU (fun b=>p.TE ve b∨FS F g ms fb b) (w.alloc (.cells #[.int .i64 t,.int .u8 a1,.string a2,.int .u8 a3,.string a4,.slice (some ⟨b1,o1,none⟩) len xc,.slice ba bl bc,.slice ea el ec] 109)).heap.size (w.alloc (.cells #[.int .i64 t,.int .u8 a1,.string a2,.int .u8 a3,.string a4,.slice (some ⟨b1,o1,none⟩) len xc,.slice ba bl bc,.slice ea el ec] 109)) w9→Bx w9 w.heap.size #[.int .i64 t,.int .u8 a1,.string a2,.int .u8 a3,.string a4,.slice (some ⟨b1,o1,none⟩) len xc,.slice ba bl bc,.slice ea el ec] 109 from fun w9 hk=>cG.jO hk hb0 (by decide) (by decide));have K0:=af (show∀w9,aU (fun b=>p.TE ve b∨FS F g ms fb b) (w.alloc (.cells #[.int .i64 t,.int .u8 a1,.string a2,.int .u8 a3,.string a4,.slice (some ⟨b1,o1,none⟩) len xc,.slice ba bl bc,.slice ea el ec] 109)).heap.size (w.alloc (.cells #[.int .i64 t,.int .u8 a1,.string a2,.int .u8 a3,.string a4,.slice (some ⟨b1,o1,none⟩) len xc,.slice ba bl bc,.slice ea el ec] 109)) w9→jL w9 b1 (o1) t0 k0 (.slice O4 k0.2.len O5)∧dI (aA w9 (bJ p.B)) false none k0.2 (.slice O4 k0.2.len O5) from fun w9 hk=>⟨by
  have h:=((oV.sub (aw cF)).sub (cG.oq hk)).sub (aZ _ _);simpa only[Nat.zero_mul,Nat.add_zero,Nat.one_mul] using h,(hs0.sub (aw cF)).sub (cG.oq hk)⟩)
 have wC:=af (fun(m1:MS) (aR:EvS) (w1:World) (aB:dW p cf u n aN d m1 aR F fb g cap ms w1) (hs:dI (aA w1 (bJ p.B)) false none k0.2 (.slice O4 k0.2.len O5)) (dh:(aI cf k).E d (ai fb) k0.1 k0.2 m1≠.lost)=>HE.out d m1 aR F fb g cap ms t0 k0.1 k0.2 _ jw w1 hx0 hw0.1 hw0.2 hs aB dh);have Ji:=af (fun(m1:MS)=>gY (ev:=aI cf k) (d:=d) (fr:=ai fb) (m:=m1) gJ.out);have K1:=af (show∀w9,aU (fun b=>p.TE ve b∨FS F g ms fb b) (w.alloc (.cells #[.int .i64 t,.int .u8 a1,.string a2,.int .u8 a3,.string a4,.slice (some ⟨b1,o1,none⟩) len xc,.slice ba bl bc,.slice ea el ec] 109)).heap.size (w.alloc (.cells #[.int .i64 t,.int .u8 a1,.string a2,.int .u8 a3,.string a4,.slice (some ⟨b1,o1,none⟩) len xc,.slice ba bl bc,.slice ea el ec] 109)) w9→jL w9 b1 (o1+7) t1 k1 (.slice Y8 k1.2.len Y9)∧dI (aA w9 (bJ p.B)) false none k1.2 (.slice Y8 k1.2.len Y9) from fun w9 hk=>⟨by
  have h:=((hr1.sub (aw cF)).sub (cG.oq hk)).sub (aZ _ _);simpa only[Nat.zero_mul,Nat.add_zero,Nat.one_mul] using h,(hs1.sub (aw cF)).sub (cG.oq hk)⟩)
 have Jj:=af (fun(m1:MS) (aR:EvS) (w1:World) (aB:dW p cf u n aN d m1 aR F fb g cap ms w1) (hs:dI (aA w1 (bJ p.B)) false none k1.2 (.slice Y8 k1.2.len Y9)) (dh:(aI cf k).E d (ai fb) k1.1 k1.2 m1≠.lost)=>HE.out d m1 aR F fb g cap ms t1 k1.1 k1.2 _ OW w1 hx1 gO.1 gO.2 hs aB dh);have WA:=af (fun(m1:MS)=>gY (ev:=aI cf k) (d:=d) (fr:=ai fb) (m:=m1) dH.out);have HVS:=af QM;have Jh:=af cG;have hty:mn cf a2=ty:=by unfold mn;rw[QM];rfl
 have hh:=af (show gB cf (aI cf k) d (ai fb) ⟨a0,a1,a2,a3,a4⟩ x m=_ by unfold gB;rw[Ji.out]);have cL:(aI cf k).E d (ai fb) k0.1 k0.2 m≠.lost:=Out.cN (by rw[←hh.out];exact ey);have qU:=af ey;rw[hty,ha] at hh;obtain⟨⟨c0,c1,c2,c3,c4,c5⟩,kk⟩:=k0;obtain⟨⟨f0,f1,f2,f3,f4,f5⟩,kl⟩:=k1;simp only[] at wC Jj K0 K1 hh cL WA;clear HE zx CT Ky hv hX O0 ey hlen oV hs0 hx0 hw0 gJ hr1 hs1 hx1 gO dH cF cG hb0 QM ha Ji hty;go_enter Tryz.func181,Tryz.ntmps181;go_wp2_with fail
 generalize (w.alloc (.cells #[.int .i64 t,.int .u8 a1,.string a2,.int .u8 a3,.string a4,.slice (some ⟨b1,o1,none⟩) len xc,.slice ba bl bc,.slice ea el ec] 109))=w0 at EB K0 K1 V0 Jh⊢;have E2:=af (show∀w9,(aU (fun b=>p.TE ve b∨FS F g ms fb b) w0.heap.size w0) w9→w9.cell? ⟨w.heap.size,2,none⟩=some (.string a2) from fun w9 hk=>by simpa using(EB.out w9 hk).cell 2);have E5:=af (show∀w9,(aU (fun b=>p.TE ve b∨FS F g ms fb b) w0.heap.size w0) w9→w9.cell? ⟨w.heap.size,5,none⟩=some (.slice (some ⟨b1,o1,none⟩) len xc) from fun w9 hk=>by simpa using(EB.out w9 hk).cell 5);refine wp_region_held_drew (S:=(aU (fun b=>p.TE ve b∨FS F g ms fb b) w0.heap.size w0)) (by kernel_rfl) (aU.of (Below.refl _ _).drew) (fun hHeld=>?_);refine tk 0 ?_;refine tk 1 ?_;refine tk 2 ?_ (hy:=by intro w' hSw;have q:=E2.out w' hSw;go_simp;(try with_reducible rfl));refine tk 3 ?_;refine tk 4 ?_;refine tk 5 ?_;refine tk 6 ?_ (hy:=by intro w' hSw;have q:=E5.out w' hSw;go_simp;(try with_reducible rfl));refine tk 7 ?_;refine tk 8 ?_ (hy:=by intro w' hSw;obtain⟨q0,q1,q2,q3,q4,q5,q6⟩:=(K0.out w' hSw).1;go_simp;(try with_reducible rfl));refine tr 9 fun K hK=>?_
 go_simp;go_at_call 79;have V0d:=af (V0.below (Below.refl w0.heap.size w0).drew);have W0:=af (KV.of p ve (Below.refl w0.heap.size w0).drew);have cx:=af (wC.out m ve w0.drew (Jh.below (Below.refl _ _).drew) ((K0.out w0.drew (aU.of (Below.refl _ _).drew)).2) cL);clear wC;cases ho:(aI cf k).E d (ai fb) ⟨c0,c1,c2,c3,c4,c5⟩ kk m with
 |lost=>exact absurd ho cL
 |stop a b9 m1=>
  rw[ho] at cx hh;have hh:=af (show _=Out.stop a b9 m1 from hh.out);refine cx.mono ?_;rintro e w1 ⟨rfl,aR,d1,pZ,hV1⟩;have F1:Hid (bY p cf u n aN d F ve (FS F g ms fb) (fun _=>True) (fun _:Unit=>ai fb) (fun _:Unit=>.returned (.tuple #[])) (.stop a b9 m1) w (dy a b9) w1):=af (bQ pZ ((V0d.trans hV1).ks (FS F g ms fb)) rfl);clear hK hHeld pZ hV1 cx;go_wp2_with fail
  refine ar ?_;rw[HR.out,hh.out];exact F1.out
 | ok iv m1=>
  rw[ho] at cx hh;refine cx.mono ?_;rintro e w1 ⟨rfl,hU,aR,aB,hV1⟩;have hh:=af (show gB cf (aI cf k) d (ai fb) ⟨a0,a1,a2,a3,a4⟩ x m=(match (bI cf m1 a2)[iv.toNat]? with|none=>Out.stop 2 1 m1|some old=>(jo (aI cf k) d (ai fb) x 1 m1).bind fun v m2=>if a4.toList.isEmpty=true then .ok () (fM cf m2 a2 iv.toNat v) else match cD gm a4 ty old v with|some r=>.ok () (fM cf m2 a2 iv.toNat r)|none=>.stop 2 2 m2) from hh.out);rw[WA.out] at hh;obtain⟨i,gx,hi,gq,hgp,hpl,qR,S9,hwd⟩:=aB.elem HVS.out;have tS:=aB.c.pos _ (List.getElem_mem gq);have rB:=af (uE p cf u cf.allowed n d m1 aR a2 i iv w1 aB.c.st aB.c.me hgp hi gq tS.1 tS.2 hU);rw[S9] at rB;rw[hwd] at hh;have X1:=af aB;have V1:=af (V0d.trans hV1);have KW1:=af (W0.trans hV1);have hk:=((W0.trans hV1).ks (FS F g ms fb)).k;have UI:=af hU;have EC:=af (fun(m2:MS) (eI:EvS) (w2:World) (aL:dW p cf u n aN d m2 eI F fb g cap ms w2) (FK:i<m2.held.length) (hj:iv.toNat<m2.held[i].length)=>aL.yG hi FK qR iv.toNat hj);have WB:=af (show∀(m2:MS) (eI:EvS) (w2:World) (aL:dW p cf u n aN d m2 eI F fb g cap ms w2) (FK:i<m2.held.length) (hj:iv.toNat<m2.held[i].length),∃y,w2.cell? ⟨gx,iv.toNat,none⟩=some (.int .u32 y)∧w2.frozen? ⟨gx,iv.toNat,none⟩=false from fun m2 eI w2 aL FK hj=>⟨_,aL.yG hi FK qR iv.toNat hj⟩);have SW:=af (fun(m2:MS) (eI:EvS) (w2:World) (aL:dW p cf u n aN d m2 eI F fb g cap ms w2) (v:Int) (hv:U v)=>aL.Wa (s:=a2) hi hpl qR iv.toNat hv);have Tq:=af gq;have hlw0:∃z,z=m1.held[i]'(Tq.out):=⟨_,rfl⟩;obtain⟨lw,hlw⟩:=hlw0;simp only[←hlw] at rB hh;have WC:=af hlw;clear hHeld aB hV1 cx ho cL tS hU hgp hpl qR S9 hwd hlw gq;go_wp2_with fail
  refine hK.out _ _ hk (fun hHeld=>?_);clear hK K
  try simp only[bK,bL,bM,bN,bO]
  clear hk;refine tr 10 fun K hK=>?_
  go_simp;go_at_call 78;unfold CP at rB;by_cases hc:(lw.length:Int)≤iv
  ·rw[if_pos hc] at rB;have hz:=af (show gB cf (aI cf k) d (ai fb) ⟨a0,a1,a2,a3,a4⟩ x m=.stop 2 1 m1 by rw[hh.out,List.getElem?_eq_none (by have:=UI.1;omega)]);refine rB.mono ?_;rintro e w2 ⟨rfl,hb2⟩;have F1:Hid (bY p cf u n aN d F ve (FS F g ms fb) (fun _=>True) (fun _:Unit=>ai fb) (fun _:Unit=>.returned (.tuple #[])) (.stop 2 1 m1) w (dy 2 1) w2):=af (bQ (X1.c.me.below hb2) ((V1.below hb2).ks (FS F g ms fb)) rfl);clear rB hK hHeld hb2;go_wp2_with fail
   refine ar ?_;rw[HR.out,hz.out];exact F1.out
  ·rw [if_neg hc] at rB;have hlt:iv.toNat<lw.length:=by have:=UI.1;omega
   have hh:=af (show gB cf (aI cf k) d (ai fb) ⟨a0,a1,a2,a3,a4⟩ x m=((aI cf k).E d (ai fb) ⟨f0,f1,f2,f3,f4,f5⟩ kl m1).bind fun v m2=>if a4.toList.isEmpty=true then .ok () (fM cf m2 a2 iv.toNat v) else match cD gm a4 ty lw[iv.toNat] v with|some r=>.ok () (fM cf m2 a2 iv.toNat r)|none=>.stop 2 2 m2 by rw[hh.out,List.getElem?_eq_getElem hlt]);have dh:(aI cf k).E d (ai fb) ⟨f0,f1,f2,f3,f4,f5⟩ kl m1≠.lost:=Out.cN (by rw[←hh.out];exact qU.out);have Za:=af hlt;have WD:∃z,z=lw[iv.toNat]'(Za.out):=⟨_,rfl⟩;obtain⟨old,hold⟩:=WD;simp only[←hold] at hh;have HOLD:=af hold;clear hold hlt;refine rB.mono ?_;rintro e w2 ⟨rfl,hb2⟩;clear rB;have X2:=af (X1.below hb2);have V2:=af (V1.below hb2);have KW2:=af (KW1.below hb2);have hk:=((KW1.below hb2).ks (FS F g ms fb)).k;have K02:=af hk;clear hHeld hb2;go_wp2_with fail
   refine hK.out _ _ hk (fun hHeld=>?_);clear hK K
   try simp only[bK,bL,bM,bN,bO]
   clear hk;refine tk 11 ?_;refine td ?_;clear hHeld;have dT:=EB.out w2 K02.out;obtain⟨⟨y0,y1,y2,y3,y4,y5,y6⟩,hs1⟩:=K1.out w2 K02.out;simp only[] at y1 y2 y3 y4 y5 y6;have e4:w2.cell? ⟨w.heap.size,4,none⟩=some (.string a4):=by simpa using dT.cell 4
   have e5:w2.cell? ⟨w.heap.size,5,none⟩=some (.slice (some ⟨b1,o1,none⟩) len xc):=by simpa using dT.cell 5
   have lU:=af dT;clear dT;cases zq:a4.toList.isEmpty
   case true=>
    have cx:=af (Jj.out m1 aR w2 X2.out hs1 dh);clear Jj hs1;go_wp2_with fail
    cases ho:(aI cf k).E d (ai fb) ⟨f0,f1,f2,f3,f4,f5⟩ kl m1 with
    |lost=>exact absurd ho dh
    |stop a b9 m2=>
     rw[ho] at cx hh;have hh:=af (show _=Out.stop a b9 m2 from hh.out);refine cx.mono ?_;rintro e w3 ⟨rfl,eI,d2,dC,hV2⟩;have F1:Hid (bY p cf u n aN d F ve (FS F g ms fb) (fun _=>True) (fun _:Unit=>ai fb) (fun _:Unit=>.returned (.tuple #[])) (.stop a b9 m2) w (dy a b9) w3):=af (bQ dC ((V2.trans hV2).ks (FS F g ms fb)) rfl);clear dC hV2 cx;go_wp2_with fail
     refine ar ?_;rw[HR.out,hh.out];exact F1.out
    |ok rv m2=>
     rw[ho] at cx hh;refine cx.mono ?_;rintro e w3 ⟨rfl,hU,eI,aL,hV2⟩;have hh:=af (show gB cf (aI cf k) d (ai fb) ⟨a0,a1,a2,a3,a4⟩ x m=.ok () (fM cf m2 a2 iv.toNat rv) from hh.trans (by simp only[Out.bind];rw[if_pos zq]));have FK:i<m2.held.length:=by have:=aL.c.me.len;omega
     obtain⟨zy,z1,z2⟩:=WB.out m2 eI w3 aL FK (by rw[yH X1.inv aL.inv i Tq.out FK,←WC.out];exact Za.out);obtain⟨h2,h3⟩:=SW.out m2 eI w3 aL rv hU;have F1:Hid (bY p cf u n aN d F ve (FS F g ms fb) (fun _=>True) (fun _:Unit=>ai fb) (fun _:Unit=>.returned (.tuple #[])) (.ok () (fM cf m2 a2 iv.toNat rv)) w (.returned (.tuple #[])) (w3.setCell ⟨gx,iv.toNat,none⟩ (.int .u32 rv))):=af (dZ h2 rfl trivial (((V2.trans hV2).trans h3).ks _) rfl);clear aL hV2 h2 h3 cx;go_wp2_with fail
     go_end0;rw[HR.out,hh.out];exact F1.out
   case false=>
    obtain⟨z1,z2⟩:=EC.out m1 aR w2 X2.out Tq.out (by rw[←WC.out];exact Za.out);have e9:m1.held[i]'Tq.out=lw:=WC.symm;simp only[e9] at z1;rw[←HOLD.out] at z1;clear e9;go_wp2_with fail
    have G4:=af (show∀w9,aU (fun b=>p.TE aR b∨FS F g ms fb b) w2.heap.size w2 w9→w9.cell? ⟨w.heap.size,4,none⟩=some (.string a4) from fun w9 hk=>by simpa using(X2.jO hk lU.out (by decide) (by decide)).cell 4);have G2:=af (show∀w9,aU (fun b=>p.TE aR b∨FS F g ms fb b) w2.heap.size w2 w9→w9.cell? ⟨w.heap.size,2,none⟩=some (.string a2) from fun w9 hk=>by simpa using(X2.jO hk lU.out (by decide) (by decide)).cell 2);have G5:=af (show∀w9,aU (fun b=>p.TE aR b∨FS F g ms fb b) w2.heap.size w2 w9→w9.cell? ⟨w.heap.size,5,none⟩=some (.slice (some ⟨b1,o1,none⟩) len xc) from fun w9 hk=>by simpa using(X2.jO hk lU.out (by decide) (by decide)).cell 5);have GX:=af (show∀w9,aU (fun b=>p.TE aR b∨FS F g ms fb b) w2.heap.size w2 w9→w9.cell? ⟨p.X,3,none⟩=some (.map (some p.vb)) from fun w9 hk=>by simpa using(X2.jO hk X2.c.st.X (by decide) (by decide)).cell 3);have GV:=af (show∀w9,aU (fun b=>p.TE aR b∨FS F g ms fb b) w2.heap.size w2 w9→_ from X2.Wz HVS.out);have KK:=af (show∀w9,aU (fun b=>p.TE aR b∨FS F g ms fb b) w2.heap.size w2 w9→jL w9 b1 (o1+7) t1 (⟨f0,f1,f2,f3,f4,f5⟩,kl) (.slice Y8 kl.len Y9) from fun w9 hk=>(K1.out w9 ((KS.trans (KW2.ks (FS F g ms fb)) (⟨hk,Vc.refl _ _,fun _ h=>.inl h⟩:KS p aR aR (FS F g ms fb) (FS F g ms fb) w2 w9)).k)).1);have IX:∀w9:World,(Instr.field 155 (.agg #[.int .u8 ty,.int .u32 ln]) 0).run Tryz.prog w9=.ok (.int .u8 ty) w9:=fun w9=>by kernel_rfl
    have HFD:=af IX;clear IX;have b0M:=ag X2.c.b0 (Below.refl w2.heap.size w2).drew;refine wp_region_held_drew (S:=(fun w9=>aU (fun b=>p.TE aR b∨FS F g ms fb b) w2.heap.size w2 w9∧w9.cell? ⟨p.M,0,none⟩=some (.pointer (some ⟨p.X,0,none⟩)))) (by kernel_rfl) ⟨aU.of (Below.refl _ _).drew,b0M⟩ (fun hHeld=>?_);refine tk 0 ?_;refine tk 1 ?_;refine tk 2 ?_ (hy:=by intro w' hSw;have q:=G4.out w' hSw.1;go_simp;(try with_reducible rfl));refine tk 3 ?_;refine tk 4 ?_;refine tk 5 ?_;refine tk 6 ?_ (hy:=by intro w' hSw;have q:=hSw.2;go_simp;(try with_reducible rfl));refine tk 7 ?_;refine tk 8 ?_;refine tk 9 ?_;refine tk 10 ?_ (hy:=by intro w' hSw;have q:=GX.out w' hSw.1;go_simp;(try with_reducible rfl));refine tk 11 ?_;refine tk 12 ?_ (hy:=by intro w' hSw;have q:=G2.out w' hSw.1;go_simp;(try with_reducible rfl));refine tk 13 ?_ (hy:=by intro w' hSw;have q:=GV.out w' hSw.1;go_simp;(try with_reducible rfl));refine tk 14 ?_ (hy:=by intro w' hSw;have q:=HFD.out w';go_simp;(try with_reducible rfl));refine tk 15 ?_;refine tk 16 ?_;refine tk 17 ?_;refine tk 18 ?_;refine tk 19 ?_ (hy:=by intro w' hSw;have q:=G5.out w' hSw.1;go_simp;(try with_reducible rfl));refine tk 20 ?_;refine tk 21 ?_ (hy:=by intro w' hSw;obtain⟨q0,q1,q2,q3,q4,q5,q6⟩:=KK.out w' hSw.1;go_simp;(try with_reducible rfl));refine tr 22 fun K hK=>?_
    go_simp;go_at_call 79;have V2d:=af (V2.below (Below.refl w2.heap.size w2).drew);have W2:=af (KV.of p aR (Below.refl w2.heap.size w2).drew);have cx:=af (Jj.out m1 aR w2.drew (X2.below (Below.refl _ _).drew) (hs1.sub (aw (Below.refl _ _).drew)) dh);clear Jj hs1 z1 z2 e4 e5 y0 y1 y2 y3 y4 y5 y6;cases ho:(aI cf k).E d (ai fb) ⟨f0,f1,f2,f3,f4,f5⟩ kl m1 with
    |lost=>exact absurd ho dh
    |stop a b9 m2=>
     rw[ho] at cx hh;have hh:=af (show _=Out.stop a b9 m2 from hh.out);refine cx.mono ?_;rintro e w3 ⟨rfl,eI,d2,dC,hV2⟩;have F1:Hid (bY p cf u n aN d F ve (FS F g ms fb) (fun _=>True) (fun _:Unit=>ai fb) (fun _:Unit=>.returned (.tuple #[])) (.stop a b9 m2) w (dy a b9) w3):=af (bQ dC ((V2d.trans hV2).ks (FS F g ms fb)) rfl);clear hK hHeld;clear dC hV2 cx;go_wp2_with fail
     refine ar ?_;rw[HR.out,hh.out];exact F1.out
    | ok rv m2=>
     rw[ho] at cx hh;refine cx.mono ?_;rintro e w3 ⟨rfl,hU,eI,cq,Zb⟩;have X3:=af cq;have V3:=af (V2d.trans Zb);have UU:=af hU;have KW3:=af (W2.trans Zb);have k3:(fun w9=>aU (fun b=>p.TE aR b∨FS F g ms fb b) w2.heap.size w2 w9∧w9.cell? ⟨p.M,0,none⟩=some (.pointer (some ⟨p.X,0,none⟩))) w3:=⟨((W2.trans Zb).ks (FS F g ms fb)).k,cq.c.b0⟩;have K3:=af k3;have vo:=af (px a4 ty old rv hU.1 w3);have hh:=af (show gB cf (aI cf k) d (ai fb) ⟨a0,a1,a2,a3,a4⟩ x m=(match cD gm a4 ty old rv with|some r=>.ok () (fM cf m2 a2 iv.toNat r)|none=>.stop 2 2 m2) from hh.trans (by simp only[Out.bind];rw[if_neg (by simp[zq])];try rfl));clear hHeld cq Zb hU cx ho dh;go_wp2_with fail
     refine hK.out _ _ k3 (fun hHeld=>?_);clear hK K
     try simp only[bK,bL,bM,bN,bO]
     clear k3;refine tr 23 fun K hK=>?_
     go_simp;go_at_call 118;refine vo.mono ?_;intro e w4 hp;obtain⟨he,hb4⟩:=hp;clear vo hHeld;cases EW:cD gm a4 ty old rv with
     |none=>
      rw[EW] at he hh;have he:e=dy 2 2:=he;subst he;have F1:Hid (bY p cf u n aN d F ve (FS F g ms fb) (fun _=>True) (fun _:Unit=>ai fb) (fun _:Unit=>.returned (.tuple #[])) (.stop 2 2 m2) w (dy 2 2) w4):=af (bQ (X3.c.me.below hb4) ((V3.below hb4).ks (FS F g ms fb)) rfl);have hh:=af (show _=Out.stop 2 2 m2 from hh.out);clear hK hb4;go_wp2_with fail
      refine ar ?_;rw[HR.out,hh.out];exact F1.out
     |some r=>
      rw[EW] at he hh;have he:e=.returned (.int .u32 r):=he;subst he;have hh:=af (show _=Out.ok () (fM cf m2 a2 iv.toNat r) from hh.out);have X4:=X3.below hb4;have hUo:U old:=by rw[HOLD.out];simp only[WC.out];exact X1.rg _ (List.getElem_mem Tq.out) _ (List.getElem_mem _)
      have Wy:U r:=iH wj hUo UU.out EW;have FK:i<m2.held.length:=by have:=X4.c.me.len;omega
      obtain⟨zy,z1,z2⟩:=WB.out m2 eI w4 X4 FK (by rw[yH X1.inv X4.inv i Tq.out FK,←WC.out];exact Za.out);obtain⟨h2,h3⟩:=SW.out m2 eI w4 X4 r Wy;have F1:Hid (bY p cf u n aN d F ve (FS F g ms fb) (fun _=>True) (fun _:Unit=>ai fb) (fun _:Unit=>.returned (.tuple #[])) (.ok () (fM cf m2 a2 iv.toNat r)) w (.returned (.tuple #[])) (w4.setCell ⟨gx,iv.toNat,none⟩ (.int .u32 r))):=af (dZ h2 rfl trivial (((V3.below hb4).trans h3).ks _) rfl);have k4:(fun w9=>aU (fun b=>p.TE aR b∨FS F g ms fb b) w2.heap.size w2 w9∧w9.cell? ⟨p.M,0,none⟩=some (.pointer (some ⟨p.X,0,none⟩))) w4:=⟨((KW3.below hb4).ks (FS F g ms fb)).k,X4.c.b0⟩;have k5:=af (show(fun w9=>aU (fun b=>p.TE aR b∨FS F g ms fb b) w2.heap.size w2 w9∧w9.cell? ⟨p.M,0,none⟩=some (.pointer (some ⟨p.X,0,none⟩))) (w4.setCell ⟨gx,iv.toNat,none⟩ (.int .u32 r)) from⟨(((KW3.below hb4).trans h3).ks (FS F g ms fb)).k,h2.c.b0⟩);clear hb4 h2 h3 X4 Wy hUo EW;go_wp2_with fail
      refine hK.out _ _ k4 (fun hHeld=>?_);clear hK K
      try simp only[bK,bL,bM,bN,bO]
      refine tk 24 ?_;refine tr 25 fun K hK=>?_
      go_simp;refine hK.out _ _ k5.out (fun hHeld=>?_);clear hK K
      try simp only[bK,bL,bM,bN,bO]
      refine td ?_;go_wp2_with fail
      go_end0;rw[HR.out,hh.out];exact F1.out
end
section
open Go.Shelf
structure Na (w:World) (b q:Nat) (t:Int) (h:SH) (vx vb ve:Value):Prop where
 c0:w.cell? ⟨b,q,none⟩=some (.int .i64 t)
 c1:w.cell? ⟨b,q+1,none⟩=some (.int .u8 h.kind)
 c2:w.cell? ⟨b,q+2,none⟩=some (.string h.name)
 c3:w.cell? ⟨b,q+3,none⟩=some (.int .u8 h.type)
 c4:w.cell? ⟨b,q+4,none⟩=some (.string h.sign)
 c5:w.cell? ⟨b,q+5,none⟩=some vx
 c6:w.cell? ⟨b,q+6,none⟩=some vb
 c7:w.cell? ⟨b,q+7,none⟩=some ve
theorem Na.sub {w w':World} {b q:Nat} {t:Int} {h:SH} {vx vb ve:Value} (k:Na w b q t h vx vb ve) (hc:Cells w w'):Na w' b q t h vx vb ve:=⟨hc _ _ k.c0,hc _ _ k.c1,hc _ _ k.c2,hc _ _ k.c3,hc _ _ k.c4,hc _ _ k.c5,hc _ _ k.c6,hc _ _ k.c7⟩
theorem dR.kid {w:World} {l:aH} {v:Value} (hl:dR w false none l v) (i:Nat) (h:SH) (x:az) (b e:aH) (ha:l.bu[i]? =some (h,x,b,e)):
  ∃bk off cap t xa xc ba bc ea ec,v=.slice (some ⟨bk,off,none⟩) l.len cap∧Na w bk (off+i*8) t h (.slice xa x.len xc) (.slice ba b.len bc) (.slice ea e.len ec)∧dI w false none x (.slice xa x.len xc)∧dR w false none b (.slice ba b.len bc)∧dR w false none e (.slice ea e.len ec):=by
 obtain⟨ka,kb,aD,aK,rfl,y2,y3⟩:=ny.1 hl;obtain⟨hi,e1⟩:=List.getElem?_eq_some_iff.1 ha;have y4:=y3 i hi;rw[e1] at y4;obtain⟨⟨⟨t,z0,_⟩,z1,z2,z3,z4⟩,⟨vx,z5,hx⟩,⟨vb,z6,hb⟩,⟨ve,z7,he⟩⟩:=y4;have hk:ka=some ⟨kb,aD,none⟩:=by
  rcases y2 with⟨q,_⟩|⟨q,_⟩
  ·omega
  ·exact q
 subst hk;obtain⟨xa,xc,rfl⟩:=hx.ay;obtain⟨ba,bc,rfl⟩:=hb.ay;obtain⟨ea,ec,rfl⟩:=he.ay;exact⟨kb,aD,aK,t,xa,xc,ba,bc,ea,ec,by rw[aH.br],⟨z0,z1,z2,z3,z4,z5,z6,z7⟩,hx,hb,he⟩
def Tr (p:Pt) (cf:Cf) (u:UT) (n:Nat) (aN:List Nat) (k:Nat):Prop:=
 ∀(d:Nat) (m:MS) (ve:EvS) (F:Nat) (fb:List dQ) (g cap:Nat) (ms:List Nat) (l:aH) (v:Value) (ret:Int) (lp:Nat) (c':Scope) (w:World),gU l=true→l.Wf→fO cf.vs cf.cs ret l (dm fb) [] lp=.ok c'→dR (aA w (bJ p.B)) false none l v→fb.length+l.sz≤99999990→
  dW p cf u n aN d m ve F fb g cap ms w→(aI cf k).L d (ai fb) l m≠.lost→
  Calls Tryz.prog 123 #[.pointer (some ⟨p.M,0,none⟩),.pointer (some ⟨F,0,none⟩),v] w (bY p cf u n aN d F ve (FS F g ms fb) (fun q=>U q.2.1) (fun q=>q.2.2) (fun q=>.returned (.tuple #[.int .i64 q.1,.int .u32 q.2.1])) ((aI cf k).L d (ai fb) l m) w)
def Zc (p:Pt) (cf:Cf) (u:UT) (n:Nat) (aN:List Nat) (k:Nat):Prop:=
 ∀(d:Nat) (m:MS) (ve:EvS) (F:Nat) (fb:List dQ) (g cap:Nat) (ms:List Nat) (t:Int) (h:SH) (x:az) (b:aH) (vx vb vz:Value) (a:EH×az) (ty ret:Int) (lp:Nat) (c':Scope) (w:World),x.bu[0]? =some a→XT cf (dm fb) a.1 a.2 ty→a.1.Wf→a.2.Wf→gU b=true→b.Wf→fO cf.vs cf.cs ret b (dm fb) [] lp=.ok c'→
  dI (aA w (bJ p.B)) false none x vx→dR (aA w (bJ p.B)) false none b vb→(∃l,dR (aA w (bJ p.B)) false none l vz)→fb.length+b.sz≤99999990→
  dW p cf u n aN d m ve F fb g cap ms w→(aI cf k).W d (ai fb) a.1 a.2 b m≠.lost→
  Calls Tryz.prog 182 #[.pointer (some ⟨p.M,0,none⟩),.pointer (some ⟨F,0,none⟩),Lm t h vx vb vz] w (bY p cf u n aN d F ve (FS F g ms fb) (fun q=>U q.2.1) (fun q=>q.2.2) (fun q=>.returned (.tuple #[.int .i64 q.1,.int .u32 q.2.1])) ((aI cf k).W d (ai fb) a.1 a.2 b m) w)
def WSt (p:Pt) (cf:Cf) (u:UT) (n:Nat) (aN:List Nat) (k:Nat):Prop:=
 ∀(d:Nat) (m:MS) (ve:EvS) (F:Nat) (fb:List dQ) (g cap:Nat) (ms:List Nat) (t:Int) (h:SH) (x:az) (b e:aH) (vx vb vz:Value) (ss:List Scope) (c c1:Scope) (ret:Int) (lp:Nat) (w:World),dm fb=ss++[c]→gy h x.len x.fk b.len e.len=true→jS x=true→gU b=true→gU e=true→x.Wf→b.Wf→e.Wf→
  ix cf.vs cf.cs ret h x (bW (fO cf.vs cf.cs ret b (ss++[c]) [] lp)) (bW (fO cf.vs cf.cs ret e (ss++[c]) [] lp)) (bW (fO cf.vs cf.cs ret b (ss++[c]) [] (lp+1))) ss c lp=.ok c1→
  dI (aA w (bJ p.B)) false none x vx→dR (aA w (bJ p.B)) false none b vb→dR (aA w (bJ p.B)) false none e vz→fb.length+ (b.sz+e.sz)≤99999990→dW p cf u n aN d m ve F fb g cap ms w→bn cf (aI cf k) d (ai fb) h x b e m≠.lost→
  Calls Tryz.prog 149 #[.pointer (some ⟨p.M,0,none⟩),.pointer (some ⟨F,0,none⟩),Lm t h vx vb vz] w (bY p cf u n aN d F ve (FS F g ms fb) (fun q=>U q.2.1) (fun q=>q.2.2) (fun q=>.returned (.tuple #[.int .i64 q.1,.int .u32 q.2.1])) (bn cf (aI cf k) d (ai fb) h x b e m) w)
theorem sM {fb:List dQ} {ss:List Scope} {c:Scope} (h:dm fb=ss++[c]):∃yI cb,fb=yI++[cb]∧dm yI=ss∧(cb.map fun x=>(x.1,x.2.1.1))=c:=by
 rcases List.eq_nil_or_concat fb with rfl|⟨yI,cb,rfl⟩
 ·simp[dm] at h
 ·simp only[List.concat_eq_append,dm,List.map_append,List.map_cons,List.map_nil] at h⊢;obtain⟨h1,h2⟩:=List.append_inj' h rfl;exact⟨yI,cb,rfl,h1,by simpa using h2⟩
theorem EY {α:Type} {l r:List α} {a:α} {j:Nat} (h:a::r=l.drop j):l[j]? =some a∧r=l.drop (j+1):=by
 have h1:(l.drop j)[0]? =some a:=by rw[←h];rfl
 have h2:(l.drop j).drop 1=r:=by rw[←h];rfl
 rw[List.getElem?_drop] at h1;rw[List.drop_drop] at h2;exact⟨by simpa using h1,h2.symm⟩
theorem ot (fb:List dQ):(dm fb).length=fb.length:=by simp[dm]
theorem EZ (fb:List dQ) (c:dQ):ai (fb++[c])=ai fb++[j5 c]:=by simp[ai]
theorem Nb (p:Pt) (cf:Cf) (u:UT) (n:Nat) (aN:List Nat) (k:Nat) (HS:Hid (WSt p cf u n aN k)):Tr p cf u n aN (k+1):=by
 intro d m ve F fb g cap ms l v ret lp c' w ho Cg hch hv hsz hX ey;obtain⟨ka,kc,rfl⟩:=hv.ay;obtain⟨R,hR⟩:∃z,z=bY p cf u n aN d F ve (FS F g ms fb) (fun q=>U q.2.1) (fun q=>q.2.2) (fun q=>Ending.returned (.tuple #[.int .i64 q.1,.int .u32 q.2.1])) ((aI cf (k+1)).L d (ai fb) l m) w:=⟨_,rfl⟩;rw[←hR];have HR:=af hR;have hh:=af (show(aI cf (k+1)).L d (ai fb) l m=(cM cf (aI cf k) d l (ai fb++[[]]) m).bind fun q m=>.ok (q.1,q.2.1,q.2.2.dropLast) m from rfl);have cL:=af (show cM cf (aI cf k) d l (ai fb++[[]]) m≠.lost from Out.cN (by rw[←hh.out];exact ey));obtain⟨w1,gO⟩:∃x:World,x=w.alloc (.map #[] 0):=⟨_,rfl⟩;have D6:(Instr.makeMap 210 none).run Tryz.prog w=.ok (.map (some w.heap.size)) w1:=by rw[gO];exact run_makeMap 210 w
 have p2:=hX.c.fr.box.cell 0;simp at p2;have hb1:Below w.heap.size w w1:=by rw[gO];exact(Below.refl _ w).alloc (Nat.le_refl _) _
 have hr1:=af (aC hX.c.fr.row hb1);have aB:=af (hX.below hb1);have zU:n≤w1.heap.size:=Nat.le_trans hX.c.me.size hb1.size;have X0:=af hX;have Vi:=af gO;obtain⟨len,hlen⟩:∃z,z=l.len:=⟨_,rfl⟩;rw[←hlen] at hv⊢;have HLEN:=af hlen;have OC:=l.bU;have tB:fb.length≤99999990:=by omega
 have gR:len≤99999990:=by omega
 obtain⟨fl,Rb⟩:∃z,z=fb.length:=⟨_,rfl⟩;have WE:=af Rb;rw[←Rb] at p2 hr1 tB hsz;have kW:=af hsz;have KT:Hid (∀wr,aU (fun b=>p.TE ve b∨FS F g ms fb b) w.heap.size w wr→dR (aA wr (bJ p.B)) false none l (.slice ka len kc)):=af fun wr hk=>hv.sub (hX.oq hk)
 have OK:=af (And.intro ho (And.intro Cg hch));have AB:=af OC;clear hR gO hX hb1 hv ho Cg hch ey hlen OC Rb hsz;go_enter Tryz.func123,Tryz.ntmps123;go_wp2_with (at_builtin;go_must (refine aG rfl _ _ 211 rfl n 210 210 (.map none) 1 8 1 Tryz.underlying211 (by kernel_rfl) rfl (by decide) _ fl _ [_] (0,0) hr1.out rfl (by simp[Value.oneCell']) (by unfold maxLen;omega) (by omega) zU rfl rfl ?_);intro v' w' hA;obtain⟨g',cap',rfl⟩:=gL hA.own;have hx2:=aB.c.fr.box.on hA.grown (aB.c.fr.box.not_row hr1.out (by decide));have q2:=hx2.cell 0;simp at q2;have f2:=hx2.free 0;have hA':=af hA;clear hA hx2)
 have hA2:=hA'.out;rw[WE.out] at hA2;obtain⟨g2,nK,hv2,aL,hK2⟩:=X0.push Vi.out hA2 (by have:=WE.out;omega);cases hv2;rw[←WE.out] at aL hK2;have Zd:=af aL;have HK2:=af hK2;have LF:=af (show∀(jU:List dQ) (cty:Scope),dm jU=dm fb++[cty]→jU.length=fl+1 from fun jU cty h=>by
  have:=congrArg List.length h;rw[ot,List.length_append,ot] at this;have h2:=WE.out;simp at this;omega)
 clear aL hK2 hA2 hA' hr1 aB Vi D6 p2 zU
 go_loopw [30] (fun i wr=>∃(j:Nat) (r:aH) (cty:Scope) (jU:List dQ) (g1 iQ:Nat) (zn:List Nat) (m1:MS) (aR:EvS),j+r.len=len∧i=.int .i64 j∧r.bu=l.bu.drop j∧r.sz≤l.sz∧gU r=true∧r.Wf∧fO cf.vs cf.cs ret r (dm fb) cty lp=.ok c'∧dm jU=dm fb++[cty]∧cM cf (aI cf k) d l (ai fb++[[]]) m=cM cf (aI cf k) d r (ai jU) m1∧dW p cf u n aN d m1 aR F jU g1 iQ zn wr∧KS p ve aR (FS F g ms fb) (FS F g1 zn jU) w wr) (fun i _=>len- (intOf i).toNat)
 case atStart=>exact⟨0,l,[],fb++[[]],_,_,_,m,ve,by have:=HLEN.out;omega,rfl,rfl,Nat.le_refl _,OK.1,OK.2.1,OK.2.2,by simp[dm],by rw[EZ];rfl,Zd.out,HK2.out⟩
 case round=>
  clear Zd HK2;obtain⟨j,r,cty,jU,g1,iQ,zn,m1,aR,hj,rfl,hr,hz,hro,Fy,hch,hty,hst,aB,FL⟩:=hrel;have WG:=LF.out jU cty hty;obtain⟨O7,cb,rfl,hty1,hty2⟩:=sM hty;have hfx:O7.length=fl:=by simpa using WG
  have YU:=af aB;have HK1:=af FL;have p2:=aB.c.fr.box.cell 0;simp at p2;have f2:=aB.c.fr.box.free 0;rw[hfx] at p2;have HFX:=af hfx;have Hc:fl+1≤iQ∧iQ≤9223372036854775807:=by
   rcases aB.c.fr.row.2 with⟨q,_⟩|⟨g3,LI,Vm,hv3,_,_,q1,q2,_⟩
   ·cases q
   ·cases hv3;simp at q1;unfold maxLen at q2;exact⟨by omega,by omega⟩
  have POP:=af (show∀(O8:List dQ) (cy:dQ) (g9 Re:Nat) (ms9:List Nat) (m9:MS) (ve9:EvS) (w9:World) (q:Int×Int×Fr),O8.length=fl→dW p cf u n aN d m9 ve9 F (O8++[cy]) g9 Re ms9 w9→KS p ve ve9 (FS F g ms fb) (FS F g9 ms9 (O8++[cy])) w w9→U q.2.1→ai (O8++[cy])=q.2.2→cM cf (aI cf k) d l (ai fb++[[]]) m=.ok q m9→
    R (.returned (.tuple #[.int .i64 q.1,.int .u32 q.2.1])) (w9.setCell ⟨F,0,none⟩ (.slice (some ⟨g9,0,none⟩) fl Re)) from fun O8 cy g9 Re ms9 m9 ve9 w9 q h1 h2 h3 h4 h5 h6=>by
   obtain⟨k1,k2⟩:=h2.pop;rw[h1] at k1 k2;rw[HR.out,hh.out,h6];refine dZ (x:=(q.1,q.2.1,q.2.2.dropLast)) k1 ?_ h4 (h3.trans k2) rfl;rw[←h5];simp[ai])
  clear aB FL WG hfx;cases r with
  |nil=>
   simp only[aH.len,Nat.add_zero] at hj;have HST:=af (show cM cf (aI cf k) d l (ai fb++[[]]) m=.ok (0,0,ai (O7++[cb])) m1 from hst);clear hr hz hro Fy hch hty hst;obtain rfl:len=j:=hj.symm;obtain⟨Vn,Vo⟩:=Hc;have Vp:fl≤iQ:=by omega
   have hwr:IntKind.i64.wrap (fl:Int)=(fl:Int):=IntWalk.i64_in _ (by omega);go_wp2_with fail
   exact POP.out O7 cb g1 iQ zn m1 aR wr (0,0,ai (O7++[cb])) HFX.out YU.out HK1.out U0 rfl HST.out
  | cons h x b e rest=>
   simp only[aH.len] at hj;simp only[aH.sz] at hz;simp only[gU,Bool.and_eq_true] at hro;obtain⟨c1,hs1,hs2⟩:=yA hch;obtain⟨WH,Wu⟩:=EY (show(h,x,b,e)::rest.bu=l.bu.drop j from hr);obtain⟨bk,off,Wv,t,xa,xc,ba,bc,ea,ec,dH,hk2,hk3,hk4,zz⟩:=(KT.out wr HK1.k).kid j h x b e WH;obtain⟨rfl,hlk,rfl⟩:ka=some ⟨bk,off,none⟩∧len=l.len∧kc=Wv:=by simpa using dH
   have sN:bn cf (aI cf k) d (ai (O7++[cb])) h x b e m1≠.lost:=by
    have:=cL.out;rw[hst] at this;exact Out.cN this
   have Q7:=hk2.sub (aZ _ _);obtain⟨a0,a1,a2,a3,a4⟩:=h;obtain⟨y0,y1,y2,y3,y4,y5,y6,y7⟩:=Q7;simp only[] at y1 y2 y3 y4;have BW:=af ((Below.refl wr.heap.size wr).alloc (Nat.le_refl _) (.cells #[.int .i64 t,.int .u8 a1,.string a2,.int .u8 a3,.string a4,.slice xa x.len xc,.slice ba b.len bc,.slice ea e.len ec] 109));have cx:=af (HS.out d m1 aR F (O7++[cb]) g1 iQ zn t ⟨a0,a1,a2,a3,a4⟩ x b e (.slice xa x.len xc) (.slice ba b.len bc) (.slice ea e.len ec) (dm fb) cty c1 ret lp _ hty hro.1 hro.2.2.2.1 hro.2.1 hro.2.2.1 Fy.2.1 Fy.2.2.1 Fy.2.2.2.1 hs1 (hk3.sub (aw BW.out)) (hk4.sub (aw BW.out)) (zz.sub (aw BW.out)) (by have h1:=kW.out;have h2:=HFX.out;simp;omega) (YU.below BW.out) sN);have WI:=af hty;have HS1:=af hs1;have NX:=af (And.intro Wu (And.intro hro.2.2.2.2 (And.intro Fy.2.2.2.2 hs2)));have Kd:j<len:=by omega
   have HJ:=af hj;have HZ:=af hz;have HST:=af hst;have KB:=af (HK1.below BW.out);clear hr hz hro Fy hch hty hst dH hk2 hk3 hk4 zz hs1 hs2 WH Wu hj hlk Hc p2 f2;go_wp2_with fail
   refine cx.mono ?_;intro e9 w2 hp;clear cx;cases ho:bn cf (aI cf k) d (ai (O7++[cb])) ⟨a0,a1,a2,a3,a4⟩ x b e m1 with
   |lost=>exact absurd ho sN
   |stop a b9 m2=>
    rw[ho] at hp;obtain⟨rfl,eI,d2,dC,hK2⟩:=hp;have hz9:=af (show(aI cf (k+1)).L d (ai fb) l m=.stop a b9 m2 by rw[hh.out,HST.out];simp only[cM,ho,Out.bind]);have F1:Hid (bY p cf u n aN d F ve (FS F g ms fb) (fun q:Int×Int×Fr=>U q.2.1) (fun q=>q.2.2) (fun q=>Ending.returned (.tuple #[.int .i64 q.1,.int .u32 q.2.1])) (.stop a b9 m2) w (dy a b9) w2):=af (bQ dC (KB.trans hK2) rfl);clear dC hK2 ho sN;go_wp2_with fail
    refine ar ?_;rw[HR.out,hz9.out];exact F1.out
   | ok q m2=>
    rw[ho] at hp;obtain⟨rfl,hU,eI,Ts,g2,nK,LJ,hb2,aL,hK2⟩:=hp;have hb2:ai Ts=q.2.2:=hb2;have yJ:dm Ts=dm fb++[c1]:=by
     have h1:=Out.yB (sB (pA cf k) d (ai (O7++[cb])) ⟨a0,a1,a2,a3,a4⟩ x b e m1) ho;rw[jM,WI.out,I0 HS1.out,←hb2,jM] at h1;exact h1
    obtain⟨how,v2,fr2⟩:=q;simp only[] at hU hb2⊢;have K2:=af (KB.trans hK2);have X2:=af aL;have pU:=af hb2;have HU:=af hU;have TY2:=af yJ;by_cases hq:how=0
    ·have Rf:=af (show cM cf (aI cf k) d l (ai fb++[[]]) m=cM cf (aI cf k) d rest (ai Ts) m2 by
      rw[HST.out];simp only[cM,ho,Out.bind];rw[if_pos hq,hb2])
     subst hq;clear aL hK2 ho sN hb2 hU yJ;go_wp2_with fail
     exact⟨⟨j+1,rest,c1,Ts,g2,nK,LJ,m2,eI,by have:=HJ.out;omega,by go_num,NX.1,by have:=HZ.out;omega,NX.2.1,NX.2.2.1,NX.2.2.2,TY2.out,Rf.out,X2.out,K2.out⟩,by simp only[intOf];omega⟩
    ·obtain⟨O8,cy,rfl,Nc,hty4⟩:=sM yJ;have Rh:O8.length=fl:=by have:=LF.out _ _ yJ;simpa using this
     have Rf:=af (show cM cf (aI cf k) d l (ai fb++[[]]) m=.ok (how,v2,fr2) m2 by
      rw[HST.out];simp only[cM,ho,Out.bind];rw[if_neg hq])
     have p2:=aL.c.fr.box.cell 0;simp at p2;rw[Rh] at p2;have f2:=aL.c.fr.box.free 0;have Hc:fl+1≤nK∧nK≤9223372036854775807:=by
      rcases aL.c.fr.row.2 with⟨q,_⟩|⟨g3,LI,Vm,hv3,_,_,q1,q2,_⟩
      ·cases q
      ·cases hv3;simp at q1;unfold maxLen at q2;exact⟨by omega,by omega⟩
     obtain⟨Vn,Vo⟩:=Hc;have Vp:fl≤nK:=by omega
     have hwr:IntKind.i64.wrap (fl:Int)=(fl:Int):=IntWalk.i64_in _ (by omega);have HFL2:=af Rh;have hne:(how !=0)=true:=by simpa using hq
     clear aL hK2 ho sN hb2 hU yJ Nc hty4 Rh;go_wp2_with fail
     exact POP.out O8 cy g2 nK LJ m2 eI w2 (how,v2,fr2) HFL2.out X2.out K2.out HU.out pU.out Rf.out
end
section
open Go.Shelf
theorem Out.im {α β:Type} (a:α) (m:MS) (f:α→MS→Out β):(Out.ok a m).bind f=f a m:=rfl
theorem WJ {cf:Cf} {ev:ic} {d:Nat} {fr:Fr} {a0 a3:Int} {a2 a4:ByteArray} {x:az} {b e:aH} {m m1:MS} {z:Unit} (ht:tick cf m=.ok z m1):bn cf ev d fr ⟨a0,1,a2,a3,a4⟩ x b e m=(jo ev d fr x 0 m1).bind fun v m=>.ok (0,0,iE a2 (a3,v) fr) m:=by
 unfold bn;rw[ht,Out.im];exact if_pos (show(1:Int)=1 by decide)
theorem WK {cf:Cf} {ev:ic} {d:Nat} {fr:Fr} {a0 a3:Int} {a2 a4:ByteArray} {x:az} {b e:aH} {m m1:MS} {z:Unit} (ht:tick cf m=.ok z m1):bn cf ev d fr ⟨a0,2,a2,a3,a4⟩ x b e m=(ij cf ev d fr ⟨a0,2,a2,a3,a4⟩ x m1).bind fun fr m=>.ok (0,0,fr) m:=by
 unfold bn;rw[ht,Out.im];exact(if_neg (show¬((2:Int)=1) by decide)).trans (if_pos (show(2:Int)=2 by decide))
theorem WL {cf:Cf} {ev:ic} {d:Nat} {fr:Fr} {a0 a3:Int} {a2 a4:ByteArray} {x:az} {b e:aH} {m m1:MS} {z:Unit} (ht:tick cf m=.ok z m1):bn cf ev d fr ⟨a0,3,a2,a3,a4⟩ x b e m=(gB cf ev d fr ⟨a0,3,a2,a3,a4⟩ x m1).bind fun _ m=>.ok (0,0,fr) m:=by
 unfold bn;rw[ht,Out.im];exact(if_neg (show¬((3:Int)=1) by decide)).trans ((if_neg (show¬((3:Int)=2) by decide)).trans (if_pos (show(3:Int)=3 by decide)))
theorem WM {cf:Cf} {ev:ic} {d:Nat} {fr:Fr} {a0 a3:Int} {a2 a4:ByteArray} {x:az} {b e:aH} {m m1:MS} {z:Unit} (ht:tick cf m=.ok z m1):bn cf ev d fr ⟨a0,4,a2,a3,a4⟩ x b e m=(jo ev d fr x 0 m1).bind fun c m=>if c=0 then ev.L d fr e m else ev.L d fr b m:=by
 unfold bn;rw[ht,Out.im];exact(if_neg (show¬((4:Int)=1) by decide)).trans ((if_neg (show¬((4:Int)=2) by decide)).trans ((if_neg (show¬((4:Int)=3) by decide)).trans (if_pos (show(4:Int)=4 by decide))))
theorem WN {cf:Cf} {ev:ic} {d:Nat} {fr:Fr} {a0 a3:Int} {a2 a4:ByteArray} {x:az} {b e:aH} {m m1:MS} {z:Unit} (ht:tick cf m=.ok z m1):bn cf ev d fr ⟨a0,5,a2,a3,a4⟩ x b e m=match x.bu[0]? with|some a=>ev.W d fr a.1 a.2 b m1|none=>.lost:=by
 unfold bn;rw[ht,Out.im];exact(if_neg (show¬((5:Int)=1) by decide)).trans ((if_neg (show¬((5:Int)=2) by decide)).trans ((if_neg (show¬((5:Int)=3) by decide)).trans ((if_neg (show¬((5:Int)=4) by decide)).trans (if_pos (show(5:Int)=5 by decide)))))
theorem WO {cf:Cf} {ev:ic} {d:Nat} {fr:Fr} {a0 a3:Int} {a2 a4:ByteArray} {x:az} {b e:aH} {m m1:MS} {z:Unit} (ht:tick cf m=.ok z m1):bn cf ev d fr ⟨a0,6,a2,a3,a4⟩ x b e m=.ok (1,0,fr) m1:=by
 unfold bn;rw[ht,Out.im];exact(if_neg (show¬((6:Int)=1) by decide)).trans ((if_neg (show¬((6:Int)=2) by decide)).trans ((if_neg (show¬((6:Int)=3) by decide)).trans ((if_neg (show¬((6:Int)=4) by decide)).trans ((if_neg (show¬((6:Int)=5) by decide)).trans (if_pos (show(6:Int)=6 by decide))))))
theorem WQ {cf:Cf} {ev:ic} {d:Nat} {fr:Fr} {a0 a3:Int} {a2 a4:ByteArray} {x:az} {b e:aH} {m m1:MS} {z:Unit} (ht:tick cf m=.ok z m1):bn cf ev d fr ⟨a0,7,a2,a3,a4⟩ x b e m=.ok (2,0,fr) m1:=by
 unfold bn;rw[ht,Out.im];exact(if_neg (show¬((7:Int)=1) by decide)).trans ((if_neg (show¬((7:Int)=2) by decide)).trans ((if_neg (show¬((7:Int)=3) by decide)).trans ((if_neg (show¬((7:Int)=4) by decide)).trans ((if_neg (show¬((7:Int)=5) by decide)).trans ((if_neg (show¬((7:Int)=6) by decide)).trans (if_pos (show(7:Int)=7 by decide)))))))
theorem WR {cf:Cf} {ev:ic} {d:Nat} {fr:Fr} {a0 a3:Int} {a2 a4:ByteArray} {x:az} {b e:aH} {m m1:MS} {z:Unit} (ht:tick cf m=.ok z m1):bn cf ev d fr ⟨a0,8,a2,a3,a4⟩ x b e m=(jo ev d fr x 0 m1).bind fun v m=>.ok (3,v,fr) m:=by
 unfold bn;rw[ht,Out.im];exact(if_neg (show¬((8:Int)=1) by decide)).trans ((if_neg (show¬((8:Int)=2) by decide)).trans ((if_neg (show¬((8:Int)=3) by decide)).trans ((if_neg (show¬((8:Int)=4) by decide)).trans ((if_neg (show¬((8:Int)=5) by decide)).trans ((if_neg (show¬((8:Int)=6) by decide)).trans ((if_neg (show¬((8:Int)=7) by decide)).trans (if_pos (show(8:Int)=8 by decide))))))))
theorem WS {cf:Cf} {ev:ic} {d:Nat} {fr:Fr} {a0 a3:Int} {a2 a4:ByteArray} {x:az} {b e:aH} {m m1:MS} {z:Unit} (ht:tick cf m=.ok z m1):bn cf ev d fr ⟨a0,9,a2,a3,a4⟩ x b e m=(jo ev d fr x 0 m1).bind fun _ m=>.ok (0,0,fr) m:=by
 unfold bn;rw[ht,Out.im];exact(if_neg (show¬((9:Int)=1) by decide)).trans ((if_neg (show¬((9:Int)=2) by decide)).trans ((if_neg (show¬((9:Int)=3) by decide)).trans ((if_neg (show¬((9:Int)=4) by decide)).trans ((if_neg (show¬((9:Int)=5) by decide)).trans ((if_neg (show¬((9:Int)=6) by decide)).trans ((if_neg (show¬((9:Int)=7) by decide)).trans ((if_neg (show¬((9:Int)=8) by decide)).trans (if_pos (show(9:Int)=9 by decide)))))))))
theorem Bj {h:SH} {n nb ne:Nat} {fk:Int} (hk:gy h n fk nb ne=true):(h.kind=1∨h.kind=2∨h.kind=3∨h.kind=4∨h.kind=5∨h.kind=6∨h.kind=7∨h.kind=8∨h.kind=9)∧(h.kind=9→1≤n):=by
 obtain⟨a0,a1,a2,a3,a4⟩:=h;simp only[];by_cases h9:a1=9
 ·subst h9;rw[vA] at hk;simp only[Bool.and_eq_true] at hk;have:=gS hk.1;simp[this]
 ·refine⟨?_,fun q=>absurd q h9⟩;by_cases hq:a1=1∨a1=2∨a1=3∨a1=4∨a1=5∨a1=6∨a1=7∨a1=8
  ·rcases hq with q|q|q|q|q|q|q|q<;>simp[q]
  ·simp only[not_or] at hq;rw[GK a0 a1 a2 a3 a4 n fk nb ne ⟨hq.1,hq.2.1,hq.2.2.1,hq.2.2.2.1,hq.2.2.2.2.1,hq.2.2.2.2.2.1,hq.2.2.2.2.2.2.1,hq.2.2.2.2.2.2.2,h9⟩] at hk;cases hk
theorem Nd {vs:VS} {cs:dM} {ret:Int} {a0 a3:Int} {a2 a4:ByteArray} {x:az} {rb re rw:Except Int Unit} {ss:List Scope} {c c':Scope} {lp:Nat} (hs:ix vs cs ret ⟨a0,1,a2,a3,a4⟩ x rb re rw ss c lp=.ok c'):ez a2 (ss++[c])=none:=by
 unfold ix at hs;cases hx:jn vs cs (ss++[c]) x with
 |error e=>rw[hx] at hs;cases hs
 |ok ts=>
  rw[hx] at hs;simp only[if_true] at hs;cases hq:ez a2 (ss++[c]) with
  |none=>rfl
  |some t=>rw[hq] at hs;simp at hs
theorem Bl {s:ByteArray} {fb:List dQ} {c:dQ} (h:cJ s (fb++[c])=none):getM s c=none:=by
 have h2:∀(fb:List dQ),cJ s (fb++[c])=none→getM s c=none:=by
  intro fb
  induction fb with
  |nil=>intro h;rw[List.nil_append,mS] at h;simpa[cJ] using h
  |cons a r ih=>
   intro h;rw[List.cons_append,mS] at h;cases hq:cJ s (r++[c]) with
   |none=>exact ih hq
   |some y=>rw[hq] at h;cases h
 exact h2 fb h
theorem wD (p:Pt) (cf:Cf) (u:UT) (n:Nat) (aN:List Nat) (k:Nat) (tW:cf.Rg) (ha:cf.jd=gm) (dU:cf.allowed≤65536) (HE:Hid (CY p cf u n aN k)) (HL:Hid (Tr p cf u n aN k)) (HW:Hid (Zc p cf u n aN k)):WSt p cf u n aN k:=by
 intro d m ve F fb g cap ms t h x b e vx vb vz ss c c1 ret lp w hty OT CT qR VP Ky Hg hew hst C3 l6 Nf hsz hX ey;obtain⟨xa,xc,rfl⟩:=C3.ay;obtain⟨ba,bc,rfl⟩:=l6.ay;obtain⟨ea,ec,rfl⟩:=Nf.ay;obtain⟨R,hR⟩:∃z,z=bY p cf u n aN d F ve (FS F g ms fb) (fun q=>U q.2.1) (fun q=>q.2.2) (fun q=>Ending.returned (.tuple #[.int .i64 q.1,.int .u32 q.2.1])) (bn cf (aI cf k) d (ai fb) h x b e m) w:=⟨_,rfl⟩;rw[←hR];have HR:=af hR;clear hR;have oB:=Bj OT;have kP:=vJ OT;obtain⟨a0,a1,a2,a3,a4⟩:=h;simp only[] at oB kP⊢;have cF:=(Below.refl w.heap.size w).alloc (Nat.le_refl _) (.cells #[.int .i64 t,.int .u8 a1,.string a2,.int .u8 a3,.string a4,.slice xa x.len xc,.slice ba b.len bc,.slice ea e.len ec] 109);have cG:=hX.below cF;have hb0:=Bx.new w #[.int .i64 t,.int .u8 a1,.string a2,.int .u8 a3,.string a4,.slice xa x.len xc,.slice ba b.len bc,.slice ea e.len ec] 109;have cs:=af (vY p cf n d m ve _ dU hX.inv.steps cG.c.me);have V0:=af (KV.of p ve cF);have qU:=af ey;by_cases hc:cf.allowed≤m.steps
 ·have ht:tick cf m=.stop 3 0 m:=by unfold tick;rw[if_pos hc]
  rw[ht] at cs;have hh:=af (show bn cf (aI cf k) d (ai fb) ⟨a0,a1,a2,a3,a4⟩ x b e m=.stop 3 0 m by unfold bn;rw[ht];rfl);clear hty OT CT qR VP Ky Hg hew hst C3 l6 Nf hsz hX ey oB kP cF cG hb0 hc ht HE HL HW tW ha dU;go_enter Tryz.func149,Tryz.ntmps149;go_wp2_with fail
  refine cs.mono ?_;rintro e9 w1 ⟨rfl,aR,d1,pZ,FL,hV1⟩;have F1:Hid (bY p cf u n aN d F ve (FS F g ms fb) (fun q:Int×Int×Fr=>U q.2.1) (fun q=>q.2.2) (fun q=>Ending.returned (.tuple #[.int .i64 q.1,.int .u32 q.2.1])) (.stop 3 0 m) w (dy 3 0) w1):=af (bQ pZ ((V0.trans ⟨FL,hV1⟩).ks (FS F g ms fb)) rfl);clear pZ FL hV1 cs;go_wp2_with fail
  refine ar ?_;rw[HR.out,hh.out];exact F1.out
 have ht:tick cf m=.ok () {m with steps:=m.steps+1}:=by unfold tick;rw[if_neg hc]
 have Kw:Inv cf aN {m with steps:=m.steps+1}:=by have:=lI (cf:=cf) m hX.inv;rw[ht] at this;exact this
 have hr1:MS.Rg {m with steps:=m.steps+1}:=hX.rg;have CS:=af (fun(e:Ending) (w1:World) (hp:aX p cf.allowed n d _ ve (fun _=>.returned (.tuple #[])) (tick cf m) _ e w1)=>aX.lift (P:=fun _=>True) cG (by rw[ht];exact Kw) (by rw[ht];exact⟨trivial,hr1⟩) hp);generalize ({m with steps:=m.steps+1}:MS)=m1 at ht Kw hr1;have M0:=af hb0;have Jh:=af cG;clear Kw hr1 hb0;go_enter Tryz.func149,Tryz.ntmps149;go_wp2_with fail
 refine cs.mono ?_;intro e9 w1 hp;have h1:=CS.out e9 w1 hp;rw[ht] at h1;obtain⟨rfl,-,aR,aB,hV1⟩:=h1;have dT:=hV1.k.box M0.out M0.lt (Jh.c.me.dB M0.out (by decide) (by decide) (by decide));have e0:w1.cell? ⟨w.heap.size,0,none⟩=some (.int .i64 t):=by simpa using dT.cell 0
 have e1:w1.cell? ⟨w.heap.size,1,none⟩=some (.int .u8 a1):=by simpa using dT.cell 1
 have e2:w1.cell? ⟨w.heap.size,2,none⟩=some (.string a2):=by simpa using dT.cell 2
 have e3:w1.cell? ⟨w.heap.size,3,none⟩=some (.int .u8 a3):=by simpa using dT.cell 3
 have e4:w1.cell? ⟨w.heap.size,4,none⟩=some (.string a4):=by simpa using dT.cell 4
 have e5:w1.cell? ⟨w.heap.size,5,none⟩=some (.slice xa x.len xc):=by simpa using dT.cell 5
 have e6:w1.cell? ⟨w.heap.size,6,none⟩=some (.slice ba b.len bc):=by simpa using dT.cell 6
 have e7:w1.cell? ⟨w.heap.size,7,none⟩=some (.slice ea e.len ec):=by simpa using dT.cell 7
 have V1:=af (V0.trans hV1);have lU:=af dT;have X1:=af aB;have HT:=af ht;have oM:=(aw (B:=p.B) cF);have Ng:=cG.c.cells hV1.k;have TX:=af ((C3.sub oM).sub Ng);have TB:=af ((l6.sub oM).sub Ng);have TE9:=af ((Nf.sub oM).sub Ng);obtain⟨ts,zx,hs1,WT,hs2,hs3,zZ,hs5⟩:=Be hst;rw[←hty] at zx;have TS:=af zx;have OX:=af (And.intro CT Ky);have OB:=af (And.intro qR Hg);have OE:=af (And.intro VP hew);have ST:=af hst;have TY:=af hty;have AR:=af kP;have SZ:=af hsz;have S2:=af hs2;have S3:=af hs3;have S4:=af zZ;have S5:=af hs5;have K9:=af oB.2;have HA:=af ha;have HRG:=af tW;have hn:=oB.1;clear hp cs CS ht hc dT hV1 M0 Jh cG V0 hX aB hty OT CT qR VP Ky Hg hew hst C3 l6 Nf hsz ey oB kP cF oM Ng zx hs1 WT hs2 hs3 zZ hs5 ha tW dU;rcases hn with hn|hn|hn|hn|hn|hn|hn|hn|hn<;>subst hn
 ·have hl0:0<x.len:=by have:=AR.out;exact of_decide_eq_true this
  obtain⟨kd,ou⟩:=az.jg hl0;obtain⟨b0,o0,Ri,t0,ya,yc,jx,jy,tK⟩:=TX.kid 0 kd ou;obtain⟨rfl,rfl⟩:xa=some ⟨b0,o0,none⟩∧xc=Ri:=by simpa using jx
  obtain⟨jw,hx0,-⟩:=dL OX.1 TS.out 0 kd ou;have hw0:=az.fW OX.2 0 kd ou;have Nh:jL w1 b0 o0 t0 kd (.slice ya kd.2.len yc):=by simpa only[Nat.zero_mul,Nat.add_zero] using jy.sub (aZ _ _)
  have hh:=af (show bn cf (aI cf k) d (ai fb) ⟨a0,1,a2,a3,a4⟩ x b e m=_ by rw[WJ HT.out,gY ou]);have cL:(aI cf k).E d (ai fb) kd.1 kd.2 m1≠.lost:=Out.cN (by rw[←hh.out];exact qU.out);have cx:=af (HE.out d m1 aR F fb g cap ms t0 kd.1 kd.2 _ jw w1 hx0 hw0.1 hw0.2 tK X1.out cL);have xl:=af hl0;obtain⟨len,hlen⟩:∃z,z=x.len:=⟨_,rfl⟩;rw[←hlen] at e5 hl0;obtain⟨⟨c0,c1,c2,c3,c4,c5⟩,kk⟩:=kd;obtain⟨y0,y1,y2,y3,y4,y5,y6⟩:=Nh;simp only[] at y1 y2 y3 y4 y5 y6 cx hh cL;have EB:=af (And.intro e6 (And.intro e7 (And.intro e2 e3)));clear jx jy tK hx0 hw0 ou hlen e0 e2 e3 e4 e6 e7;go_wp2_with fail
  refine cx.mono ?_;intro e9 w2 hp;clear cx;cases ho:(aI cf k).E d (ai fb) ⟨c0,c1,c2,c3,c4,c5⟩ kk m1 with
  |lost=>exact absurd ho cL
  |stop a b9 m2=>
   rw[ho] at hp hh;have hh:=af (show _=Out.stop a b9 m2 from hh.out);obtain⟨rfl,eI,d2,dC,hV2⟩:=hp;have F1:Hid (bY p cf u n aN d F ve (FS F g ms fb) (fun q:Int×Int×Fr=>U q.2.1) (fun q=>q.2.2) (fun q=>Ending.returned (.tuple #[.int .i64 q.1,.int .u32 q.2.1])) (.stop a b9 m2) w (dy a b9) w2):=af (bQ dC ((V1.trans hV2).ks (FS F g ms fb)) rfl);clear dC hV2 ho cL;go_wp2_with fail
   refine ar ?_;rw[HR.out,hh.out];exact F1.out
  |ok v m2=>
   rw[ho] at hp hh;obtain⟨rfl,hU,eI,aL,hV2⟩:=hp;have hh:=af (show bn cf (aI cf k) d (ai fb) ⟨a0,1,a2,a3,a4⟩ x b e m=.ok (0,0,iE a2 (a3,v) (ai fb)) m2 from hh.out);have X2:=af aL;have V2:=af (V1.trans hV2);have UV:=af hU;have KW:=af hV2;have pU:=af (hV2.k.box lU.out lU.lt (X1.c.me.dB lU.out (by decide) (by decide) (by decide)));clear aL hV2 hU ho cL y0 y1 y2 y3 y4 y5 y6 e1;have WT:=Nd ST.out;rw[←TY.out,uF] at WT;obtain⟨yI,cb,hfb,-,-⟩:=sM TY.out;subst hfb;have Mf:getM a2 cb=none:=Bl (Option.map_eq_none_iff.1 WT);have GN:=af Mf;clear WT Mf;have zv:=X2.c.fr;have hml:ms.length=yI.length+1:=by have:=zv.len;simpa using this
   have hlt:yI.length<ms.length:=by omega
   have hm0e:∃z,z=ms[yI.length]:=⟨_,rfl⟩;obtain⟨m0,pd⟩:=hm0e;have Rj:=af (show ms[yI.length]? =some m0 by rw[List.getElem?_eq_getElem hlt,pd]);have kA:Mp w2 m0 (lY cb):=by have:=zv.maps yI.length hlt (by simp);rw[←pd] at this;simpa using this
   have HMP:=af kA;have Tb:w2.cell? ⟨F,0,none⟩=some (.slice (some ⟨g,0,none⟩) (yI.length+1) cap):=by simpa using zv.box.cell 0
   have hgc:w2.cell? ⟨g,yI.length,none⟩=some (.map (some m0)):=by rw[zv.row.cellAt yI.length (by simp)];simp[pd]
   have nF:¬(fun b=>p.TE eI b∨b=m0) F:=fun q=>q.elim (X2.c.me.dB zv.box (by decide) (by decide) (by decide)) fun q=>zv.box.dF kA q.symm
   have nG:¬(fun b=>p.TE eI b∨b=m0) g:=fun q=>q.elim (X2.c.me.other zv.row (by decide) (by decide) (by decide) rfl) fun q=>jc zv.row kA q.symm
   have nB:¬(fun b=>p.TE eI b∨b=m0) w.heap.size:=fun q=>q.elim (X2.c.me.dB pU.out (by decide) (by decide) (by decide)) fun q=>pU.dF kA q.symm
   have G1:=af (show∀w9,(aU (fun b=>p.TE eI b∨b=m0) w2.heap.size w2) w9→w9.cell? ⟨F,0,none⟩=some (.slice (some ⟨g,0,none⟩) (yI.length+1) cap) from fun w9 hk=>hk.at Tb nF);have G2:=af (show∀w9,(aU (fun b=>p.TE eI b∨b=m0) w2.heap.size w2) w9→w9.cell? ⟨g,yI.length,none⟩=some (.map (some m0)) from fun w9 hk=>hk.at hgc nG);have G3:=af (show∀w9,(aU (fun b=>p.TE eI b∨b=m0) w2.heap.size w2) w9→w9.cell? ⟨w.heap.size,2,none⟩=some (.string a2) from fun w9 hk=>hk.at (by simpa using pU.cell 2) nB);have G4:=af (show∀w9,(aU (fun b=>p.TE eI b∨b=m0) w2.heap.size w2) w9→w9.cell? ⟨w.heap.size,3,none⟩=some (.int .u8 a3) from fun w9 hk=>hk.at (by simpa using pU.cell 3) nB);have HFN:=af (show yI.length≤99999990 by have:=SZ.out;simp at this;omega);obtain⟨fl,tB⟩:∃z,z=yI.length:=⟨_,rfl⟩;rw[←tB] at G1 G2 HFN;have hflb:=HFN.out;have hwr:IntKind.i64.wrap (fl:Int)=(fl:Int):=IntWalk.i64_in _ (by omega);have WE:=af tB;clear zv hml hlt pd kA Tb hgc nF nG nB tB;go_wp2_with fail
   refine wp_region_held_drew (S:=(aU (fun b=>p.TE eI b∨b=m0) w2.heap.size w2)) (by kernel_rfl) (aU.of (Below.refl _ _).drew) (fun hHeld=>?_);have X3:=af (X2.below (Below.refl w2.heap.size w2).drew);have V3:=af (V2.below (Below.refl w2.heap.size w2).drew);have M3:=af (HMP.mono (Below.refl w2.heap.size w2).drew);have K3:=af hHeld;generalize w2.drew=w3 at X3 V3 M3 K3 hHeld⊢;refine tk 0 ?_;refine tk 1 ?_;refine tk 2 ?_;refine tk 3 ?_ (hy:=by intro w' hSw;have q:=G1.out w' hSw;go_simp;(try with_reducible rfl));refine tk 4 ?_;refine tk 5 ?_;refine tk 6 ?_;refine tk 7 ?_ (hy:=by intro w' hSw;have q:=G1.out w' hSw;go_simp;(try with_reducible rfl));refine tk 8 ?_;refine tk 9 ?_;refine tk 10 ?_ (hy:=by intro w' hSw;have hii:(fl:Int)<(fl:Int)+1:=(by omega);go_simp;(try with_reducible rfl));refine tk 11 ?_ (hy:=by intro w' hSw;have q:=G2.out w' hSw;go_simp;(try with_reducible rfl));refine tk 12 ?_;refine tk 13 ?_ (hy:=by intro w' hSw;have q:=G3.out w' hSw;go_simp;(try with_reducible rfl));refine tk 14 ?_;refine tk 15 ?_;refine tk 16 ?_ (hy:=by intro w' hSw;have q:=G4.out w' hSw;go_simp;(try with_reducible rfl));refine tk 17 ?_;refine tr 18 fun K hK=>?_
   go_simp;have hk4:(aU (fun b=>p.TE eI b∨b=m0) w2.heap.size w2) (w3.alloc (.cells #[.int .u32 v,.int .u8 a3] 201)):=K3.trans (aU.of (((Below.refl w3.heap.size w3).alloc (Nat.le_refl _) _).mono K3.size));have K4:=af hk4;have M4:=af (M3.al (.cells #[.int .u32 v,.int .u8 a3] 201));refine hK.out _ _ hk4 (fun hHeld=>?_);clear hK K
   try simp only[bK,bL,bM,bN,bO]
   clear hk4;obtain⟨w5,hrun,Ni,Rk,Jk⟩:=M4.update sq bm a2 (.pointer (some ⟨w3.heap.size,0,none⟩));obtain⟨X5,K5⟩:=X3.give GN.out UV.out (by have:=Rj.out;exact this) rfl Ni Jk;have zz:(aU (fun b=>p.TE eI b∨b=m0) w2.heap.size w2) w5:=K4.trans (aU.gr Ni K4.size fun k e=>by cases e;exact .inl (.inr rfl));have HX5:=af X5;have HK5:=af K5;have HK6:=af zz;clear X5 K5 Ni Rk Jk zz;refine tr 19 fun K hK=>?_
   go_simp;refine hK.out _ _ HK6.out (fun hHeld=>?_);clear hK K
   try simp only[bK,bL,bM,bN,bO]
   refine td ?_;clear hrun;go_wp2_with fail
   rw[HR.out,hh.out];exact dZ HX5.out (Bg _ _ _ _) U0 ((V3.ks _).trans HK5.out) rfl
 ·obtain⟨Ww,Bo⟩:=S2.out (by trivial);rw[←TY.out] at Bo;have hh:=af (show bn cf (aI cf k) d (ai fb) ⟨a0,2,a2,a3,a4⟩ x b e m=(ij cf (aI cf k) d (ai fb) ⟨a0,2,a2,a3,a4⟩ x m1).bind fun fr m=>.ok (0,0,fr) m from WK HT.out);have sN:=af (show ij cf (aI cf k) d (ai fb) ⟨a0,2,a2,a3,a4⟩ x m1≠.lost from Out.cN (by rw[←hh.out];exact qU.out));have cx:=af (Q9 p cf u n aN k d m1 aR F fb g cap ms t a0 2 a3 a2 a4 x xa ba ea xc b.len bc e.len ec Ww ts w1 HA.out HE TS.out OX.1 OX.2 TX.out X1.out (by have:=AR.out;exact of_decide_eq_true this) Bo sN.out);clear Bo;go_wp2_with fail
  refine cx.mono ?_;intro e9 w3 hp;clear cx;cases kE:ij cf (aI cf k) d (ai fb) ⟨a0,2,a2,a3,a4⟩ x m1 with
  |lost=>exact absurd kE sN.out
  |stop a b9 m3=>
   rw[kE] at hp hh;obtain⟨rfl,eI,d2,dC,hK2⟩:=hp;have hh:=af (show _=Out.stop a b9 m3 from hh.out);have F1:Hid (bY p cf u n aN d F ve (FS F g ms fb) (fun q:Int×Int×Fr=>U q.2.1) (fun q=>q.2.2) (fun q=>Ending.returned (.tuple #[.int .i64 q.1,.int .u32 q.2.1])) (.stop a b9 m3) w (dy a b9) w3):=af (bQ dC ((V1.ks (FS F g ms fb)).trans hK2) rfl);clear kE dC hK2;go_wp2_with fail
   refine ar ?_;rw[HR.out,hh.out];exact F1.out
  |ok q m3=>
   rw[kE] at hp hh;obtain⟨rfl,-,eI,Ts,g2,nK,LJ,hb2,aL,hK2⟩:=hp;have hh:=af (show bn cf (aI cf k) d (ai fb) ⟨a0,2,a2,a3,a4⟩ x b e m=Out.ok (0,0,q) m3 from hh.out);have F1:Hid (bY p cf u n aN d F ve (FS F g ms fb) (fun q:Int×Int×Fr=>U q.2.1) (fun q=>q.2.2) (fun q=>Ending.returned (.tuple #[.int .i64 q.1,.int .u32 q.2.1])) (.ok (0,0,q) m3) w (.returned (.tuple #[.int .i64 0,.int .u32 0])) w3):=af (dZ aL hb2 U0 ((V1.ks (FS F g ms fb)).trans hK2) rfl);clear kE hb2 aL hK2;go_wp2_with fail
   rw[HR.out,hh.out];exact F1.out
 ·obtain⟨Ww,Bo⟩:=S3.out (by trivial);rw[←TY.out] at Bo;have hh:=af (show bn cf (aI cf k) d (ai fb) ⟨a0,3,a2,a3,a4⟩ x b e m=(gB cf (aI cf k) d (ai fb) ⟨a0,3,a2,a3,a4⟩ x m1).bind fun _ m=>.ok (0,0,ai fb) m from WL HT.out);have sN:=af (show gB cf (aI cf k) d (ai fb) ⟨a0,3,a2,a3,a4⟩ x m1≠.lost from Out.cN (by rw[←hh.out];exact qU.out));have cx:=af (Ra p cf u n aN k d m1 aR F fb g cap ms t a0 3 a3 a2 a4 x xa ba ea xc b.len bc e.len ec Ww ts w1 HA.out HE TS.out OX.1 OX.2 TX.out X1.out (by have:=AR.out;exact of_decide_eq_true this) Bo sN.out);clear Bo;go_wp2_with fail
  refine cx.mono ?_;intro e9 w3 hp;clear cx;cases kE:gB cf (aI cf k) d (ai fb) ⟨a0,3,a2,a3,a4⟩ x m1 with
  |lost=>exact absurd kE sN.out
  |stop a b9 m3=>
   rw[kE] at hp hh;obtain⟨rfl,eI,d2,dC,hK2⟩:=hp;have hh:=af (show _=Out.stop a b9 m3 from hh.out);have F1:Hid (bY p cf u n aN d F ve (FS F g ms fb) (fun q:Int×Int×Fr=>U q.2.1) (fun q=>q.2.2) (fun q=>Ending.returned (.tuple #[.int .i64 q.1,.int .u32 q.2.1])) (.stop a b9 m3) w (dy a b9) w3):=af (bQ dC ((V1.ks (FS F g ms fb)).trans hK2) rfl);clear kE dC hK2;go_wp2_with fail
   refine ar ?_;rw[HR.out,hh.out];exact F1.out
  |ok q m3=>
   rw[kE] at hp hh;obtain⟨rfl,-,eI,Ts,g2,nK,LJ,hb2,aL,hK2⟩:=hp;have hh:=af (show bn cf (aI cf k) d (ai fb) ⟨a0,3,a2,a3,a4⟩ x b e m=Out.ok (0,0,ai fb) m3 from hh.out);have F1:Hid (bY p cf u n aN d F ve (FS F g ms fb) (fun q:Int×Int×Fr=>U q.2.1) (fun q=>q.2.2) (fun q=>Ending.returned (.tuple #[.int .i64 q.1,.int .u32 q.2.1])) (.ok (0,0,ai fb) m3) w (.returned (.tuple #[.int .i64 0,.int .u32 0])) w3):=af (dZ aL hb2 U0 ((V1.ks (FS F g ms fb)).trans hK2) rfl);clear kE hb2 aL hK2;go_wp2_with fail
   rw[HR.out,hh.out];exact F1.out
 ·have hl0:0<x.len:=by have:=AR.out;exact of_decide_eq_true this
  obtain⟨kd,ou⟩:=az.jg hl0;obtain⟨b0,o0,Ri,t0,ya,yc,jx,jy,tK⟩:=TX.kid 0 kd ou;obtain⟨rfl,rfl⟩:xa=some ⟨b0,o0,none⟩∧xc=Ri:=by simpa using jx
  obtain⟨jw,hx0,-⟩:=dL OX.1 TS.out 0 kd ou;have hw0:=az.fW OX.2 0 kd ou;have Nh:jL w1 b0 o0 t0 kd (.slice ya kd.2.len yc):=by simpa only[Nat.zero_mul,Nat.add_zero] using jy.sub (aZ _ _)
  have hh:=af (show bn cf (aI cf k) d (ai fb) ⟨a0,4,a2,a3,a4⟩ x b e m=_ by rw[WM HT.out,gY ou]);have cL:(aI cf k).E d (ai fb) kd.1 kd.2 m1≠.lost:=Out.cN (by rw[←hh.out];exact qU.out);have cx:=af (HE.out d m1 aR F fb g cap ms t0 kd.1 kd.2 _ jw w1 hx0 hw0.1 hw0.2 tK X1.out cL);have xl:=af hl0;obtain⟨len,hlen⟩:∃z,z=x.len:=⟨_,rfl⟩;rw[←hlen] at e5 hl0;obtain⟨⟨c0,c1,c2,c3,c4,c5⟩,kk⟩:=kd;obtain⟨y0,y1,y2,y3,y4,y5,y6⟩:=Nh;simp only[] at y1 y2 y3 y4 y5 y6 cx hh cL;have EB:=af (And.intro e6 (And.intro e7 (And.intro e2 e3)));clear jx jy tK hx0 hw0 ou hlen e0 e2 e3 e4 e6 e7;go_wp2_with fail
  refine cx.mono ?_;intro e9 w2 hp;clear cx;cases ho:(aI cf k).E d (ai fb) ⟨c0,c1,c2,c3,c4,c5⟩ kk m1 with
  |lost=>exact absurd ho cL
  |stop a b9 m2=>
   rw[ho] at hp hh;have hh:=af (show _=Out.stop a b9 m2 from hh.out);obtain⟨rfl,eI,d2,dC,hV2⟩:=hp;have F1:Hid (bY p cf u n aN d F ve (FS F g ms fb) (fun q:Int×Int×Fr=>U q.2.1) (fun q=>q.2.2) (fun q=>Ending.returned (.tuple #[.int .i64 q.1,.int .u32 q.2.1])) (.stop a b9 m2) w (dy a b9) w2):=af (bQ dC ((V1.trans hV2).ks (FS F g ms fb)) rfl);clear dC hV2 ho cL;go_wp2_with fail
   refine ar ?_;rw[HR.out,hh.out];exact F1.out
  | ok v m2=>
   rw[ho] at hp hh;obtain⟨rfl,hU,eI,aL,hV2⟩:=hp;have hh:=af (show bn cf (aI cf k) d (ai fb) ⟨a0,4,a2,a3,a4⟩ x b e m=(if v=0 then(aI cf k).L d (ai fb) e m2 else(aI cf k).L d (ai fb) b m2) from hh.out);have X2:=af aL;have V2:=af (V1.trans hV2);have UV:=af hU;have KW:=af hV2;have pU:=af (hV2.k.box lU.out lU.lt (X1.c.me.dB lU.out (by decide) (by decide) (by decide)));clear aL hV2 hU ho cL y0 y1 y2 y3 y4 y5 y6 e1;obtain⟨r1,r2⟩:=S4.out (by trivial);obtain⟨cb9,hcb⟩:=jK r1;obtain⟨ce9,hce⟩:=jK r2;have CB:=af hcb;have CE:=af hce;clear r1 r2 hcb hce;by_cases hv0:v=0
   ·have hg:=af (show bn cf (aI cf k) d (ai fb) ⟨a0,4,a2,a3,a4⟩ x b e m=(aI cf k).L d (ai fb) e m2 by rw[hh.out,if_pos hv0]);clear hh;subst hv0;have cx:=af (HL.out d m2 eI F fb g cap ms e (.slice ea e.len ec) ret lp _ w2 OE.1 OE.2 (by rw[TY.out];exact CE.out) (TE9.sub (X1.c.cells KW.k)) (by have:=SZ.out;omega) X2.out (by rw[←hg.out];exact qU.out));have z7:w2.cell? ⟨w.heap.size,7,none⟩=some (.slice ea e.len ec):=by simpa using pU.cell 7
    go_wp2_with fail
    refine cx.mono ?_;intro e9 w3 hp;clear cx;have FF:=af (show R e9 w3 by rw[HR.out,hg.out];exact bY.chain (V2.ks (FS F g ms fb)) hp);cases kE:(aI cf k).L d (ai fb) e m2 with
    |lost=>exact absurd kE (by rw[←hg.out];exact qU.out)
    |stop a b9 m3=>
     rw[kE] at hp;obtain⟨rfl,-⟩:=hp;clear kE;go_wp2_with fail
     refine ar ?_;exact FF.out
    |ok q m3=>
     rw[kE] at hp;obtain⟨rfl,-⟩:=hp;clear kE;go_wp2_with fail
     exact FF.out
   ·have hg:=af (show bn cf (aI cf k) d (ai fb) ⟨a0,4,a2,a3,a4⟩ x b e m=(aI cf k).L d (ai fb) b m2 by rw[hh.out,if_neg hv0]);clear hh;have wT:(v !=0)=true:=by simpa using hv0
    have cx:=af (HL.out d m2 eI F fb g cap ms b (.slice ba b.len bc) ret lp _ w2 OB.1 OB.2 (by rw[TY.out];exact CB.out) (TB.sub (X1.c.cells KW.k)) (by have:=SZ.out;omega) X2.out (by rw[←hg.out];exact qU.out));have z6:w2.cell? ⟨w.heap.size,6,none⟩=some (.slice ba b.len bc):=by simpa using pU.cell 6
    go_wp2_with fail
    refine cx.mono ?_;intro e9 w3 hp;clear cx;have FF:=af (show R e9 w3 by rw[HR.out,hg.out];exact bY.chain (V2.ks (FS F g ms fb)) hp);cases kE:(aI cf k).L d (ai fb) b m2 with
    |lost=>exact absurd kE (by rw[←hg.out];exact qU.out)
    |stop a b9 m3=>
     rw[kE] at hp;obtain⟨rfl,-⟩:=hp;clear kE;go_wp2_with fail
     refine ar ?_;exact FF.out
    |ok q m3=>
     rw[kE] at hp;obtain⟨rfl,-⟩:=hp;clear kE;go_wp2_with fail
     exact FF.out
 ·have hl0:0<x.len:=by have:=AR.out;exact of_decide_eq_true this
  obtain⟨kd,ou⟩:=az.jg hl0;obtain⟨jw,hx0,-⟩:=dL OX.1 TS.out 0 kd ou;have hw0:=az.fW OX.2 0 kd ou;obtain⟨cb9,hcb⟩:=jK (S5.out (by trivial));have hh:=af (show bn cf (aI cf k) d (ai fb) ⟨a0,5,a2,a3,a4⟩ x b e m=(aI cf k).W d (ai fb) kd.1 kd.2 b m1 by rw[WN HT.out,ou]);have WU:=af (show(aI cf k).W d (ai fb) kd.1 kd.2 b m1≠.lost by rw[←hh.out];exact qU.out);have cx:=af (HW.out d m1 aR F fb g cap ms t ⟨a0,5,a2,a3,a4⟩ x b _ _ (.slice ea e.len ec) kd jw ret (lp+1) _ w1 ou hx0 hw0.1 hw0.2 OB.1 OB.2 (by rw[TY.out];exact hcb) TX.out TB.out ⟨e,TE9.out⟩ (by have:=SZ.out;omega) X1.out WU.out);clear hl0 ou hx0 hw0 hcb;go_wp2_with fail
  refine cx.mono ?_;intro e9 w3 hp;clear cx;have FF:=af (show R e9 w3 by rw[HR.out,hh.out];exact bY.chain (V1.ks (FS F g ms fb)) hp);cases kE:(aI cf k).W d (ai fb) kd.1 kd.2 b m1 with
  |lost=>exact absurd kE WU.out
  |stop a b9 m3=>
   rw[kE] at hp;obtain⟨rfl,-⟩:=hp;clear kE;go_wp2_with fail
   refine ar ?_;exact FF.out
  |ok q m3=>
   rw[kE] at hp;obtain⟨rfl,-⟩:=hp;clear kE;go_wp2_with fail
   exact FF.out
 ·have hh:=af (show bn cf (aI cf k) d (ai fb) ⟨a0,6,a2,a3,a4⟩ x b e m=.ok (1,0,ai fb) m1 from WO HT.out);clear e0 e2 e3 e4 e5 e6 e7;go_wp2_with fail
  rw[HR.out,hh.out];exact dZ X1.out rfl U0 (V1.ks (FS F g ms fb)) rfl
 ·have hh:=af (show bn cf (aI cf k) d (ai fb) ⟨a0,7,a2,a3,a4⟩ x b e m=.ok (2,0,ai fb) m1 from WQ HT.out);clear e0 e2 e3 e4 e5 e6 e7;go_wp2_with fail
  rw[HR.out,hh.out];exact dZ X1.out rfl U0 (V1.ks (FS F g ms fb)) rfl
 ·have hl0:0<x.len:=by have:=AR.out;exact of_decide_eq_true this
  obtain⟨kd,ou⟩:=az.jg hl0;obtain⟨b0,o0,Ri,t0,ya,yc,jx,jy,tK⟩:=TX.kid 0 kd ou;obtain⟨rfl,rfl⟩:xa=some ⟨b0,o0,none⟩∧xc=Ri:=by simpa using jx
  obtain⟨jw,hx0,-⟩:=dL OX.1 TS.out 0 kd ou;have hw0:=az.fW OX.2 0 kd ou;have Nh:jL w1 b0 o0 t0 kd (.slice ya kd.2.len yc):=by simpa only[Nat.zero_mul,Nat.add_zero] using jy.sub (aZ _ _)
  have hh:=af (show bn cf (aI cf k) d (ai fb) ⟨a0,8,a2,a3,a4⟩ x b e m=_ by rw[WR HT.out,gY ou]);have cL:(aI cf k).E d (ai fb) kd.1 kd.2 m1≠.lost:=Out.cN (by rw[←hh.out];exact qU.out);have cx:=af (HE.out d m1 aR F fb g cap ms t0 kd.1 kd.2 _ jw w1 hx0 hw0.1 hw0.2 tK X1.out cL);have xl:=af hl0;obtain⟨len,hlen⟩:∃z,z=x.len:=⟨_,rfl⟩;rw[←hlen] at e5 hl0;obtain⟨⟨c0,c1,c2,c3,c4,c5⟩,kk⟩:=kd;obtain⟨y0,y1,y2,y3,y4,y5,y6⟩:=Nh;simp only[] at y1 y2 y3 y4 y5 y6 cx hh cL;have EB:=af (And.intro e6 (And.intro e7 (And.intro e2 e3)));clear jx jy tK hx0 hw0 ou hlen e0 e2 e3 e4 e6 e7;go_wp2_with fail
  refine cx.mono ?_;intro e9 w2 hp;clear cx;cases ho:(aI cf k).E d (ai fb) ⟨c0,c1,c2,c3,c4,c5⟩ kk m1 with
  |lost=>exact absurd ho cL
  |stop a b9 m2=>
   rw[ho] at hp hh;have hh:=af (show _=Out.stop a b9 m2 from hh.out);obtain⟨rfl,eI,d2,dC,hV2⟩:=hp;have F1:Hid (bY p cf u n aN d F ve (FS F g ms fb) (fun q:Int×Int×Fr=>U q.2.1) (fun q=>q.2.2) (fun q=>Ending.returned (.tuple #[.int .i64 q.1,.int .u32 q.2.1])) (.stop a b9 m2) w (dy a b9) w2):=af (bQ dC ((V1.trans hV2).ks (FS F g ms fb)) rfl);clear dC hV2 ho cL;go_wp2_with fail
   refine ar ?_;rw[HR.out,hh.out];exact F1.out
  |ok v m2=>
   rw[ho] at hp hh;obtain⟨rfl,hU,eI,aL,hV2⟩:=hp;have hh:=af (show bn cf (aI cf k) d (ai fb) ⟨a0,8,a2,a3,a4⟩ x b e m=.ok (3,v,ai fb) m2 from hh.out);have X2:=af aL;have V2:=af (V1.trans hV2);have UV:=af hU;have KW:=af hV2;have pU:=af (hV2.k.box lU.out lU.lt (X1.c.me.dB lU.out (by decide) (by decide) (by decide)));clear aL hV2 hU ho cL y0 y1 y2 y3 y4 y5 y6 e1;go_wp2_with fail
   rw[HR.out,hh.out];exact dZ X2.out rfl UV.out (V2.ks (FS F g ms fb)) rfl
 ·have hl0:0<x.len:=K9.out (by trivial);obtain⟨kd,ou⟩:=az.jg hl0;obtain⟨b0,o0,Ri,t0,ya,yc,jx,jy,tK⟩:=TX.kid 0 kd ou;obtain⟨rfl,rfl⟩:xa=some ⟨b0,o0,none⟩∧xc=Ri:=by simpa using jx
  obtain⟨jw,hx0,-⟩:=dL OX.1 TS.out 0 kd ou;have hw0:=az.fW OX.2 0 kd ou;have Nh:jL w1 b0 o0 t0 kd (.slice ya kd.2.len yc):=by simpa only[Nat.zero_mul,Nat.add_zero] using jy.sub (aZ _ _)
  have hh:=af (show bn cf (aI cf k) d (ai fb) ⟨a0,9,a2,a3,a4⟩ x b e m=_ by rw[WS HT.out,gY ou]);have cL:(aI cf k).E d (ai fb) kd.1 kd.2 m1≠.lost:=Out.cN (by rw[←hh.out];exact qU.out);have cx:=af (HE.out d m1 aR F fb g cap ms t0 kd.1 kd.2 _ jw w1 hx0 hw0.1 hw0.2 tK X1.out cL);have xl:=af hl0;obtain⟨len,hlen⟩:∃z,z=x.len:=⟨_,rfl⟩;rw[←hlen] at e5 hl0;obtain⟨⟨c0,c1,c2,c3,c4,c5⟩,kk⟩:=kd;obtain⟨y0,y1,y2,y3,y4,y5,y6⟩:=Nh;simp only[] at y1 y2 y3 y4 y5 y6 cx hh cL;have EB:=af (And.intro e6 (And.intro e7 (And.intro e2 e3)));clear jx jy tK hx0 hw0 ou hlen e0 e2 e3 e4 e6 e7;go_wp2_with fail
  refine cx.mono ?_;intro e9 w2 hp;clear cx;cases ho:(aI cf k).E d (ai fb) ⟨c0,c1,c2,c3,c4,c5⟩ kk m1 with
  |lost=>exact absurd ho cL
  |stop a b9 m2=>
   rw[ho] at hp hh;have hh:=af (show _=Out.stop a b9 m2 from hh.out);obtain⟨rfl,eI,d2,dC,hV2⟩:=hp;have F1:Hid (bY p cf u n aN d F ve (FS F g ms fb) (fun q:Int×Int×Fr=>U q.2.1) (fun q=>q.2.2) (fun q=>Ending.returned (.tuple #[.int .i64 q.1,.int .u32 q.2.1])) (.stop a b9 m2) w (dy a b9) w2):=af (bQ dC ((V1.trans hV2).ks (FS F g ms fb)) rfl);clear dC hV2 ho cL;go_wp2_with fail
   refine ar ?_;rw[HR.out,hh.out];exact F1.out
  |ok v m2=>
   rw[ho] at hp hh;obtain⟨rfl,hU,eI,aL,hV2⟩:=hp;have hh:=af (show bn cf (aI cf k) d (ai fb) ⟨a0,9,a2,a3,a4⟩ x b e m=.ok (0,0,ai fb) m2 from hh.out);have X2:=af aL;have V2:=af (V1.trans hV2);have UV:=af hU;have KW:=af hV2;have pU:=af (hV2.k.box lU.out lU.lt (X1.c.me.dB lU.out (by decide) (by decide) (by decide)));clear aL hV2 hU ho cL y0 y1 y2 y3 y4 y5 y6 e1;go_wp2_with fail
   rw[HR.out,hh.out];exact dZ X2.out rfl U0 (V2.ks (FS F g ms fb)) rfl
end
end Go.Proofs.YtlabadkfkbenoaaGreatDoor
