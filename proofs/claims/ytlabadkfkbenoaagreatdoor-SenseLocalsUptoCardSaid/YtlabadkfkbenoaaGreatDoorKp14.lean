/- Walks and plain laws, merged: IntN IntQ IntR IntO. No condition. -/
import Derived.Test.YtlabadkfkbenoaaGreatDoorKp01
import Derived.Test.YtlabadkfkbenoaaGreatDoorKp13
namespace Go.Proofs.YtlabadkfkbenoaaGreatDoor
open Go.RowKit
set_option linter.unusedVariables false
set_option linter.unusedSimpArgs false
set_option maxRecDepth 100000
set_option maxHeartbeats 64000000
section
open Go.Shelf
theorem MR (p:Pt) (cf:Cf) (u:UT) (n:Nat) (aN:List Nat) (k d:Nat) (m:MS) (ve:EvS) (F:Nat) (fb:List dQ) (g cap:Nat) (ms:List Nat) (a0 a2 a3:Int) (a4 a5:ByteArray) (kids:az) (v:Value) (ty:Int) (w:World) (ha:cf.jd=gm) (HE:Hid (CY p cf u n aN k)) (hx:XT cf (dm fb) ⟨a0,6,a2,a3,a4,a5⟩ kids ty) (lW:kids.Wf) (hv:dI (aA w (bJ p.B)) false none kids v) (hX:dW p cf u n aN d m ve F fb g cap ms w) (ey:aF cf (aI cf k) d (ai fb) ⟨a0,6,a2,a3,a4,a5⟩ kids m≠.lost):
  Calls Tryz.prog 81 #[.pointer (some ⟨p.M,0,none⟩),.pointer (some ⟨F,0,none⟩),qq a0 ⟨a0,6,a2,a3,a4,a5⟩ v] w (aX p cf.allowed n d w.heap.size ve (fun x=>.returned (.int .u32 x)) (aF cf (aI cf k) d (ai fb) ⟨a0,6,a2,a3,a4,a5⟩ kids m) w):=by
 obtain⟨ka,kc,rfl⟩:=hv.ay;obtain⟨ks,pL,hty⟩:=hx.kinds;have hn:=oo hx.ok;obtain⟨R,hR⟩:∃x,x=(aX p cf.allowed n d w.heap.size ve (fun x=>.returned (.int .u32 x)) (aF cf (aI cf k) d (ai fb) ⟨a0,6,a2,a3,a4,a5⟩ kids m) w):=⟨_,rfl⟩;rw[←hR];have HR:=af hR;clear hR;simp only[] at hn⊢;have hl:kids.len=1:=hn.2.2.1 (by trivial);obtain⟨len,hlen⟩:∃q,q=kids.len:=⟨_,rfl⟩;rw[←hlen] at hv hl hn⊢;have hl0:0<len:=by omega
 obtain⟨b0,o0,t0,yC,yD,k0,gJ,mR,oV,hs0⟩:=hv.sI (w':=w) 0 (by omega);obtain⟨jw,hx0,ER⟩:=dL hx.kids pL 0 k0 gJ;have hw0:=az.fW lW 0 k0 gJ;have gJ:=af gJ;subst mR;have cF:=(Below.refl w.heap.size w).alloc (Nat.le_refl _) (.cells #[.int .i64 a0,.int .u8 6,.int .u32 a2,.int .u8 a3,.string a4,.string a5,.slice (some ⟨b0,o0,none⟩) len kc] 134);have cG:=hX.below cF;have hb0:=Bx.new w #[.int .i64 a0,.int .u8 6,.int .u32 a2,.int .u8 a3,.string a4,.string a5,.slice (some ⟨b0,o0,none⟩) len kc] 134;have K0:Hid (∀w' fJ,KV p ve fJ (w.alloc (.cells #[.int .i64 a0,.int .u8 6,.int .u32 a2,.int .u8 a3,.string a4,.string a5,.slice (some ⟨b0,o0,none⟩) len kc] 134)) w'→jL w' b0 (o0) t0 k0 (.slice yC k0.2.len yD)∧dI (aA w' (bJ p.B)) false none k0.2 (.slice yC k0.2.len yD)):=af fun w' fJ hk=>⟨by
  have h:=((oV.sub (aw cF)).sub (cG.c.cells hk.k)).sub (aZ _ _);simpa only[Nat.zero_mul,Nat.add_zero,Nat.one_mul] using h,(hs0.sub (aw cF)).sub (cG.c.cells hk.k)⟩
 have E5:Hid (∀w' fJ,KV p ve fJ (w.alloc (.cells #[.int .i64 a0,.int .u8 6,.int .u32 a2,.int .u8 a3,.string a4,.string a5,.slice (some ⟨b0,o0,none⟩) len kc] 134)) w'→w'.cell? ⟨w.heap.size,5,none⟩=some (.string a5)):=af fun w' fJ hk=>by simpa using cG.c.fX (i:=5) hk.k hb0 (by decide) (by decide) (by decide)
 have E6:Hid (∀w' fJ,KV p ve fJ (w.alloc (.cells #[.int .i64 a0,.int .u8 6,.int .u32 a2,.int .u8 a3,.string a4,.string a5,.slice (some ⟨b0,o0,none⟩) len kc] 134)) w'→w'.cell? ⟨w.heap.size,6,none⟩=some (.slice (some ⟨b0,o0,none⟩) len kc)):=af fun w' fJ hk=>by simpa using cG.c.fX (i:=6) hk.k hb0 (by decide) (by decide) (by decide)
 have e6:=E6.out _ _ (KV.refl _ _ _);obtain⟨⟨y0,y1,y2,y3,y4,y5,y6⟩,V9⟩:=K0.out _ _ (KV.refl _ _ _);have hh:=af (show aF cf (aI cf k) d (ai fb) ⟨a0,6,a2,a3,a4,a5⟩ kids m=_ by rw[MN,gY gJ.out]);have cL:(aI cf k).E d (ai fb) k0.1 k0.2 m≠.lost:=Out.cN (by rw[←hh.out];exact ey);have J7:=af (wA (cf:=cf) gJ.out hx0);rw[J7.out,ha] at hh;have cx:=af (HE.out d m ve F fb g cap ms t0 k0.1 k0.2 _ jw _ hx0 hw0.1 hw0.2 V9 cG cL);have ES:=af (fun(m1:MS) (aR:EvS) (w1:World) (hC:kG p cf u n d m1 aR F fb g cap ms w1) (hs:dI (aA w1 (bJ p.B)) false none k0.2 (.slice yC k0.2.len yD))=>I5 p cf u n d m1 aR F fb g cap ms (k0.2.sz+1) t0 k0.1 k0.2 _ jw w1 (Nat.lt_succ_self _) hx0 hs hC);have V0:=af (KV.of p ve cF);obtain⟨⟨c0,c1,c2,c3,c4,c5⟩,kk⟩:=k0;simp only[] at y1 y2 y3 y4 y5 y6;clear hx lW hv oV hs0 V9 hx0 ER hw0 hty pL hn ey HE cG hX hb0 cF hl hlen J7 ha;go_enter Tryz.func81,Tryz.ntmps81;go_wp2_with fail
 cases ho:(aI cf k).E d (ai fb) ⟨c0,c1,c2,c3,c4,c5⟩ kk m with
 |lost=>exact absurd ho cL
 |stop a b m1=>
  try simp only[] at cx hh
  rw[ho] at cx hh;have hh:=af (show _=Out.stop a b m1 from hh.out);refine cx.mono ?_;rintro e w1 ⟨rfl,aR,d1,pZ,hV1⟩;have F1:Hid (aX p cf.allowed n d w.heap.size ve (fun x=>.returned (.int .u32 x)) (.stop a b m1) w (dy a b) w1):=af (dG pZ (V0.trans hV1) rfl);clear pZ hV1 cx;go_wp2_with fail
  refine ar ?_;rw[HR.out,hh.out];exact F1.out
 | ok x m1=>
  try simp only[] at cx hh
  rw[ho] at cx hh;have hh:=af (show _=(if (a5.toList==[126])=true then Out.ok (bS 49 x) m1 else if (a5.toList==[33])=true then .ok (fu (x==0)) m1 else if jw=2 then .ok (bS 53 x) m1 else .ok (bS 38 x) m1) from hh.out);refine cx.mono ?_;rintro e w1 ⟨rfl,hU,aR,aB,hV1⟩;have e5:=E5.out _ _ hV1;have YS:=E6.out _ _ hV1;obtain⟨⟨z0,z1,z2,z3,z4,z5,z6⟩,hs1⟩:=K0.out _ _ hV1;simp only[] at z1 z2 z3 z4 z5 z6;have F1:∀y,Hid (aX p cf.allowed n d w.heap.size ve (fun x=>.returned (.int .u32 x)) (.ok y m1) w (.returned (.int .u32 y)) w1):=fun y=>af (iJ aB (V0.trans hV1) rfl)
  have cty:=af (ES.out m1 aR w1 aB.c hs1);have Tg:∀y w2,Below w1.heap.size w1 w2→Hid (aX p cf.allowed n d w.heap.size ve (fun x=>.returned (.int .u32 x)) (.ok y m1) w (.returned (.int .u32 y)) w2):=fun y w2 hb=>af (iJ (aB.below hb) ((V0.trans hV1).below hb) rfl)
  have E5b:=E5;have Ti:=af (show∀w2,Below w1.heap.size w1 w2→_ from fun w2 hb=>ag e5 hb);clear aB hV1 cx hs1 ES ho cL y0 y1 y2 y3 y4 y5 y6 e6 E5 E5b K0 E6 V0;cases MT:a5.toList==[126]
  case true=>
   have F1:=F1 (bS 49 x);have hz:=af (show aF cf (aI cf k) d (ai fb) ⟨a0,6,a2,a3,a4,a5⟩ kids m=.ok (bS 49 x) m1 by rw[hh.out,MT];rfl);clear hh cty Tg Ti;have c1:=af (AP x w1);have c2:=af (Ix (bS 49 x) 0 w1);generalize bS 49 x=y at c1 c2 hz F1;go_wp2_with fail
   refine c1.mono ?_;rintro e w3 ⟨rfl,hw3⟩;subst w3;clear c1;go_wp2_with fail
   refine c2.mono ?_;rintro e w3 ⟨rfl,hw3⟩;subst w3;clear c2;go_wp2_with fail
   rw[HR.out,hz.out];exact F1.out
  case false=>
   cases h33:a5.toList==[33]
   case true=>
    have F1:=F1 (fu (x==0));have hz:=af (show aF cf (aI cf k) d (ai fb) ⟨a0,6,a2,a3,a4,a5⟩ kids m=.ok (fu (x==0)) m1 by rw[hh.out,MT,h33];rfl);clear hh cty Tg Ti;have c1:=af (k8 (x==0) w1);have ht:(if (x==0)=true then(1:Int) else 0)=fu (x==0):=rfl;rw[ht] at c1;generalize fu (x==0)=y at c1 hz F1;clear ht;go_wp2_with fail
    refine c1.mono ?_;rintro e w3 ⟨rfl,hw3⟩;subst w3;clear c1;go_wp2_with fail
    rw[HR.out,hz.out];exact F1.out
   case false=>
    by_cases h2:jw=2
    ·have hz:=af (show aF cf (aI cf k) d (ai fb) ⟨a0,6,a2,a3,a4,a5⟩ kids m=.ok (bS 53 x) m1 by rw[hh.out,MT,h33];simp[h2]);clear hh F1;go_wp2_with fail
     refine cty.mono ?_;rintro e w2 ⟨rfl,hb2⟩;have F1:=Tg (bS 53 x) w2 hb2;have e5:=Ti.out w2 hb2;clear hb2 cty Tg Ti;have c1:=af (AQ x w2);have c2:=af (Ix (bS 53 x) 0 w2);generalize bS 53 x=y at c1 c2 hz F1;go_wp2_with fail
     refine c1.mono ?_;rintro e w3 ⟨rfl,hw3⟩;subst w3;clear c1;go_wp2_with fail
     refine c2.mono ?_;rintro e w3 ⟨rfl,hw3⟩;subst w3;clear c2;go_wp2_with fail
     rw[HR.out,hz.out];exact F1.out
    ·have hz:=af (show aF cf (aI cf k) d (ai fb) ⟨a0,6,a2,a3,a4,a5⟩ kids m=.ok (bS 38 x) m1 by rw[hh.out,MT,h33];simp[h2]);clear hh F1;go_wp2_with fail
     refine cty.mono ?_;rintro e w2 ⟨rfl,hb2⟩;have F1:=Tg (bS 38 x) w2 hb2;have e5:=Ti.out w2 hb2;clear hb2 cty Tg Ti;have c1:=af (AO x w2);have c2:=af (Ix (bS 38 x) 0 w2);generalize bS 38 x=y at c1 c2 hz F1;go_wp2_with fail
     refine c1.mono ?_;rintro e w3 ⟨rfl,hw3⟩;subst w3;clear c1;go_wp2_with fail
     refine c2.mono ?_;rintro e w3 ⟨rfl,hw3⟩;subst w3;clear c2;go_wp2_with fail
     rw[HR.out,hz.out];exact F1.out
theorem Q0 (p:Pt) (cf:Cf) (u:UT) (n:Nat) (aN:List Nat) (k d:Nat) (m:MS) (ve:EvS) (F:Nat) (fb:List dQ) (g cap:Nat) (ms:List Nat) (a0 a2 a3:Int) (a4 a5:ByteArray) (kids:az) (v:Value) (ty:Int) (w:World) (ha:cf.jd=gm) (HE:Hid (CY p cf u n aN k)) (hx:XT cf (dm fb) ⟨a0,8,a2,a3,a4,a5⟩ kids ty) (lW:kids.Wf) (hv:dI (aA w (bJ p.B)) false none kids v) (hX:dW p cf u n aN d m ve F fb g cap ms w) (ey:aF cf (aI cf k) d (ai fb) ⟨a0,8,a2,a3,a4,a5⟩ kids m≠.lost):
  Calls Tryz.prog 83 #[.pointer (some ⟨F,0,none⟩),qq a0 ⟨a0,8,a2,a3,a4,a5⟩ v,.pointer (some ⟨p.kc,0,none⟩)] w (aX p cf.allowed n d w.heap.size ve (fun x=>.returned (.int .u32 x)) (aF cf (aI cf k) d (ai fb) ⟨a0,8,a2,a3,a4,a5⟩ kids m) w):=by
 obtain⟨ka,kc,rfl⟩:=hv.ay;obtain⟨ks,pL,hty⟩:=hx.kinds;have hn:=oo hx.ok;obtain⟨R,hR⟩:∃x,x=(aX p cf.allowed n d w.heap.size ve (fun x=>.returned (.int .u32 x)) (aF cf (aI cf k) d (ai fb) ⟨a0,8,a2,a3,a4,a5⟩ kids m) w):=⟨_,rfl⟩;rw[←hR];have HR:=af hR;clear hR;simp only[] at hn⊢;have hl:kids.len=1:=hn.2.2.2.2.1 (by trivial);obtain⟨len,hlen⟩:∃q,q=kids.len:=⟨_,rfl⟩;rw[←hlen] at hv hl hn⊢;have hl0:0<len:=by omega
 obtain⟨b0,o0,t0,yC,yD,k0,gJ,mR,oV,hs0⟩:=hv.sI (w':=w) 0 (by omega);obtain⟨jw,hx0,ER⟩:=dL hx.kids pL 0 k0 gJ;have hw0:=az.fW lW 0 k0 gJ;have gJ:=af gJ;subst mR;have cF:=(Below.refl w.heap.size w).alloc (Nat.le_refl _) (.cells #[.int .i64 a0,.int .u8 8,.int .u32 a2,.int .u8 a3,.string a4,.string a5,.slice (some ⟨b0,o0,none⟩) len kc] 134);have cG:=hX.below cF;have hb0:=Bx.new w #[.int .i64 a0,.int .u8 8,.int .u32 a2,.int .u8 a3,.string a4,.string a5,.slice (some ⟨b0,o0,none⟩) len kc] 134;clear hl hlen hn;go_enter Tryz.func83,Tryz.ntmps83;go_wp2_with fail
 generalize w.alloc (.cells #[.int .i64 a0,.int .u8 8,.int .u32 a2,.int .u8 a3,.string a4,.string a5,.slice (some ⟨b0,o0,none⟩) len kc] 134)=w0 at cG hb0 cF⊢;have K0:Hid (∀w',aU (p.TE ve) w0.heap.size w0 w'→jL w' b0 (o0) t0 k0 (.slice yC k0.2.len yD)):=af fun w' hk=>by
  have h:=((oV.sub (aw cF)).sub (cG.c.cells hk)).sub (aZ _ _);simpa only[Nat.zero_mul,Nat.add_zero,Nat.one_mul] using h
 have E3:Hid (∀w',aU (p.TE ve) w0.heap.size w0 w'→w'.cell? ⟨w.heap.size,3,none⟩=some (.int .u8 a3)):=af fun w' hk=>by simpa using cG.c.fX (i:=3) hk hb0 (by decide) (by decide) (by decide)
 have E6:Hid (∀w',aU (p.TE ve) w0.heap.size w0 w'→w'.cell? ⟨w.heap.size,6,none⟩=some (.slice (some ⟨b0,o0,none⟩) len kc)):=af fun w' hk=>by simpa using cG.c.fX (i:=6) hk hb0 (by decide) (by decide) (by decide)
 have EK:Hid (∀w',aU (p.TE ve) w0.heap.size w0 w'→w'.cell? ⟨p.kc,0,none⟩=some (.pointer (some ⟨p.M,0,none⟩))):=af fun w' hk=>by simpa using cG.c.fX (i:=0) hk cG.c.st.IC (by decide) (by decide) (by decide)
 have DR:=af ((KV.of p ve cF).below (Below.refl w0.heap.size w0).drew);have hh:=af (show aF cf (aI cf k) d (ai fb) ⟨a0,8,a2,a3,a4,a5⟩ kids m=_ by rw[MP,gY gJ.out]);have cL:(aI cf k).E d (ai fb) k0.1 k0.2 m≠.lost:=Out.cN (by rw[←hh.out];exact ey);have J7:=af (wA (cf:=cf) gJ.out hx0);rw[J7.out,ha] at hh;have X0d:=af (cG.below (Below.refl _ _).drew);have T0:=af ((hs0.sub (aw cF)));have X0:=af cG;have ES:=af (I5 p cf u n d m ve F fb g cap ms (k0.2.sz+1) t0 k0.1 k0.2 (.slice yC k0.2.len yD) jw w0.drew (Nat.lt_succ_self _) hx0 (T0.sub (aw (Below.refl _ _).drew)) X0d.c);have zR:=af (fun(w1:World) (hb:Below w0.heap.size w0 w1)=>HE.out d m ve F fb g cap ms t0 k0.1 k0.2 (.slice yC k0.2.len yD) jw w1 hx0 hw0.1 hw0.2 (T0.sub (aw hb)) (X0.below hb) cL);obtain⟨⟨c0,c1,c2,c3,c4,c5⟩,kk⟩:=k0;simp only[] at ES zR;have B0:=af cF;clear hx lW hv oV hs0 hx0 ER hw0 hty pL ey HE hX cG hb0 cF J7 ha X0d T0;refine wp_region_held_drew (S:=(aU (p.TE ve) w0.heap.size w0)) (by kernel_rfl) (aU.of (Below.refl _ _).drew) (fun hHeld=>?_);refine tk 0 ?_ (hy:=by intro w' hSw;have q:=EK.out w' hSw;go_simp;(try with_reducible rfl));refine tk 1 ?_;refine tk 2 ?_;refine tk 3 ?_ (hy:=by intro w' hSw;have q:=E6.out w' hSw;go_simp;(try with_reducible rfl));refine tk 4 ?_;refine tk 5 ?_ (hy:=by intro w' hSw;obtain⟨q0,q1,q2,q3,q4,q5,q6⟩:=K0.out w' hSw;go_simp;(try with_reducible rfl));refine tr 6 fun K hK=>?_
 go_simp;go_at_call 84;refine(ES.out).mono ?_;rintro e w2 ⟨rfl,hb2⟩;have hk:=hHeld.trans (aU.of (hb2.mono hHeld.size));have B2:=af ((Below.refl w0.heap.size w0).drew.trans (hb2.mono (Below.refl w0.heap.size w0).drew.size));clear hb2 ES;clear hHeld;go_wp2_with fail
 refine hK.out _ _ hk (fun hHeld=>?_);clear hK K hk
 try simp only[bK,bL,bM,bN,bO]
 refine tk 7 ?_;refine td ?_;go_wp2_with fail
 have K2:=af hHeld;clear hHeld;refine wp_region_held_drew (S:=(aU (p.TE ve) w0.heap.size w0)) (by kernel_rfl) (K2.trans (aU.of ((Below.refl _ _).drew.mono K2.size))) (fun hHeld=>?_);refine tk 0 ?_ (hy:=by intro w' hSw;have q:=EK.out w' hSw;go_simp;(try with_reducible rfl));refine tk 1 ?_;refine tk 2 ?_;refine tk 3 ?_ (hy:=by intro w' hSw;have q:=E6.out w' hSw;go_simp;(try with_reducible rfl));refine tk 4 ?_;refine tk 5 ?_ (hy:=by intro w' hSw;obtain⟨q0,q1,q2,q3,q4,q5,q6⟩:=K0.out w' hSw;go_simp;(try with_reducible rfl));refine tr 6 fun K hK=>?_
 go_simp;go_at_call 79;have cx:=af (zR.out _ (B2.trans ((Below.refl _ _).drew.mono B2.size)));have V0:=af ((KV.of p ve B0.out).below (B2.trans ((Below.refl _ _).drew.mono B2.size)));have W0:=af (KV.of p ve (B2.trans ((Below.refl _ _).drew.mono B2.size)));clear zR K2 K0;cases ho:(aI cf k).E d (ai fb) ⟨c0,c1,c2,c3,c4,c5⟩ kk m with
 |lost=>exact absurd ho cL
 |stop a b m1=>
  try simp only[] at cx hh
  rw[ho] at cx hh;have hh:=af (show _=Out.stop a b m1 from hh.out);refine cx.mono ?_;rintro e w1 ⟨rfl,aR,d1,pZ,hV1⟩;have F1:Hid (aX p cf.allowed n d w.heap.size ve (fun x=>.returned (.int .u32 x)) (.stop a b m1) w (dy a b) w1):=af (dG pZ (V0.trans hV1) rfl);clear pZ hV1 cx hK hHeld;go_wp2_with fail
  refine ar ?_;rw[HR.out,hh.out];exact F1.out
 | ok x m1=>
  try simp only[] at cx hh
  rw[ho] at cx hh;have hh:=af (show _=(if jw=a3 then Out.ok x m1 else if a3=1 then .ok (bS 59 x) m1 else .ok (bS 58 x) m1) from hh.out);refine cx.mono ?_;rintro e w1 ⟨rfl,hU,aR,aB,hV1⟩;have e3:=E3.out w1 (W0.trans hV1).k;have hk:=(W0.trans hV1).k;have F1:∀y,Hid (aX p cf.allowed n d w.heap.size ve (fun x=>.returned (.int .u32 x)) (.ok y m1) w (.returned (.int .u32 y)) w1):=fun y=>af (iJ aB (V0.trans hV1) rfl)
  clear hHeld aB hV1 hU cx ho cL E3 E6 EK V0 W0 X0 B0 B2 DR;go_wp2_with fail
  refine hK.out _ _ hk (fun hHeld=>?_);clear hK K hk
  try simp only[bK,bL,bM,bN,bO]
  refine tk 7 ?_;refine td ?_;by_cases h1:jw=a3
  ·subst h1;have hz:=af (show aF cf (aI cf k) d (ai fb) ⟨a0,8,a2,jw,a4,a5⟩ kids m=.ok x m1 by rw[hh.out];simp);have F1:=F1 x;clear hh;go_wp2_with fail
   rw[HR.out,hz.out];exact F1.out
  ·by_cases h2:a3=1
   ·subst h2;have hz:=af (show aF cf (aI cf k) d (ai fb) ⟨a0,8,a2,1,a4,a5⟩ kids m=.ok (bS 59 x) m1 by rw[hh.out];simp[h1]);have F1:=F1 (bS 59 x);have c1:=af (AV x w1);have c2:=af (Ix (bS 59 x) 0 w1);generalize bS 59 x=y at c1 c2 hz F1;clear hh;go_wp2_with fail
    refine c1.mono ?_;rintro e w3 ⟨rfl,hw3⟩;subst w3;clear c1;go_wp2_with fail
    refine c2.mono ?_;rintro e w3 ⟨rfl,hw3⟩;subst w3;clear c2;go_wp2_with fail
    rw[HR.out,hz.out];exact F1.out
   ·have hne:(jw==a3)=false:=by simpa using h1
    have hne2:(a3==1)=false:=by simpa using h2
    have hz:=af (show aF cf (aI cf k) d (ai fb) ⟨a0,8,a2,a3,a4,a5⟩ kids m=.ok (bS 58 x) m1 by rw[hh.out];simp[h1,h2]);have F1:=F1 (bS 58 x);have c1:=af (AU x w1);have c2:=af (Ix (bS 58 x) 0 w1);generalize bS 58 x=y at c1 c2 hz F1;clear hh;go_wp2_with fail
    refine c1.mono ?_;rintro e w3 ⟨rfl,hw3⟩;subst w3;clear c1;go_wp2_with fail
    refine c2.mono ?_;rintro e w3 ⟨rfl,hw3⟩;subst w3;clear c2;go_wp2_with fail
    rw[HR.out,hz.out];exact F1.out
theorem I7 (p:Pt) (cf:Cf) (u:UT) (n:Nat) (aN:List Nat) (k d:Nat) (m:MS) (ve:EvS) (F:Nat) (fb:List dQ) (g cap:Nat) (ms:List Nat) (a0 a2 a3:Int) (a4 a5:ByteArray) (kids:az) (v:Value) (ty:Int) (w:World) (ha:cf.jd=gm) (HE:Hid (CY p cf u n aN k)) (hx:XT cf (dm fb) ⟨a0,7,a2,a3,a4,a5⟩ kids ty) (lW:kids.Wf) (hv:dI (aA w (bJ p.B)) false none kids v) (hX:dW p cf u n aN d m ve F fb g cap ms w) (ey:aF cf (aI cf k) d (ai fb) ⟨a0,7,a2,a3,a4,a5⟩ kids m≠.lost):
  Calls Tryz.prog 82 #[.pointer (some ⟨p.M,0,none⟩),.pointer (some ⟨F,0,none⟩),qq a0 ⟨a0,7,a2,a3,a4,a5⟩ v] w (aX p cf.allowed n d w.heap.size ve (fun x=>.returned (.int .u32 x)) (aF cf (aI cf k) d (ai fb) ⟨a0,7,a2,a3,a4,a5⟩ kids m) w):=by
 obtain⟨ka,kc,rfl⟩:=hv.ay;obtain⟨ks,pL,hty⟩:=hx.kinds;have hn:=oo hx.ok;obtain⟨R,hR⟩:∃x,x=(aX p cf.allowed n d w.heap.size ve (fun x=>.returned (.int .u32 x)) (aF cf (aI cf k) d (ai fb) ⟨a0,7,a2,a3,a4,a5⟩ kids m) w):=⟨_,rfl⟩;rw[←hR];have HR:=af hR;clear hR;simp only[] at hn⊢;have hl:kids.len=2:=hn.2.2.2.1 (by trivial);obtain⟨len,hlen⟩:∃q,q=kids.len:=⟨_,rfl⟩;rw[←hlen] at hv hl hn⊢;have hl0:0<len:=by omega
 have kt:1<len:=by omega
 have hl2:(1:Int)<(len:Int):=by omega
 obtain⟨b0,o0,t0,yC,yD,k0,gJ,mR,oV,hs0⟩:=hv.sI (w':=w) 0 (by omega);obtain⟨jw,hx0,ER⟩:=dL hx.kids pL 0 k0 gJ;have hw0:=az.fW lW 0 k0 gJ;have gJ:=af gJ;obtain⟨b1,o1,t1,V7,V8,k1,dH,yE,hr1,hs1⟩:=hv.sI (w':=w) 1 (by omega);obtain⟨OW,hx1,Vu⟩:=dL hx.kids pL 1 k1 dH;have gO:=az.fW lW 1 k1 dH;have dH:=af dH;subst mR;obtain⟨rfl,rfl⟩:b1=b0∧o1=o0:=by cases yE;exact⟨rfl,rfl⟩
 clear yE;have cF:=(Below.refl w.heap.size w).alloc (Nat.le_refl _) (.cells #[.int .i64 a0,.int .u8 7,.int .u32 a2,.int .u8 a3,.string a4,.string a5,.slice (some ⟨b1,o1,none⟩) len kc] 134);have cG:=hX.below cF;have hb0:=Bx.new w #[.int .i64 a0,.int .u8 7,.int .u32 a2,.int .u8 a3,.string a4,.string a5,.slice (some ⟨b1,o1,none⟩) len kc] 134;have K0:Hid (∀w' fJ,KV p ve fJ (w.alloc (.cells #[.int .i64 a0,.int .u8 7,.int .u32 a2,.int .u8 a3,.string a4,.string a5,.slice (some ⟨b1,o1,none⟩) len kc] 134)) w'→jL w' b1 (o1) t0 k0 (.slice yC k0.2.len yD)∧dI (aA w' (bJ p.B)) false none k0.2 (.slice yC k0.2.len yD)):=af fun w' fJ hk=>⟨by
  have h:=((oV.sub (aw cF)).sub (cG.c.cells hk.k)).sub (aZ _ _);simpa only[Nat.zero_mul,Nat.add_zero,Nat.one_mul] using h,(hs0.sub (aw cF)).sub (cG.c.cells hk.k)⟩
 have K1:Hid (∀w' fJ,KV p ve fJ (w.alloc (.cells #[.int .i64 a0,.int .u8 7,.int .u32 a2,.int .u8 a3,.string a4,.string a5,.slice (some ⟨b1,o1,none⟩) len kc] 134)) w'→jL w' b1 (o1+7) t1 k1 (.slice V7 k1.2.len V8)∧dI (aA w' (bJ p.B)) false none k1.2 (.slice V7 k1.2.len V8)):=af fun w' fJ hk=>⟨by
  have h:=((hr1.sub (aw cF)).sub (cG.c.cells hk.k)).sub (aZ _ _);simpa only[Nat.zero_mul,Nat.add_zero,Nat.one_mul] using h,(hs1.sub (aw cF)).sub (cG.c.cells hk.k)⟩
 have E5:Hid (∀w' fJ,KV p ve fJ (w.alloc (.cells #[.int .i64 a0,.int .u8 7,.int .u32 a2,.int .u8 a3,.string a4,.string a5,.slice (some ⟨b1,o1,none⟩) len kc] 134)) w'→w'.cell? ⟨w.heap.size,5,none⟩=some (.string a5)):=af fun w' fJ hk=>by simpa using cG.c.fX (i:=5) hk.k hb0 (by decide) (by decide) (by decide)
 have E6:Hid (∀w' fJ,KV p ve fJ (w.alloc (.cells #[.int .i64 a0,.int .u8 7,.int .u32 a2,.int .u8 a3,.string a4,.string a5,.slice (some ⟨b1,o1,none⟩) len kc] 134)) w'→w'.cell? ⟨w.heap.size,6,none⟩=some (.slice (some ⟨b1,o1,none⟩) len kc)):=af fun w' fJ hk=>by simpa using cG.c.fX (i:=6) hk.k hb0 (by decide) (by decide) (by decide)
 have e6:=E6.out _ _ (KV.refl _ _ _);obtain⟨⟨y0,y1,y2,y3,y4,y5,y6⟩,V9⟩:=K0.out _ _ (KV.refl _ _ _);have hh:=af (show aF cf (aI cf k) d (ai fb) ⟨a0,7,a2,a3,a4,a5⟩ kids m=_ by rw[MO,gY gJ.out]);have cL:(aI cf k).E d (ai fb) k0.1 k0.2 m≠.lost:=Out.cN (by rw[←hh.out];exact ey);have J7:=af (wA (cf:=cf) gJ.out hx0);rw[J7.out,ha] at hh;have hek:=af (fun(m1:MS)=>gY (ev:=aI cf k) (d:=d) (fr:=ai fb) (m:=m1) dH.out);have cx:=af (HE.out d m ve F fb g cap ms t0 k0.1 k0.2 _ jw _ hx0 hw0.1 hw0.2 V9 cG cL);have zR:=af (fun(m1:MS) (aR:EvS) (w1:World) (aB:dW p cf u n aN d m1 aR F fb g cap ms w1) (hs:dI (aA w1 (bJ p.B)) false none k1.2 (.slice V7 k1.2.len V8)) (dh:(aI cf k).E d (ai fb) k1.1 k1.2 m1≠.lost)=>HE.out d m1 aR F fb g cap ms t1 k1.1 k1.2 _ OW w1 hx1 gO.1 gO.2 hs aB dh);have ES:=af (fun(m1:MS) (aR:EvS) (w1:World) (hC:kG p cf u n d m1 aR F fb g cap ms w1) (hs:dI (aA w1 (bJ p.B)) false none k0.2 (.slice yC k0.2.len yD))=>I5 p cf u n d m1 aR F fb g cap ms (k0.2.sz+1) t0 k0.1 k0.2 _ jw w1 (Nat.lt_succ_self _) hx0 hs hC);have V0:=af (KV.of p ve cF);have qU:=af ey;obtain⟨⟨c0,c1,c2,c3,c4,c5⟩,kk⟩:=k0;obtain⟨⟨f0,f1,f2,f3,f4,f5⟩,kl⟩:=k1;simp only[] at y1 y2 y3 y4 y5 y6 zR ES;clear hx lW hv oV hs0 V9 hx0 ER hw0 hr1 hs1 hx1 Vu gO hty pL hn ey HE cG hX hb0 cF hl hlen J7 ha;go_enter Tryz.func82,Tryz.ntmps82;go_wp2_with fail
 cases ho:(aI cf k).E d (ai fb) ⟨c0,c1,c2,c3,c4,c5⟩ kk m with
 |lost=>exact absurd ho cL
 |stop a b m1=>
  try simp only[] at cx hh
  rw[ho] at cx hh;have hh:=af (show _=Out.stop a b m1 from hh.out);refine cx.mono ?_;rintro e w1 ⟨rfl,aR,d1,pZ,hV1⟩;have F1:Hid (aX p cf.allowed n d w.heap.size ve (fun x=>.returned (.int .u32 x)) (.stop a b m1) w (dy a b) w1):=af (dG pZ (V0.trans hV1) rfl);clear pZ hV1 cx;go_wp2_with fail
  refine ar ?_;rw[HR.out,hh.out];exact F1.out
 | ok x m1=>
  try simp only[] at cx hh
  rw[ho] at cx hh;have hh:=af (show _=(if (a5.toList==[38,38]&&x==0)=true then Out.ok 0 m1 else if (a5.toList==[124,124]&&x !=0)=true then .ok 1 m1 else(jo (aI cf k) d (ai fb) kids 1 m1).bind fun b m=>if (a5.toList==[38,38]||a5.toList==[124,124])=true then .ok (fu (b !=0)) m else match cD gm a5 jw x b with|some x=>.ok x m|none=>.stop 2 2 m) from hh.out);rw[hek.out] at hh;refine cx.mono ?_;rintro e w1 ⟨rfl,hU,aR,aB,hV1⟩;have e5:=E5.out _ _ hV1;have YS:=E6.out _ _ hV1;have F1:∀y,Hid (aX p cf.allowed n d w.heap.size ve (fun x=>.returned (.int .u32 x)) (.ok y m1) w (.returned (.int .u32 y)) w1):=fun y=>af (iJ aB (V0.trans hV1) rfl)
  have X1:=af aB;have V1:=af hV1;have U1:=af hU;clear aB hV1 hU cx ho cL y0 y1 y2 y3 y4 y5 y6 e6;cases Tj:a5.toList==[38,38]
  case true=>
   have I8:(a5.toList==[124,124])=false:=by rw[show a5.toList=[38,38] by simpa using Tj];rfl
   by_cases hx0:x=0
   ·subst hx0;have hz:=af (show aF cf (aI cf k) d (ai fb) ⟨a0,7,a2,a3,a4,a5⟩ kids m=.ok 0 m1 by rw[hh.out,Tj];rfl);have F1:=F1 0;clear hh zR ES;go_wp2_with fail
    rw[HR.out,hz.out];exact F1.out
   ·have hx1:(x==0)=false:=by simpa using hx0
    have hh:=af (show aF cf (aI cf k) d (ai fb) ⟨a0,7,a2,a3,a4,a5⟩ kids m=((aI cf k).E d (ai fb) ⟨f0,f1,f2,f3,f4,f5⟩ kl m1).bind fun b m=>.ok (fu (b !=0)) m by rw[hh.out];rw[Tj,I8,hx1];rfl);have dh:(aI cf k).E d (ai fb) ⟨f0,f1,f2,f3,f4,f5⟩ kl m1≠.lost:=Out.cN (by rw[←hh.out];exact qU.out);obtain⟨⟨z0,z1,z2,z3,z4,z5,z6⟩,hs1⟩:=K1.out _ _ V1.out;simp only[] at z1 z2 z3 z4 z5 z6;have cx:=af (zR.out m1 aR w1 X1.out hs1 dh);clear hs1 zR F1;go_wp2_with fail
    cases ho:(aI cf k).E d (ai fb) ⟨f0,f1,f2,f3,f4,f5⟩ kl m1 with
    |lost=>exact absurd ho dh
    |stop a b m2=>
     rw[ho] at cx hh;have hh:=af (show _=Out.stop a b m2 from hh.out);refine cx.mono ?_;rintro e w2 ⟨rfl,eI,d2,dC,hV2⟩;have F1:Hid (aX p cf.allowed n d w.heap.size ve (fun x=>.returned (.int .u32 x)) (.stop a b m2) w (dy a b) w2):=af (dG dC ((V0.trans V1.out).trans hV2) rfl);clear dC hV2 cx;go_wp2_with fail
     refine ar ?_;rw[HR.out,hh.out];exact F1.out
    |ok y m2=>
     rw[ho] at cx hh;refine cx.mono ?_;rintro e w2 ⟨rfl,MU,eI,aL,hV2⟩;have e5:=E5.out _ _ (V1.trans hV2);have F1:Hid (aX p cf.allowed n d w.heap.size ve (fun x=>.returned (.int .u32 x)) (.ok (fu (y !=0)) m2) w (.returned (.int .u32 (fu (y !=0)))) w2):=af (iJ aL ((V0.trans V1.out).trans hV2) rfl);have hz:=af (show aF cf (aI cf k) d (ai fb) ⟨a0,7,a2,a3,a4,a5⟩ kids m=.ok (fu (y !=0)) m2 from hh.out);have c1:=af (k8 (y !=0) w2);have ht:(if (y !=0)=true then(1:Int) else 0)=fu (y !=0):=rfl;rw[ht] at c1;clear ht hh aL hV2 MU cx ho dh z0 z1 z2 z3 z4 z5 z6 YS E6 K0 K1 ES;go_wp2_with fail
     refine c1.mono ?_;rintro e w3 ⟨rfl,hw3⟩;subst w3;clear c1;go_wp2_with fail
     rw[HR.out,hz.out];exact F1.out
  case false=>
   cases I8:a5.toList==[124,124]
   case true=>
    by_cases hx0:x=0
    ·subst hx0;have hh:=af (show aF cf (aI cf k) d (ai fb) ⟨a0,7,a2,a3,a4,a5⟩ kids m=((aI cf k).E d (ai fb) ⟨f0,f1,f2,f3,f4,f5⟩ kl m1).bind fun b m=>.ok (fu (b !=0)) m by rw[hh.out];rw[Tj,I8];rfl);have dh:(aI cf k).E d (ai fb) ⟨f0,f1,f2,f3,f4,f5⟩ kl m1≠.lost:=Out.cN (by rw[←hh.out];exact qU.out);obtain⟨⟨z0,z1,z2,z3,z4,z5,z6⟩,hs1⟩:=K1.out _ _ V1.out;simp only[] at z1 z2 z3 z4 z5 z6;have cx:=af (zR.out m1 aR w1 X1.out hs1 dh);clear hs1 zR F1;go_wp2_with fail
     cases ho:(aI cf k).E d (ai fb) ⟨f0,f1,f2,f3,f4,f5⟩ kl m1 with
     |lost=>exact absurd ho dh
     |stop a b m2=>
      rw[ho] at cx hh;have hh:=af (show _=Out.stop a b m2 from hh.out);refine cx.mono ?_;rintro e w2 ⟨rfl,eI,d2,dC,hV2⟩;have F1:Hid (aX p cf.allowed n d w.heap.size ve (fun x=>.returned (.int .u32 x)) (.stop a b m2) w (dy a b) w2):=af (dG dC ((V0.trans V1.out).trans hV2) rfl);clear dC hV2 cx;go_wp2_with fail
      refine ar ?_;rw[HR.out,hh.out];exact F1.out
     |ok y m2=>
      rw[ho] at cx hh;refine cx.mono ?_;rintro e w2 ⟨rfl,MU,eI,aL,hV2⟩;have e5:=E5.out _ _ (V1.trans hV2);have F1:Hid (aX p cf.allowed n d w.heap.size ve (fun x=>.returned (.int .u32 x)) (.ok (fu (y !=0)) m2) w (.returned (.int .u32 (fu (y !=0)))) w2):=af (iJ aL ((V0.trans V1.out).trans hV2) rfl);have hz:=af (show aF cf (aI cf k) d (ai fb) ⟨a0,7,a2,a3,a4,a5⟩ kids m=.ok (fu (y !=0)) m2 from hh.out);have c1:=af (k8 (y !=0) w2);have ht:(if (y !=0)=true then(1:Int) else 0)=fu (y !=0):=rfl;rw[ht] at c1;clear ht hh aL hV2 MU cx ho dh z0 z1 z2 z3 z4 z5 z6 YS E6 K0 K1 ES;go_wp2_with fail
      refine c1.mono ?_;rintro e w3 ⟨rfl,hw3⟩;subst w3;clear c1;go_wp2_with fail
      rw[HR.out,hz.out];exact F1.out
    ·have hx1:(x !=0)=true:=by simpa using hx0
     have hz:=af (show aF cf (aI cf k) d (ai fb) ⟨a0,7,a2,a3,a4,a5⟩ kids m=.ok 1 m1 by rw[hh.out,Tj];rw[I8,hx1];rfl);have F1:=F1 1;clear hh zR ES;go_wp2_with fail
     rw[HR.out,hz.out];exact F1.out
   case false=>
    have hh:=af (show aF cf (aI cf k) d (ai fb) ⟨a0,7,a2,a3,a4,a5⟩ kids m=((aI cf k).E d (ai fb) ⟨f0,f1,f2,f3,f4,f5⟩ kl m1).bind fun b m=>match cD gm a5 jw x b with|some x=>.ok x m|none=>.stop 2 2 m by rw[hh.out];rw[Tj,I8];rfl);have dh:(aI cf k).E d (ai fb) ⟨f0,f1,f2,f3,f4,f5⟩ kl m1≠.lost:=Out.cN (by rw[←hh.out];exact qU.out);obtain⟨⟨z0,z1,z2,z3,z4,z5,z6⟩,hs1⟩:=K1.out _ _ V1.out;simp only[] at z1 z2 z3 z4 z5 z6;have cx:=af (zR.out m1 aR w1 X1.out hs1 dh);clear hs1 zR F1;go_wp2_with fail
    cases ho:(aI cf k).E d (ai fb) ⟨f0,f1,f2,f3,f4,f5⟩ kl m1 with
    |lost=>exact absurd ho dh
    |stop a b m2=>
     rw[ho] at cx hh;have hh:=af (show _=Out.stop a b m2 from hh.out);refine cx.mono ?_;rintro e w2 ⟨rfl,eI,d2,dC,hV2⟩;have F1:Hid (aX p cf.allowed n d w.heap.size ve (fun x=>.returned (.int .u32 x)) (.stop a b m2) w (dy a b) w2):=af (dG dC ((V0.trans V1.out).trans hV2) rfl);clear dC hV2 cx;go_wp2_with fail
     refine ar ?_;rw[HR.out,hh.out];exact F1.out
    | ok y m2=>
     rw[ho] at cx hh;refine cx.mono ?_;rintro e w2 ⟨rfl,MU,eI,aL,hV2⟩;have e5:=E5.out _ _ (V1.trans hV2);have e6:=E6.out _ _ (V1.trans hV2);obtain⟨⟨x0,x1,x2,x3,x4,x5,x6⟩,hs2⟩:=K0.out _ _ (V1.trans hV2);simp only[] at x1 x2 x3 x4 x5 x6;have X2:=af aL;have V2:=af ((V0.trans V1.out).trans hV2);have T2:=af hs2;have hyb:=MU.1;have vo:=af (fun w=>px a5 jw x y hyb w);clear aL hV2 MU cx ho dh z0 z1 z2 z3 z4 z5 z6 YS E6 E5 K0 K1 hs2 hyb;have hh:=af (show aF cf (aI cf k) d (ai fb) ⟨a0,7,a2,a3,a4,a5⟩ kids m=(match cD gm a5 jw x y with|some x=>.ok x m2|none=>.stop 2 2 m2) from hh.out);go_wp2_with fail
     refine wp_region_held_drew (S:=(Below w2.heap.size w2)) (by kernel_rfl) (Below.refl _ _).drew (fun hHeld=>?_);refine tk 0 ?_;refine tk 1 ?_ (hy:=by intro w' hSw;have q:=ag e5 hSw;go_simp;(try with_reducible rfl));refine tk 2 ?_;refine tk 3 ?_;refine tk 4 ?_;refine tk 5 ?_ (hy:=by intro w' hSw;have q:=ag e6 hSw;go_simp;(try with_reducible rfl));refine tk 6 ?_;refine tk 7 ?_ (hy:=by intro w' hSw;have q0:=ag x0 hSw;have q1:=ag x1 hSw;have q2:=ag x2 hSw;have q3:=ag x3 hSw;have q4:=ag x4 hSw;have q5:=ag x5 hSw;have q6:=ag x6 hSw;go_simp;(try with_reducible rfl));refine tk 9 ?_;refine tk 10 ?_;refine tr 8 fun K hK=>?_
     go_simp;go_at_call 84;refine(ES.out m2 eI _ (X2.c.below hHeld) (T2.sub (aw hHeld))).mono ?_;rintro e w2 ⟨rfl,hb2⟩;have hk:=hHeld.trans (hb2.mono hHeld.size);clear hHeld;go_wp2_with fail
     refine hK.out _ _ hk (fun hHeld=>?_);clear hK K hk
     try simp only[bK,bL,bM,bN,bO]
     refine tr 11 fun K hK=>?_
     go_simp;go_at_call 118;refine(vo.out _).mono ?_;intro e w4 hp;obtain⟨he,hb4⟩:=hp;have hk:=hHeld.trans (hb4.mono hHeld.size);clear hHeld hb4;cases hw:cD gm a5 jw x y with
     |none=>
      rw[hw] at he hh;have he:e=dy 2 2:=he;subst he;have F1:Hid (aX p cf.allowed n d w.heap.size ve (fun x=>.returned (.int .u32 x)) (.stop 2 2 m2) w (dy 2 2) w4):=af (dG (X2.c.me.below hk) (V2.below hk) rfl);have hz:=af (show aF cf (aI cf k) d (ai fb) ⟨a0,7,a2,a3,a4,a5⟩ kids m=.stop 2 2 m2 from hh.out);clear hK hk hh;go_wp2_with fail
      refine ar ?_;rw[HR.out,hz.out];exact F1.out
     |some r=>
      rw[hw] at he hh;have he:e=.returned (.int .u32 r):=he;subst he;have F1:Hid (aX p cf.allowed n d w.heap.size ve (fun x=>.returned (.int .u32 x)) (.ok r m2) w (.returned (.int .u32 r)) w4):=af (iJ (X2.below hk) (V2.below hk) rfl);have hz:=af (show aF cf (aI cf k) d (ai fb) ⟨a0,7,a2,a3,a4,a5⟩ kids m=.ok r m2 from hh.out);clear hh;go_wp2_with fail
      refine hK.out _ _ hk (fun hHeld=>?_);clear hK K hk
      try simp only[bK,bL,bM,bN,bO]
      refine tk 12 ?_;refine td ?_;go_wp2_with fail
      rw[HR.out,hz.out];exact F1.out
end
section
open Go.Shelf
theorem MV {w:World} {base:Nat} {e:TypeId} {v:Value} {k:Nat} {ys:List Value} (h:w.ownsRow base e 1 v k ys) {g:Nat} (hg:v.ownBlock=some g) (i:Nat) (u:Value):(w.setCell ⟨g,i,none⟩ u).ownsRow base e 1 v k (ys.set i u):=by
 obtain⟨h1,h2⟩:=h;refine⟨by simpa using h1,?_⟩;rcases h2 with⟨rfl,_⟩|⟨g',cap,cur,rfl,h3,h4,h5,h6,h7,h8⟩
 ·cases hg
 ·cases hg;refine .inr ⟨g',cap,cur.set! i u,rfl,h3,Bx.set (w:=w) (q:=g') h4 i u,h5,h6,by simpa using h7,?_⟩;rw[←h8];simp[List.take_set]
/-! ### a local's word -/
def kD (s:ByteArray) (v:Int):List dQ→List dQ
 |[]=>[]
 |c::r=>if (cJ s r).isSome then c::kD s v r else match getM s c with
  |some x=>aY s ((x.1.1,v),x.2) c::r
  |none=>c::r
theorem sK (s:ByteArray):∀(fb:List dQ) (a:Option ((Int×Int)×Nat)),fb.foldl (fun a sc=>match getM s sc with|some t=>some t|none=>a) a=match cJ s fb with|some x=>some x|none=>a
 |[],a=>rfl
 |c::r,a=>by
  have ih:=sK s r;have e:cJ s (c::r)=r.foldl (fun a sc=>match getM s sc with|some t=>some t|none=>a) (match getM s c with|some t=>some t|none=>none):=rfl;rw[List.foldl_cons,e,ih,ih];cases cJ s r with
  |some x=>rfl
  |none=>cases getM s c<;>rfl
theorem mS (s:ByteArray) (c:dQ) (r:List dQ):cJ s (c::r)=match cJ s r with|some x=>some x|none=>getM s c:=by
 have e:cJ s (c::r)=r.foldl (fun a sc=>match getM s sc with|some t=>some t|none=>a) (getM s c):=by
  unfold cJ;simp only[List.foldl_cons];cases getM s c<;>rfl
 exact e.trans (sK s r (getM s c))
theorem pB (s:ByteArray) (v:Int):∀fb:List dQ,ai (kD s v fb)=rM s v (ai fb)
 |[]=>rfl
 | c::r=>by
  have h1:ml s (List.map j5 r)=(cJ s r).map (·.1):=j6 s r;have h2:getM s (j5 c)=(getM s c).map (·.1):=di (fun x:(Int×Int)×Nat=>x.1) s c;have ih:=pB s v r;unfold ai at ih⊢;simp only[kD,rM,List.map_cons,h1,h2];cases hs:cJ s r with
  |some x=>simp only[Option.isSome_some,Option.map_some,if_true,List.map_cons,ih]
  | none=>
   simp only[Option.isSome_none,Option.map_none,Bool.false_eq_true,if_false];cases hg:getM s c with
   |none=>simp
   |some x=>
    simp only[Option.map_some,List.map_cons,List.cons.injEq,and_true];exact(dA (fun x:(Int×Int)×Nat=>x.1) s ((x.1.1,v),x.2) c).symm
theorem CZ {α:Type} {s:ByteArray} {c:List (ByteArray×α)} {x:α} (h:getM s c=some x) (v:α):∃j,c[j]? =some (s,x)∧aY s v c=c.set j (s,v):=by
 unfold getM at h;cases hl:fe s c 0 with
 |none=>rw[hl] at h;cases h
 | some a=>
  obtain⟨j,y⟩:=a;rw[hl] at h;have e:y=x:=by simpa using h
  rw[e] at hl;obtain⟨h1,-,h3⟩:=mF s x c j x hl;refine⟨j,h3,?_⟩;clear h;revert hl
  suffices∀(c:List (ByteArray×α)) (j:Nat) (x:α),fe s c 0=some (j,x)→aY s v c=c.set j (s,v) from this c j x
  intro c
  induction c with
  |nil=>intro j x h;cases h
  | cons z r ih=>
   intro j x h;simp only[fe] at h;cases hq:s==z.1
   ·rw[hq,fF] at h;simp only[Bool.false_eq_true,if_false] at h;cases hr:fe s r 0 with
    |none=>rw[hr] at h;cases h
    |some a=>
     obtain⟨a1,a2⟩:=a;rw[hr] at h;simp only[Option.map_some,Option.some.injEq,Prod.mk.injEq] at h;obtain⟨rfl,rfl⟩:=h;simp only[aY,hq,Bool.false_eq_true,if_false,ih a1 a2 hr,Nat.zero_add,List.set_cons_succ]
   ·rw[hq] at h;simp only[if_true,Option.some.injEq,Prod.mk.injEq] at h;obtain⟨rfl,rfl⟩:=h;simp[aY,hq]
theorem yF {α β:Type} {f:α→β} {l:List α} (nd:(l.map f).Nodup) {i j:Nat} (hi:i<l.length) (hj:j<l.length) (J8:i≠j):f l[i]≠f l[j]:=by
 have h:=List.pairwise_iff_getElem.1 nd;rcases Nat.lt_or_ge i j with q|q
 ·have:=h i j (by simpa using hi) (by simpa using hj) q;simpa using this
 ·have:=h j i (by simpa using hj) (by simpa using hi) (by omega);have h2:f l[j]≠f l[i]:=by simpa using this
  exact h2.symm
abbrev lY (sc:dQ):List (ByteArray×Value):=sc.map fun x=>(x.1,lV x.2)
theorem pC {s:ByteArray} {v:Int} {x:(Int×Int)×Nat}:∀{fb:List dQ},cJ s fb=some x→∃i,fb.flatten[i]? =some (s,x)∧(kD s v fb).flatten=fb.flatten.set i (s,((x.1.1,v),x.2))∧(kD s v fb).map lY=fb.map lY
 |[],h=>by cases h
 | c ::r,h=>by
  rw[mS] at h;cases hs:cJ s r with
  | some y=>
   rw[hs] at h;cases h;obtain⟨i,h1,h2,h3⟩:=pC (v:=v) hs;refine⟨c.length+i,?_,?_,?_⟩
   ·rw[List.flatten_cons,List.getElem?_append_right (by omega)];simpa using h1
   ·simp only[kD,hs,Option.isSome_some,if_true,List.flatten_cons,h2];rw[List.set_append_right _ _ (by omega)];simp
   ·simp only[kD,hs,Option.isSome_some,if_true,List.map_cons,h3]
  | none=>
   rw[hs] at h;simp only[] at h;obtain⟨j,h1,h2⟩:=CZ h ((x.1.1,v),x.2);have hj:j<c.length:=(List.getElem?_eq_some_iff.1 h1).1;refine⟨j,?_,?_,?_⟩
   ·rw[List.flatten_cons,List.getElem?_append_left hj,h1]
   ·simp only[kD,hs,Option.isSome_none,Bool.false_eq_true,if_false,h,List.flatten_cons,h2];rw[List.set_append_left _ _ hj]
   ·simp only[kD,hs,Option.isSome_none,Bool.false_eq_true,if_false,h,List.map_cons,List.cons.injEq,and_true];have e:=(dA (fun y:(Int×Int)×Nat=>lV y) s ((x.1.1,v),x.2) c).symm
    show(aY s ((x.1.1,v),x.2) c).map (fun y=>(y.1,lV y.2))=_
    rw[e];have h4:getM s (c.map fun y=>(y.1,lV y.2))=some (lV x):=by rw[di lV,h];rfl
    obtain⟨j2,h5,h6⟩:=CZ h4 (lV ((x.1.1,v),x.2));rw[h6];apply List.ext_getElem?;intro i;rw[List.getElem?_set];split
    ·rename_i he;subst he;split
     ·exact h5.symm
     ·rename_i hh;exact absurd (List.getElem?_eq_some_iff.1 h5).1 hh
    ·rfl
section
variable {w w':World} {n F:Nat} {fb:List dQ} {g cap:Nat} {ms:List Nat}
theorem mO.flat (h:mO w n F fb g cap ms) {y:ByteArray×((Int×Int)×Nat)} (hy:y∈fb.flatten):Bx w y.2.2 #[.int .u32 y.2.1.2,.int .u8 y.2.1.1] 201∧n≤y.2.2:=by
 obtain⟨sc,h1,h2⟩:=List.mem_flatten.1 hy;exact⟨h.boxes sc h1 y h2,h.far.2.1 sc h1 y h2⟩
theorem mO.Q5 (h:mO w n F fb g cap ms) {s:ByteArray} {x:(Int×Int)×Nat} (hx:cJ s fb=some x) (v:Int):mO (w.setCell ⟨x.2,0,none⟩ (.int .u32 v)) n F (kD s v fb) g cap ms:=by
 have hg:=aj w ⟨x.2,0,none⟩ (.int .u32 v);obtain⟨i,h1,h2,h3⟩:=pC (v:=v) hx;have hl:(kD s v fb).length=fb.length:=by simpa using congrArg List.length h3
 have hm:=List.mem_of_getElem? h1;have hb:=(h.flat hm).1;have new:Bx (w.setCell ⟨x.2,0,none⟩ (.int .u32 v)) x.2 #[.int .u32 v,.int .u8 x.1.1] 201:=by simpa using hb.set 0 (.int .u32 v)
 have each:∀y∈(kD s v fb).flatten,Bx (w.setCell ⟨x.2,0,none⟩ (.int .u32 v)) y.2.2 #[.int .u32 y.2.1.2,.int .u8 y.2.1.1] 201∧n≤y.2.2:=by
  intro y hy;rw[h2] at hy;obtain⟨j,hj,rfl⟩:=List.getElem_of_mem hy;by_cases J8:i=j
  ·subst J8;simp only[List.getElem_set_self];exact⟨new,(h.flat hm).2⟩
  ·rw[List.getElem_set_ne J8];have qC:j<fb.flatten.length:=by simpa using hj
   have gq:=(List.getElem?_eq_some_iff.1 h1).1;have e1:=(List.getElem?_eq_some_iff.1 h1).2;refine⟨(h.flat (List.getElem_mem qC)).1.on hg ?_,(h.flat (List.getElem_mem qC)).2⟩;intro e;have e2:(fb.flatten[j]).2.2=(fb.flatten[i]).2.2:=by rw[e1];simpa using e
   exact yF (f:=fun x:ByteArray×((Int×Int)×Nat)=>x.2.2) h.apart qC gq (fun e=>J8 e.symm) e2
 refine⟨by rw[hl];exact h.box.on hg (by have:=h.box.dc hb (by decide);simpa using this),by rw[hl];exact h.row.kept hg (.inr (by have:=eK hb h.row (by decide);simpa[Value.ownBlock] using this)),by rw[hl];exact h.len,?_,?_,h.nd,?_,⟨h.far.1,fun sc q1 y q2=>(each y (List.mem_flatten.2 ⟨sc,q1,q2⟩)).2,h.far.2.2⟩,by rw[hl];exact h.le⟩
 ·intro k k1 k2;have e:lY ((kD s v fb)[k])=lY (fb[k]'(by omega)):=by
   have:=congrArg (fun l=>l[k]?) h3;simpa[k2,(by omega:k<fb.length)] using this
  rw[show((kD s v fb)[k].map fun x=>(x.1,lV x.2))=lY ((kD s v fb)[k]) from rfl,e];have kA:=h.maps k k1 (by omega);exact kA.on hg (by have:=hb.dF kA;simpa using this)
 ·intro sc q1 y q2;exact(each y (List.mem_flatten.2 ⟨sc,q1,q2⟩)).1
 ·rw [h2,List.map_set];have:(fb.flatten.map fun x=>x.2.2).set i x.2=fb.flatten.map fun x=>x.2.2:=by
   apply List.ext_getElem?;intro j;rw[List.getElem?_set];split
   ·rename_i he;subst he;split
    ·rw[List.getElem?_map,h1];rfl
    ·rename_i hh;rw[List.getElem?_eq_none (by omega)]
   ·rfl
  rw[this];exact h.apart
end
/-! ### blocks of a frame -/
def FS (F g:Nat) (ms:List Nat) (fb:List dQ) (b:Nat):Prop:=b=F∨b=g∨b∈ms∨∃y∈fb.flatten,y.2.2=b
theorem mO.fs {w:World} {n F:Nat} {fb:List dQ} {g cap:Nat} {ms:List Nat} (h:mO w n F fb g cap ms) {b:Nat} (hb:FS F g ms fb b):n≤b∧b<w.heap.size:=by
 rcases hb with rfl|rfl|hb|⟨y,hy,rfl⟩
 ·exact⟨h.far.2.2,h.box.lt⟩
 ·exact h.row.lt _ rfl
 ·refine⟨h.far.1 b hb,?_⟩;obtain⟨i,hi,rfl⟩:=List.getElem_of_mem hb;exact(h.maps i hi (by have:=h.len;omega)).lt
 ·exact⟨(h.flat hy).2,(h.flat hy).1.lt⟩
structure KS (p:Pt) (ve aR:EvS) (old new:Nat→Prop) (w w1:World):Prop where
 k:aU (fun b=>p.TE ve b∨old b) w.heap.size w w1
 v:Vc ve aR w.heap.size
 f:∀b,new b→old b∨w.heap.size≤b
theorem KS.size {p:Pt} {ve aR:EvS} {old new:Nat→Prop} {w w1:World} (h:KS p ve aR old new w w1):w.heap.size≤w1.heap.size:=h.k.size
theorem KS.refl (p:Pt) (ve:EvS) (old:Nat→Prop) (w:World):KS p ve ve old old w w:=⟨aU.refl _ _ _,Vc.refl _ _,fun _ h=>.inl h⟩
theorem KV.ks {p:Pt} {ve aR:EvS} {w w1:World} (h:KV p ve aR w w1) (old:Nat→Prop):KS p ve aR old old w w1:=⟨h.k.mono (Nat.le_refl _) fun b _ q=>.inl q,h.v,fun _ h=>.inl h⟩
theorem KS.trans {p:Pt} {ve aR eI:EvS} {old mid new:Nat→Prop} {w w1 w2:World} (h:KS p ve aR old mid w w1) (h2:KS p aR eI mid new w1 w2):KS p ve eI old new w w2:=
 ⟨h.k.trans (h2.k.mono h.size fun b hb q=>by
  rcases q with q|q
  ·exact .inl (CV h.v hb q)
  ·rcases h.f b q with r|r
   ·exact .inr r
   ·omega),h.v.trans h2.v h.size,fun b hb=>by
  rcases h2.f b hb with q|q
  ·exact h.f b q
  ·exact .inr (Nat.le_trans h.size q)⟩
theorem KS.below {p:Pt} {ve aR:EvS} {old new:Nat→Prop} {w w1 w2:World} (h:KS p ve aR old new w w1) (hb:Below w1.heap.size w1 w2):KS p ve aR old new w w2:=h.trans ((KV.of p aR hb).ks new)
theorem KS.one {p:Pt} {ve:EvS} {old new:Nat→Prop} {w w1:World} {b:Nat} (hg:w.grownBy w1 (some b)) (hb:old b) (hf:∀b,new b→old b∨w.heap.size≤b):KS p ve ve old new w w1:=
 ⟨aU.gr hg (Nat.le_refl _) fun k e=>by cases e;exact .inl (.inr hb),Vc.refl _ _,hf⟩
def Aside (w:World) (b:Nat):Prop:=(∃cs t,Bx w b cs t∧t≠119∧t≠52∧t≠127)∨∃es c,w.heap[b]? =some (.map es c)
theorem Aside.row {w:World} {b base size k:Nat} {e:TypeId} {v:Value} {ys:List Value} (h:Aside w b) (hr:w.ownsRow base e size v k ys) (he:e=52∨e=127):v.ownBlock≠some b:=fun hq=>by
 obtain⟨cs,hb⟩:=dz hr hq;unfold Bx at hb;rcases h with⟨lq,t,h1,h2,h3,h4⟩|⟨es,c,h1⟩
 ·unfold Bx at h1;rw[h1] at hb;simp at hb;obtain⟨-,rfl⟩:=hb;rcases he with q|q
  ·exact h3 q
  ·exact h4 q
 ·rw[h1] at hb;cases hb
theorem iy.aside {p:Pt} {a n d:Nat} {m:MS} {ve:EvS} {w w':World} (h:iy p a n d m ve w) {b:Nat} (hb:Aside w b) (hg:w.grownBy w' (some b)):iy p a n d m ve w':=by
 obtain⟨en,va,fa,hx⟩:=h.box;obtain⟨ats,he⟩:=h.evs;have hM:some p.M≠some b:=by
  intro e;cases e;unfold Bx at hx;rcases hb with⟨lq,t,h1,h2,h3,h4⟩|⟨es,c,h1⟩
  ·unfold Bx at h1;rw[h1] at hx;simp at hx;exact h2 hx.2
  ·rw[h1] at hx;cases hx
 have kp:∀{base size k:Nat} {e:TypeId} {v:Value} {ys:List Value},w.ownsRow base e size v k ys→(e=52∨e=127)→w'.ownsRow base e size v k ys:=fun{base size k e v ys} hr h1=>hr.kept hg (.inr (hb.row hr h1))
 exact⟨⟨en,va,fa,hx.on hg hM⟩,h.len,fun i h1 h2=>kp (h.words i h1 h2) (.inl rfl),h.nd,⟨ats,he.len,he.at_,kp he.row (.inr rfl),fun i h1 h2=>kp (he.args i h1 h2) (.inl rfl)⟩,Nat.le_trans h.size hg.size,h.mlt⟩
section
variable {p:Pt} {cf:Cf} {u:UT} {n:Nat} {aN:List Nat} {d:Nat} {m:MS} {ve:EvS} {F:Nat} {fb:List dQ} {g cap:Nat} {ms:List Nat} {w w':World}
theorem dW.aside (hX:dW p cf u n aN d m ve F fb g cap ms w) {b:Nat} (hb:Aside w b) (hn:n≤b) (hg:w.grownBy w' (some b)) {jU:List dQ} {g1 iQ:Nat} {zn:List Nat} (hF:mO w' n F jU g1 iQ zn) (hr:Fr.Rg (ai jU)):dW p cf u n aN d m ve F jU g1 iQ zn w':=
 ⟨⟨hX.c.st.move hX.c.me (k:=n) (aU.gr hg hX.c.me.size fun k e=>by cases e;exact .inr hn) (Nat.le_refl _),hX.c.me.aside hb hg,hF,hX.c.pos⟩,hX.inv,hX.rg,hr⟩
theorem dW.Q5 (hX:dW p cf u n aN d m ve F fb g cap ms w) {s:ByteArray} {x:(Int×Int)×Nat} (hx:cJ s fb=some x) {v:Int} (hv:U v):
  dW p cf u n aN d m ve F (kD s v fb) g cap ms (w.setCell ⟨x.2,0,none⟩ (.int .u32 v))∧KS p ve ve (FS F g ms fb) (FS F g ms (kD s v fb)) w (w.setCell ⟨x.2,0,none⟩ (.int .u32 v)):=by
 obtain⟨i,h1,h2,h3⟩:=pC (v:=v) hx;have hm:=List.mem_of_getElem? h1;have hb:=hX.c.fr.flat hm;have hg:=aj w ⟨x.2,0,none⟩ (.int .u32 v);refine⟨hX.aside (.inl ⟨_,_,hb.1,by decide,by decide,by decide⟩) hb.2 hg (hX.c.fr.Q5 hx v) (by rw[pB];exact vZ hv hX.I6),KS.one hg (.inr (.inr (.inr ⟨_,hm,rfl⟩))) fun b hq=>.inl ?_⟩;rcases hq with q|q|q|⟨y,hy,q⟩
 ·exact .inl q
 ·exact .inr (.inl q)
 ·exact .inr (.inr (.inl q))
 ·refine .inr (.inr (.inr ?_));rw[h2] at hy;rcases List.mem_or_eq_of_mem_set hy with r|r
  ·exact⟨y,r,q⟩
  ·subst r;exact⟨_,hm,q⟩
end
end
section
open Go.Shelf
section
variable {p:Pt} {cf:Cf} {u:UT} {n:Nat} {aN:List Nat} {d:Nat} {m:MS} {ve:EvS} {F:Nat} {fb:List dQ} {g cap:Nat} {ms:List Nat} {w w':World}
theorem dW.Q6 (hX:dW p cf u n aN d m ve F fb g cap ms w):Aside w g:=by
 obtain⟨cs,hb⟩:=dz hX.c.fr.row rfl;exact .inl ⟨cs,_,hb,by decide,by decide,by decide⟩
theorem dW.I9 (hX:dW p cf u n aN d m ve F fb g cap ms w):Aside w F:=.inl ⟨_,_,hX.c.fr.box,by decide,by decide,by decide⟩
theorem mO.mV (h:mO w n F fb g cap ms) {b:Nat} {l:List (ByteArray×Value)} (hm:Mp w b l):b≠g∧b≠F:=⟨jc h.row hm,h.box.dF hm⟩
theorem mO.Bf (h:mO w n F fb g cap ms) {y:ByteArray×((Int×Int)×Nat)} (hy:y∈fb.flatten):y.2.2≠g∧y.2.2≠F:=⟨fun e=>eK (h.flat hy).1 h.row (by decide) e.symm,(h.flat hy).1.dc h.box (by decide)⟩
theorem jN {fb:List dQ} {sc:dQ} {y:ByteArray×((Int×Int)×Nat)} (h1:sc∈fb) (h2:y∈sc):y∈fb.flatten:=List.mem_flatten.2 ⟨sc,h1,h2⟩
theorem dW.push (hX:dW p cf u n aN d m ve F fb g cap ms w) {w1 w2:World} {v':Value} (h1:w1=w.alloc (.map #[] 0))
  (hA:aV w1 w2 n 210 1 (.slice (some ⟨g,0,none⟩) fb.length cap) v' fb.length 1 (ms.map fun m=>.map (some m)) [.map (some w.heap.size)]) (hle:fb.length+1≤100000000):
  ∃g' cap',v'=.slice (some ⟨g',0,none⟩) (fb.length+1) cap'∧dW p cf u n aN d m ve F (fb++[[]]) g' cap' (ms++[w.heap.size]) (w2.setCell ⟨F,0,none⟩ v')∧
   KS p ve ve (FS F g ms fb) (FS F g' (ms++[w.heap.size]) (fb++[[]])) w (w2.setCell ⟨F,0,none⟩ v'):=by
 obtain⟨g',cap',rfl⟩:=gL hA.own;have b1:Below w.heap.size w w1:=by rw[h1];exact(Below.refl _ w).alloc (Nat.le_refl _) _
 have X1:=hX.below b1;have f1:=X1.c.fr;have f2:mO w2 n F fb g cap ms:=⟨f1.box.on hA.grown (f1.box.not_row f1.row (by decide)),hA.old,f1.len,fun i q1 q2=>(f1.maps i q1 q2).on hA.grown (by have:=(f1.mV (f1.maps i q1 q2)).1;simpa[Value.ownBlock] using this),
  fun sc q1 y q2=>(f1.boxes sc q1 y q2).on hA.grown (by have:=(f1.Bf (jN q1 q2)).1;simpa[Value.ownBlock] using this),f1.nd,f1.apart,f1.far,f1.le⟩
 have X2:=X1.aside X1.Q6 (f1.row.lt _ rfl).1 hA.grown f2 hX.I6;have hg:=aj w2 ⟨F,0,none⟩ (.slice (some ⟨g',0,none⟩) (fb.length+1) cap');have m1:Mp w1 w.heap.size (lY []):=by rw[h1];exact Mp.new w
 have m2:Mp w2 w.heap.size (lY []):=m1.on hA.grown (by have:=(f1.mV m1).1;simpa[Value.ownBlock] using this);have tB:(fb++[[]]).flatten=fb.flatten:=by simp
 have f3:mO (w2.setCell ⟨F,0,none⟩ (.slice (some ⟨g',0,none⟩) (fb.length+1) cap')) n F (fb++[[]]) g' cap' (ms++[w.heap.size]):=by
  refine⟨by simpa using f2.box.set 0 (.slice (some ⟨g',0,none⟩) (fb.length+1) cap'),?_,by simp[f1.len],?_,?_,?_,by rw[tB];exact f1.apart,⟨?_,?_,f1.far.2.2⟩,by simpa using hle⟩
  ·have:=hA.own.kept hg (.inr (by have:=f2.box.not_row hA.own (by decide);simpa[Value.ownBlock] using this.symm));simpa using this
  ·intro i q1 q2;by_cases hi:i<fb.length
   ·have e1:(ms++[w.heap.size])[i]=ms[i]'(by have:=f1.len;omega):=List.getElem_append_left (by have:=f1.len;omega);have e2:(fb++[[]])[i]=fb[i]:=List.getElem_append_left hi;rw[e1,e2];have hm:=f2.maps i (by have:=f1.len;omega) hi;exact hm.on hg (by have:=(f2.mV hm).2;simpa using this)
   ·have gq:i=fb.length:=by simp at q2;omega
    subst gq;have e1:(ms++[w.heap.size])[fb.length]=w.heap.size:=by rw[List.getElem_append_right (by have:=f1.len;omega)];simp
    have e2:(fb++[[]])[fb.length]=[]:=by rw[List.getElem_append_right (by omega)];simp
    rw[e1,e2];exact m2.on hg (by have:=(f2.mV m2).2;simpa using this)
  ·intro sc q1 y q2;have hy:y∈fb.flatten:=by rw[←tB];exact jN q1 q2
   exact(f2.flat hy).1.on hg (by have:=(f2.Bf hy).2;simpa using this)
  ·rw[List.nodup_append];refine⟨f1.nd,by simp,fun a ha b hb=>?_⟩;obtain⟨i,hi,rfl⟩:=List.getElem_of_mem ha;have:=(hX.c.fr.maps i hi (by have:=f1.len;omega)).lt;simp at hb;omega
  ·intro q hq;rcases List.mem_append.1 hq with hq|hq
   ·exact f1.far.1 q hq
   ·simp at hq;rw[hq];exact hX.c.me.size
  ·intro sc q1 y q2;exact(f1.flat (by rw[←tB];exact jN q1 q2)).2
 have K:KS p ve ve (FS F g ms fb) (FS F g ms fb) w (w2.setCell ⟨F,0,none⟩ (.slice (some ⟨g',0,none⟩) (fb.length+1) cap')):=(((KV.of p ve b1).ks _).trans (KS.one hA.grown (.inr (.inl rfl)) fun b hb=>.inl hb)).trans (KS.one hg (.inl rfl) fun b hb=>.inl hb);refine⟨g',cap',rfl,X2.aside X2.I9 f2.far.2.2 hg f3 ?_,⟨K.k,K.v,?_⟩⟩
 ·intro sc q;have:sc∈ai fb++[[]]:=by simpa[ai] using q
  rcases List.mem_append.1 this with r|r
  ·exact hX.I6 sc r
  ·simp at r;subst r;intro x hx;simp at hx
 ·intro b hb;rcases hb with q|q|q|⟨y,hy,q⟩
  ·exact .inl (.inl q)
  ·rcases hA.place with r|⟨g0,r,r1,-⟩
   ·have:g'=g:=by simpa[Value.ownBlock] using r
    exact .inl (.inr (.inl (q.trans this)))
   ·have:g'=g0:=by simpa[Value.ownBlock] using r
    have:=b1.size;exact .inr (by omega)
  ·rcases List.mem_append.1 q with r|r
   ·exact .inl (.inr (.inr (.inl r)))
   ·simp at r;exact .inr (by omega)
  ·exact .inl (.inr (.inr (.inr ⟨y,by rwa[tB] at hy,q⟩)))
theorem dW.pop {c:dQ} (hX:dW p cf u n aN d m ve F (fb++[c]) g cap ms w):
  dW p cf u n aN d m ve F fb g cap ms.dropLast (w.setCell ⟨F,0,none⟩ (.slice (some ⟨g,0,none⟩) fb.length cap))∧
   KS p ve ve (FS F g ms (fb++[c])) (FS F g ms.dropLast fb) w (w.setCell ⟨F,0,none⟩ (.slice (some ⟨g,0,none⟩) fb.length cap)):=by
 have hg:=aj w ⟨F,0,none⟩ (.slice (some ⟨g,0,none⟩) fb.length cap);have h:=hX.c.fr;have hl:=h.len;simp at hl;have f3:mO (w.setCell ⟨F,0,none⟩ (.slice (some ⟨g,0,none⟩) fb.length cap)) n F fb g cap ms.dropLast:=by
  have ap:=h.apart;rw[List.flatten_append,List.map_append,List.nodup_append] at ap;refine⟨by simpa using h.box.set 0 (.slice (some ⟨g,0,none⟩) fb.length cap),?_,by simp[hl],?_,?_,h.nd.sublist (List.dropLast_sublist _),ap.1,⟨fun q hq=>h.far.1 q (List.dropLast_subset _ hq),fun sc q1 y q2=>h.far.2.1 sc (by simp[q1]) y q2,h.far.2.2⟩,by have:=h.le;simp at this;omega⟩
  ·have r2:=lZ h.row (m:=fb.length) (by simp);rw[←List.map_take,show fb.length*1=ms.length-1 by omega,←List.dropLast_eq_take] at r2;exact r2.kept hg (.inr (by have:=eK h.box h.row (by decide);simpa[Value.ownBlock] using this))
  ·intro i q1 q2;have hi:i<ms.length:=by simp at q1;omega
   have e1:ms.dropLast[i]=ms[i]:=by simp
   have e2:(fb++[c])[i]'(by simp;omega)=fb[i]:=List.getElem_append_left q2;rw[e1,←e2];have hm:=h.maps i hi (by simp;omega);exact hm.on hg (by have:=(h.mV hm).2;simpa using this)
  ·intro sc q1 y q2;have hy:y∈(fb++[c]).flatten:=jN (sc:=sc) (by simp[q1]) q2;exact(h.flat hy).1.on hg (by have:=(h.Bf hy).2;simpa using this)
 refine⟨hX.aside hX.I9 h.far.2.2 hg f3 (fun sc q=>hX.I6 sc (by simp only[ai,List.map_append,List.mem_append];exact .inl q)),KS.one hg (.inl rfl) fun b hb=>.inl ?_⟩;rcases hb with q|q|q|⟨y,hy,q⟩
 ·exact .inl q
 ·exact .inr (.inl q)
 ·exact .inr (.inr (.inl (List.dropLast_subset _ q)))
 ·exact .inr (.inr (.inr ⟨y,by simp[List.flatten_append,hy],q⟩))
theorem dW.give {c:dQ} (hX:dW p cf u n aN d m ve F (fb++[c]) g cap ms w) {s:ByteArray} {t v:Int} (hn:getM s c=none) (hv:U v) {m0:Nat} (pd:ms[fb.length]? =some m0) {w1 w2:World} (h1:w1=w.alloc (.cells #[.int .u32 v,.int .u8 t] 201))
  (hg:w1.grownBy w2 (some m0)) (hp:Mp w2 m0 (aY s (lV ((t,v),w.heap.size)) (lY c))):
  dW p cf u n aN d m ve F (fb++[aY s ((t,v),w.heap.size) c]) g cap ms w2∧KS p ve ve (FS F g ms (fb++[c])) (FS F g ms (fb++[aY s ((t,v),w.heap.size) c])) w w2:=by
 have b1:Below w.heap.size w w1:=by rw[h1];exact(Below.refl _ w).alloc (Nat.le_refl _) _
 have X1:=hX.below b1;have h:=X1.c.fr;have hl:=h.len;simp at hl;have hlt:fb.length<ms.length:=by omega
 have kF:ms[fb.length]=m0:=by rw[List.getElem?_eq_getElem hlt] at pd;simpa using pd
 have D6:m0∈ms:=by rw[←kF];exact List.getElem_mem hlt
 have fH:Mp w1 m0 (lY c):=by
  have:=h.maps fb.length hlt (by simp);rw[kF] at this;simpa using this
 have Gd:Bx w1 w.heap.size #[.int .u32 v,.int .u8 t] 201:=by rw[h1];exact Bx.new w _ _
 have hpl:aY s ((t,v),w.heap.size) c=c++[(s,((t,v),w.heap.size))]:=jV s _ c (by unfold getM at hn;simpa using hn);have tB:(fb++[aY s ((t,v),w.heap.size) c]).flatten=(fb++[c]).flatten++[(s,((t,v),w.heap.size))]:=by rw[hpl];simp
 have each:∀y∈(fb++[aY s ((t,v),w.heap.size) c]).flatten,Bx w2 y.2.2 #[.int .u32 y.2.1.2,.int .u8 y.2.1.1] 201∧n≤y.2.2:=by
  intro y hy;rw[tB] at hy;rcases List.mem_append.1 hy with q|q
  ·exact⟨(h.flat q).1.on hg (by have:=(h.flat q).1.dF fH;simpa using this.symm),(h.flat q).2⟩
  ·simp at q;subst q;exact⟨Gd.on hg (by have:=Gd.dF fH;simpa using this.symm),hX.c.me.size⟩
 have f2:mO w2 n F (fb++[aY s ((t,v),w.heap.size) c]) g cap ms:=by
  refine⟨by simpa using h.box.on hg (by have:=(h.mV fH).2;simpa using this.symm),by simpa using h.row.kept hg (.inr (by have:=(h.mV fH).1;simpa[Value.ownBlock] using this.symm)),by simp[hl],?_,fun sc q1 y q2=>(each y (jN q1 q2)).1,h.nd,?_,⟨h.far.1,fun sc q1 y q2=>(each y (jN q1 q2)).2,h.far.2.2⟩,by simpa using h.le⟩
  ·intro i q1 q2;by_cases hi:i<fb.length
   ·have e2:(fb++[aY s ((t,v),w.heap.size) c])[i]=fb[i]:=List.getElem_append_left hi;have e3:(fb++[c])[i]'(by simp;omega)=fb[i]:=List.getElem_append_left hi;rw[e2,←e3];refine(h.maps i q1 (by simp;omega)).on hg ?_;intro e;have e4:ms[i]=ms[fb.length]:=by rw[kF];simpa using e
    exact List.pairwise_iff_getElem.1 h.nd i fb.length q1 hlt (by omega) e4
   ·have gq:i=fb.length:=by omega
    subst gq;rw[kF];have e2:(fb++[aY s ((t,v),w.heap.size) c])[fb.length]=aY s ((t,v),w.heap.size) c:=by simp
    rw[e2];have:=(dA (fun y:(Int×Int)×Nat=>lV y) s ((t,v),w.heap.size) c);rw[show((aY s ((t,v),w.heap.size) c).map fun x=>(x.1,lV x.2))=_ from this.symm];exact hp
  ·rw[tB,List.map_append,List.nodup_append];refine⟨h.apart,by simp,fun a ha b hb=>?_⟩;obtain⟨y,hy,rfl⟩:=List.mem_map.1 ha;simp at hb;subst hb;have:=(hX.c.fr.flat hy).1.lt;omega
 have X2:=X1.aside (.inr (by obtain⟨es,k,q,_⟩:=fH;exact⟨es,k,q⟩)) (h.far.1 m0 D6) hg f2 (by
  have e:ai (fb++[aY s ((t,v),w.heap.size) c])=iE s (t,v) (ai (fb++[c])):=by
   unfold iE ai;simp only[List.map_append,List.map_cons,List.map_nil,List.dropLast_concat,List.getLastD_concat]
   congr 2
   exact(dA (fun y:(Int×Int)×Nat=>y.1) s ((t,v),w.heap.size) c).symm
  rw[e];exact yt hv hX.I6)
 have K:KS p ve ve (FS F g ms (fb++[c])) (FS F g ms (fb++[c])) w w2:=((KV.of p ve b1).ks _).trans (KS.one hg (.inr (.inr (.inl D6))) fun b hb=>.inl hb);refine⟨X2,⟨K.k,K.v,fun b hb=>?_⟩⟩;rcases hb with q|q|q|⟨y,hy,q⟩
 ·exact .inl (.inl q)
 ·exact .inl (.inr (.inl q))
 ·exact .inl (.inr (.inr (.inl q)))
 ·rw[tB] at hy;rcases List.mem_append.1 hy with r|r
  ·exact .inl (.inr (.inr (.inr ⟨y,r,q⟩)))
  ·simp at r;subst r;have q2:w.heap.size=b:=q;exact .inr (by omega)
theorem Bg (fb:List dQ) (c:dQ) (s:ByteArray) (x:(Int×Int)×Nat):ai (fb++[aY s x c])=iE s x.1 (ai (fb++[c])):=by
 unfold iE ai;simp only[List.map_append,List.map_cons,List.map_nil,List.dropLast_concat,List.getLastD_concat]
 congr 2
 exact(dA (fun y:(Int×Int)×Nat=>y.1) s x c).symm
theorem dW.Wa (hX:dW p cf u n aN d m ve F fb g cap ms w) {s:ByteArray} {i b:Nat} (hi:i<p.xs.length) (hpl:placeOf cf s=i) (hb:p.xs[i].ownBlock=some b) (j:Nat) {v:Int} (hv:U v):
  dW p cf u n aN d (fM cf m s j v) ve F fb g cap ms (w.setCell ⟨b,j,none⟩ (.int .u32 v))∧KV p ve ve w (w.setCell ⟨b,j,none⟩ (.int .u32 v)):=by
 have hg:=aj w ⟨b,j,none⟩ (.int .u32 v);have kF:=hX.c.me;have gq:i<m.held.length:=by have:=kF.len;omega
 have hT:p.T b:=.inr ⟨p.xs[i],List.getElem_mem hi,hb⟩;have kv:KV p ve ve w (w.setCell ⟨b,j,none⟩ (.int .u32 v)):=⟨aU.gr hg (Nat.le_refl _) fun k e=>by cases e;exact .inl (.inl hT),Vc.refl _ _⟩;have hbn:b<n:=hX.c.st.lx _ (List.getElem_mem hi) b hb;obtain⟨cs0,dT⟩:=dz (kF.words i hi gq) hb;have hh:(fM cf m s j v).held=m.held.set i (m.held[i].set j v):=by
  show m.held.set (placeOf cf s) ((bI cf m s).set j v)=_
  unfold bI;rw[hpl,List.getD_eq_getElem?_getD,List.getElem?_eq_getElem gq];rfl
 have me2:iy p cf.allowed n d (fM cf m s j v) ve (w.setCell ⟨b,j,none⟩ (.int .u32 v)):=by
  obtain⟨en,va,fa,hx⟩:=kF.box;obtain⟨ats,he⟩:=kF.evs;refine⟨⟨en,va,fa,hx.on hg (by have:=hx.dc dT (by decide);simpa using this)⟩,by rw[hh];simpa using kF.len,?_,kF.nd,⟨ats,he.len,he.at_,he.row.kept hg ?_,fun k q1 q2=>(he.args k q1 q2).kept hg ?_⟩,Nat.le_trans kF.size hg.size,kF.mlt⟩
  ·intro k q1 q2;by_cases hk:k=i
   ·subst hk;have e:(fM cf m s j v).held[k]=m.held[k].set j v:=by simp[hh]
    rw[e,List.length_set,List.map_set];exact MV (kF.words k hi gq) hb j _
   ·have hk2:k<m.held.length:=by simpa[hh] using q2
    have e:(fM cf m s j v).held[k]=m.held[k]:=by simp only[hh];exact List.getElem_set_ne (fun e=>hk e.symm) _
    rw[e];refine(kF.words k q1 hk2).kept hg (.inr fun e1=>?_);exact yF (f:=Value.ownBlock) kF.nd q1 hi hk (by rw[e1,hb])
  ·refine .inr fun e1=>?_
   obtain⟨cs1,h1⟩:=dz he.row e1;have:=h1.dc dT (by decide);exact this rfl
  ·refine .inr fun e1=>?_
   have:=((he.args k q1 q2).lt b e1).1;omega
 have Kr:(fM cf m s j v).held.map List.length=m.held.map List.length:=by
  rw[hh,List.map_set,List.length_set];apply List.ext_getElem?;intro k;rw[List.getElem?_set];split
  ·rename_i e;subst e;split
   ·rw[List.getElem?_map,List.getElem?_eq_getElem gq];rfl
   ·rename_i q;rw[List.getElem?_eq_none (by omega)]
  ·rfl
 exact⟨⟨hX.c.move me2 kv.k Kr,oa m s j v hX.inv,qQ hX.rg s j hv,hX.I6⟩,kv⟩
end
end
section
open Go.Shelf
def eN (w:World) (l:List Int) (v:Value):Prop:=∃aa ab ao ac,v=.slice aa l.length ac∧(l.length=0∨aa=some ⟨ab,ao,none⟩)∧∀i (h:i<l.length),w.cell? ⟨ab,ao+i,none⟩=some (.int .u32 l[i])
theorem eN.of {w:World} {base k:Nat} {v:Value} {l:List Int} (h:w.ownsRow base 52 1 v k (l.map (Value.int .u32))) (hk:k=l.length):eN w l v:=by
 subst hk;rcases h.2 with⟨rfl,h0⟩|⟨g,cap,cur,rfl,_⟩
 ·exact⟨none,0,0,0,by rw[h0],.inl h0,fun i hi=>by omega⟩
 ·refine⟨_,g,0,cap,rfl,.inr rfl,fun i hi=>?_⟩;rw[Nat.zero_add,h.cellAt i (by omega)];simp[hi]
def Tl (p:Pt) (cf:Cf) (u:UT) (n:Nat) (aN:List Nat) (k:Nat):Prop:=
 ∀(d:Nat) (m:MS) (ve:EvS) (s:ByteArray) (q:eE) (args:List Int) (va:Value) (pa:Option Addr) (pc:Nat) (w:World),getM s cf.cs=some q→q.host<0→args.length=q.params.length→(∀x∈args,U x)→eN w args va→
  wW (aA w (bJ p.B)) q.params (.slice pa q.params.length pc)→Mv p cf u n w→iy p cf.allowed n d m ve w→(∀q∈m.held,0<q.length∧q.length≤4096)→Inv cf aN m→m.Rg→(aI cf k).F d q args m≠.lost→
  Calls Tryz.prog 88 #[.pointer (some ⟨p.M,0,none⟩),.agg #[.slice pa q.params.length pc,.int .u8 q.type,.int .i64 q.host,.int .i64 q.fn],va] w (aX p cf.allowed n d w.heap.size ve (fun x=>.returned (.int .u32 x)) ((aI cf k).F d q args m) w)
/-! ### arguments one behind another -/
def kj (ev:ic) (d:Nat) (fr:Fr) (kids r:az) (l:List Int) (m m1:MS):Prop:=df ev d fr kids m=(df ev d fr r m1).bind fun l' m'=>.ok (l++l') m'
theorem kj.start (ev:ic) (d:Nat) (fr:Fr) (kids:az) (m:MS):kj ev d fr kids kids [] m m:=by
 unfold kj;cases df ev d fr kids m<;>rfl
theorem kj.step {ev:ic} {d:Nat} {fr:Fr} {kids k r:az} {h:EH} {l:List Int} {m m1 m2:MS} {x:Int} (hp:kj ev d fr kids (.cons h k r) l m m1) (hx:ev.E d fr h k m1=.ok x m2):kj ev d fr kids r (l++[x]) m m2:=by
 unfold kj at hp⊢;rw[hp];simp only[df,hx,Out.bind];cases df ev d fr r m2<;>simp[Out.bind]
theorem kj.stop {ev:ic} {d:Nat} {fr:Fr} {kids k r:az} {h:EH} {l:List Int} {m m1 m2:MS} {a b:Int} (hp:kj ev d fr kids (.cons h k r) l m m1) (hx:ev.E d fr h k m1=.stop a b m2):df ev d fr kids m=.stop a b m2:=by
 unfold kj at hp;rw[hp];simp only[df,hx,Out.bind]
theorem kj.nl {ev:ic} {d:Nat} {fr:Fr} {kids k r:az} {h:EH} {l:List Int} {m m1:MS} (hp:kj ev d fr kids (.cons h k r) l m m1) (hn:df ev d fr kids m≠.lost):ev.E d fr h k m1≠.lost:=fun e=>by
 unfold kj at hp;rw[hp] at hn;simp only[df,e,Out.bind] at hn;exact hn rfl
theorem kj.done {ev:ic} {d:Nat} {fr:Fr} {kids:az} {l:List Int} {m m1:MS} (hp:kj ev d fr kids .nil l m m1):df ev d fr kids m=.ok l m1:=by
 unfold kj at hp;rw[hp];simp[df,Out.bind]
section
variable {p:Pt} {cf:Cf} {u:UT} {n:Nat} {aN:List Nat} {d:Nat} {m:MS} {ve:EvS} {F:Nat} {fb:List dQ} {g cap:Nat} {ms:List Nat} {w w':World}
theorem dW.sx (hX:dW p cf u n aN d m ve F fb g cap ms w) {base k:Nat} {z:Value} {ys:List Value} (hr:w.ownsRow base 52 1 z k ys) (hb:n≤base) {b:Nat} (hz:z.ownBlock=some b):¬p.TE ve b:=by
 obtain⟨cs,hc⟩:=dz hr hz;have Fu:=(hr.lt b hz).1;rintro((rfl|⟨x,hx,hq⟩)|hq)
 ·have:=hX.c.me.mlt;omega
 ·have:=hX.c.st.lx x hx b hq;omega
 ·obtain⟨ats,he⟩:=hX.c.me.evs;obtain⟨lq,hc2⟩:=dz he.row hq;exact hc.dc hc2 (by decide) rfl
theorem dW.MW (hX:dW p cf u n aN d m ve F fb g cap ms w) {base k:Nat} {z:Value} {ys:List Value} (hr:w.ownsRow base 52 1 z k ys) (hb:n≤base) {fJ:EvS} (hk:KV p ve fJ w w'):w'.ownsRow base 52 1 z k ys:=
 hk.k.own hr fun b hz=>⟨(hr.lt b hz).2,hX.sx hr hb hz⟩
theorem dW.Wb (hX:dW p cf u n aN d m ve F fb g cap ms w) {base k:Nat} {z:Value} {ys:List Value} (hr:w.ownsRow base 52 1 z k ys) (hb:n≤base) (tT:∀x∈ve.eZ,∀b,z.ownBlock=some b→x.ownBlock≠some b) (hg:w.grownBy w' z.ownBlock):dW p cf u n aN d m ve F fb g cap ms w':=by
 cases hz:z.ownBlock with
 |none=>
  rw[hz] at hg;exact hX.below ⟨hg.os,hg.tape,hg.output,hg.size,fun b hb=>hg.block b hb (by simp)⟩
 | some b=>
  rw[hz] at hg;have hout:=hX.sx hr hb hz;have Fu:n≤b:=Nat.le_trans hb (hr.lt b hz).1;obtain⟨cs,hc⟩:=dz hr hz;have f:=hX.c.fr;have me2:iy p cf.allowed n d m ve w':=by
   obtain⟨en,va,fa,hx⟩:=hX.c.me.box;obtain⟨ats,he⟩:=hX.c.me.evs;exact⟨⟨en,va,fa,hx.on hg (by have:=hx.dc hc (by decide);simpa using this)⟩,hX.c.me.len,fun i h1 h2=>(hX.c.me.words i h1 h2).kept hg (.inr fun e=>hout (.inl (.inr ⟨_,List.getElem_mem h1,e⟩))),hX.c.me.nd,
    ⟨ats,he.len,he.at_,he.row.kept hg (.inr fun e=>hout (.inr e)),fun i h1 h2=>(he.args i h1 h2).kept hg (.inr (tT _ (List.getElem_mem h1) b hz))⟩,Nat.le_trans hX.c.me.size hg.size,hX.c.me.mlt⟩
  have ft:mO w' n F fb g cap ms:=f.on hg (by have:=f.box.dc hc (by decide);simpa using this) (by have:=eK hc f.row (by decide);simpa using this) (fun q hq=>by
    obtain⟨i,hi,rfl⟩:=List.getElem_of_mem hq;have:=hc.dF (f.maps i hi (by have:=f.len;omega));simpa using this) (fun sc h1 x h2=>by have:=(f.boxes sc h1 x h2).dc hc (by decide);simpa using this)
  exact⟨⟨hX.c.st.move hX.c.me (k:=n) (aU.gr hg hX.c.me.size fun k e=>by cases e;exact .inr Fu) (Nat.le_refl _),me2,ft,hX.c.pos⟩,hX.inv,hX.rg,hX.I6⟩
theorem iy.Wc {a:Nat} (h:iy p a n d m ve w) {x:Value} (hx:x∈ve.eZ) {b:Nat} (hb:x.ownBlock=some b):b<w.heap.size:=by
 obtain⟨ats,he⟩:=h.evs;obtain⟨i,hi,rfl⟩:=List.getElem_of_mem hx;exact((he.args i hi (by have:=he.len;omega)).lt b hb).2
end
/-! ### an event more -/
theorem p9 (e:Ev) (v:Value) (t:j4):∀(evs:List Ev) (eZ:List Value) (ats:List j4),eZ.length=evs.length→ats.length=evs.length→eD (evs++[e]) (eZ++[v]) (ats++[t])=eD evs eZ ats++[.int .u32 t.v,.int .u32 e.number,v,.int .u32 e.value]
 |[],[],[],_,_=>rfl
 |a::r,x::vs,s::ts,h1,h2=>by
  have:=p9 e v t r vs ts (by simpa using h1) (by simpa using h2);simp only[List.cons_append,eD,this]
 |[],_::_,_,h1,_=>by simp at h1
 |[],[],_::_,_,h2=>by simp at h2
 |_::_,[],_,h1,_=>by simp at h1
 |_::_,_::_,[],_,h2=>by simp at h2
theorem iy.Ja {p:Pt} {allowed n d:Nat} {m:MS} {ve:EvS} {w w':World} (h:iy p allowed n d m ve w) (hg:w.grownBy w' (some p.M)) {steps reps d':Nat}
  (hb:∃en va fa:j4,Bx w' p.M #[.pointer (some ⟨p.X,0,none⟩),.int .i64 allowed,p.vv,.int .u8 en.v,.int .u32 va.v,.int .u8 fa.v,.int .i64 steps,.int .i64 reps,ve.v,.int .i64 d',.map (some p.kb)] 119):
  iy p allowed n d' {m with steps:=steps,reps:=reps} ve w':=by
 obtain⟨en,va,fa,hx⟩:=h.box;obtain⟨ats,he⟩:=h.evs;have nr:∀{base:Nat} {e:TypeId} {size k:Nat} {v:Value} {ys:List Value},w.ownsRow base e size v k ys→(119:TypeId)≠e→w'.ownsRow base e size v k ys:=fun{base e size k v ys} hr hne=>
  hr.kept hg (.inr fun q=>hx.not_row hr hne q.symm)
 exact⟨hb,h.len,fun i h1 h2=>nr (h.words i h1 h2) (by decide),h.nd,⟨ats,he.len,he.at_,nr he.row (by decide),fun i h1 h2=>nr (he.args i h1 h2) (by decide)⟩,Nat.le_trans h.size hg.size,h.mlt⟩
theorem iy.event {p:Pt} {allowed n d:Nat} {m:MS} {ve:EvS} {w w2:World} (h:iy p allowed n d m ve w) {ats:List j4} (he:uA w n m.evs ve.eZ ats ve.v) {v' va:Value} {num val:Int} {args:List Int}
  (hA:aV w w2 n 127 4 ve.v v' m.evs.length 1 (eD m.evs ve.eZ ats) [.int .u32 0,.int .u32 num,va,.int .u32 val]) (ha:w.ownsRow n 52 1 va args.length (args.map (Value.int .u32))):
  iy p allowed n d {m with evs:=m.evs++[⟨num,args,val⟩]} ⟨v',ve.eZ++[va]⟩ (w2.setCell ⟨p.M,8,none⟩ v'):=by
 obtain⟨en,vx,fa,hx⟩:=h.box;have hg:=aj w2 ⟨p.M,8,none⟩ v';have x2:=hx.on hA.grown (hx.not_row he.row (by decide));have k1:∀{base k:Nat} {v:Value} {ys:List Value},w.ownsRow base 52 1 v k ys→(w2.setCell ⟨p.M,8,none⟩ v').ownsRow base 52 1 v k ys:=fun{base k v ys} hr=>by
  have r2:=hr.kept hA.grown (pg hr he.row (by decide));exact r2.kept hg (.inr fun q=>x2.not_row r2 (by decide) (by simpa using q.symm))
 refine⟨⟨en,vx,fa,by simpa using x2.set 8 v'⟩,h.len,fun i h1 h2=>k1 (h.words i h1 h2),h.nd,⟨ats++[j4.mk],by simp[he.len],by simp[he.at_],?_,?_⟩,Nat.le_trans h.size (Nat.le_trans hA.grown.size hg.size),h.mlt⟩
 ·rw[p9 _ _ _ _ _ _ he.len he.at_,List.length_append];exact hA.own.kept hg (.inr fun q=>x2.not_row hA.own (by decide) (by simpa using q.symm))
 ·intro i h1 h2;by_cases hi:i<ve.eZ.length
  ·have gq:i<m.evs.length:=by have:=he.len;omega
   have e1:(ve.eZ++[va])[i]=ve.eZ[i]:=List.getElem_append_left hi;have e2:(m.evs++[(⟨num,args,val⟩:Ev)])[i]=m.evs[i]:=List.getElem_append_left gq
   show(w2.setCell ⟨p.M,8,none⟩ v').ownsRow n 52 1 (ve.eZ++[va])[i] (m.evs++[(⟨num,args,val⟩:Ev)])[i].args.length _
   rw[e1,e2];exact k1 (he.args i hi gq)
  ·have FK:i=ve.eZ.length:=by simp at h1;omega
   subst FK;have e1:(ve.eZ++[va])[ve.eZ.length]=va:=by simp
   have e2:(m.evs++[(⟨num,args,val⟩:Ev)])[ve.eZ.length]'(by simpa using h2)=⟨num,args,val⟩:=by
    have:=he.len;rw[List.getElem_append_right (by omega)];simp
   show(w2.setCell ⟨p.M,8,none⟩ v').ownsRow n 52 1 (ve.eZ++[va])[ve.eZ.length] (m.evs++[(⟨num,args,val⟩:Ev)])[ve.eZ.length].args.length _
   rw[e1,e2];exact k1 ha
end
end Go.Proofs.YtlabadkfkbenoaaGreatDoor
