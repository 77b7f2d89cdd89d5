/- Walks and plain laws, merged: IntX IntY CalA CalI CalJ CalB CalC CalD MadA CalK CalF CalG CalH. No condition. -/
import Derived.Test.YtlabadkfkbenoaaGreatDoorKp16
import Derived.Test.YtlabadkfkbenoaaGreatDoorKp01
import Derived.Test.YtlabadkfkbenoaaGreatDoorKp11
import Derived.Test.YtlabadkfkbenoaaGreatDoorKp12
import Derived.Test.YtlabadkfkbenoaaGreatDoorKp07
import Derived.Outline
import Derived.Deep.RegionHeld3
import Derived.Test.YtlabadkfkbenoaaGreatDoorKp15
import Derived.Test.YtlabadkfkbenoaaGreatDoorKp05
import Derived.Laws.ResultCell
namespace Go.Proofs.YtlabadkfkbenoaaGreatDoor
open Go.RowKit
set_option linter.unusedVariables false
set_option linter.unusedSimpArgs false
set_option maxRecDepth 100000
set_option maxHeartbeats 64000000
section
open Go.Shelf
def wE (M:Nat) (w:World):Nat:=match w.cell? ⟨M,6,none⟩ with
 |some (.int _ n)=>n.toNat
 |_=>0
theorem sO {p:Pt} {a n d:Nat} {m:MS} {ve:EvS} {w:World} (h:iy p a n d m ve w):wE p.M w=m.steps:=by
 obtain⟨en,va,fa,hb⟩:=h.box;have:w.cell? ⟨p.M,6,none⟩=some (.int .i64 m.steps):=by simpa using hb.cell 6
 unfold wE;rw[this];rfl
theorem Jl (p:Pt) (cf:Cf) (u:UT) (n:Nat) (aN:List Nat) (k:Nat) (tW:cf.Rg) (dU:cf.allowed≤65536) (HE:Hid (∀j,j≤k→CY p cf u n aN j)) (HL:Hid (∀j,j≤k→Tr p cf u n aN j)):Zc p cf u n aN (k+1):=by
 intro d m ve F fb g cap ms t h x b vx vb vz a ty ret lp c' w LK WV WX HY qR Hg hch C3 l6 Nf hsz hX ey;obtain⟨xa,xc,rfl⟩:=C3.ay;obtain⟨ba,bc,rfl⟩:=l6.ay;obtain⟨lz,Nf⟩:=Nf;obtain⟨ea,ec,rfl⟩:=Nf.ay;obtain⟨R,hR⟩:∃z,z=bY p cf u n aN d F ve (FS F g ms fb) (fun q=>U q.2.1) (fun q=>q.2.2) (fun q=>Ending.returned (.tuple #[.int .i64 q.1,.int .u32 q.2.1])) ((aI cf (k+1)).W d (ai fb) a.1 a.2 b m) w:=⟨_,rfl⟩;rw[←hR];have HR:=af hR;clear hR;obtain⟨a0,a1,a2,a3,a4⟩:=h;have cF:=(Below.refl w.heap.size w).alloc (Nat.le_refl _) (.cells #[.int .i64 t,.int .u8 a1,.string a2,.int .u8 a3,.string a4,.slice xa x.len xc,.slice ba b.len bc,.slice ea lz.len ec] 109);have X0:=af (hX.below cF);have b0:=af (Bx.new w #[.int .i64 t,.int .u8 a1,.string a2,.int .u8 a3,.string a4,.slice xa x.len xc,.slice ba b.len bc,.slice ea lz.len ec] 109);have K0:=af ((KV.of p ve cF).ks (FS F g ms fb));have qU:=af ey;have hl0:0<x.len:=by
  have:=(List.getElem?_eq_some_iff.1 LK).1;rw[az.br] at this;exact this
 have TT:=af (show∀wr,aU (fun b=>p.TE ve b∨FS F g ms fb b) w.heap.size w wr→dI (aA wr (bJ p.B)) false none x (.slice xa x.len xc)∧dR (aA wr (bJ p.B)) false none b (.slice ba b.len bc) from fun wr hk=>⟨C3.sub (hX.oq hk),l6.sub (hX.oq hk)⟩);have AX:=af (And.intro LK (And.intro WV (And.intro WX (And.intro HY (And.intro qR (And.intro Hg hch))))));have SZ:=af hsz;have RG:=af tW;have AL:=af dU;have lenF:=af (show∀jU,dm jU=dm fb→jU.length=fb.length from fun jU h=>by have:=congrArg List.length h;rwa[ot,ot] at this);clear LK WV WX HY qR Hg hch C3 l6 Nf hsz hX ey cF tW dU;go_enter Tryz.func182,Tryz.ntmps182;go_wp2_with fail
 go_loopw [] (fun wr=>∃(j:Nat) (jU:List dQ) (g1 iQ:Nat) (zn:List Nat) (m1:MS) (aR:EvS),j≤k∧dm jU=dm fb∧(aI cf (k+1)).W d (ai fb) a.1 a.2 b m=(aI cf (j+1)).W d (ai jU) a.1 a.2 b m1∧dW p cf u n aN d m1 aR F jU g1 iQ zn wr∧KS p ve aR (FS F g ms fb) (FS F g1 zn jU) w wr∧
  Bx wr w.heap.size #[.int .i64 t,.int .u8 a1,.string a2,.int .u8 a3,.string a4,.slice xa x.len xc,.slice ba b.len bc,.slice ea lz.len ec] 109) (fun wr=>cf.allowed-wE p.M wr)
 case atStart=>exact⟨k,fb,g,cap,ms,m,ve,Nat.le_refl _,rfl,rfl,X0.out,K0.out,b0.out⟩
 case round=>
  clear X0 K0 b0;obtain⟨j,jU,g1,iQ,zn,m1,aR,hj,hty,hw,aB,FL,dT⟩:=hrel;have hh:=af (show(aI cf (k+1)).W d (ai fb) a.1 a.2 b m=((aI cf j).E d (ai jU) a.1 a.2 m1).bind fun c m=>if c=0 then .ok (0,0,ai jU) m else((aI cf j).L d (ai jU) b m).bind fun q m=>
   if q.1=3 then .ok (3,q.2.1,q.2.2) m else if q.1=1 then .ok (0,0,q.2.2) m else(tick cf m).bind fun _ m=>(aI cf j).W d q.2.2 a.1 a.2 b m from hw)
  have cL:(aI cf j).E d (ai jU) a.1 a.2 m1≠.lost:=Out.cN (by rw[←hh.out];exact qU.out);obtain⟨LK,WV,WX,HY,-⟩:=AX.out;obtain⟨b9,o9,Wv,t9,ya,yc,jx,jy,tK⟩:=(TT.out wr FL.k).1.kid 0 a LK;obtain⟨rfl,rfl⟩:xa=some ⟨b9,o9,none⟩∧xc=Wv:=by simpa using jx
  have Nh:jL wr b9 o9 t9 a (.slice ya a.2.len yc):=by simpa only[Nat.zero_mul,Nat.add_zero] using jy.sub (aZ _ _)
  have cx:=af (HE.out j hj d m1 aR F jU g1 iQ zn t9 a.1 a.2 _ ty wr (by rw[hty];exact WV) WX HY tK aB cL);have e5:wr.cell? ⟨w.heap.size,5,none⟩=some (.slice (some ⟨b9,o9,none⟩) x.len xc):=by simpa using dT.cell 5
  have SM:=af (sO aB.c.me);have X1:=af aB;have K1:=af FL;have lU:=af dT;have WI:=af hty;obtain⟨⟨c0,c1,c2,c3,c4,c5⟩,kk⟩:=a;obtain⟨y0,y1,y2,y3,y4,y5,y6⟩:=Nh;simp only[] at y1 y2 y3 y4 y5 y6 cx hh cL;clear hw aB FL dT hty LK WV WX HY jx jy tK;go_wp2_with fail
  refine cx.mono ?_;intro e9 w2 hp;clear cx;cases ho:(aI cf j).E d (ai jU) ⟨c0,c1,c2,c3,c4,c5⟩ kk m1 with
  |lost=>exact absurd ho cL
  |stop a9 b9 m2=>
   rw[ho] at hp hh;have hh:=af (show(aI cf (k+1)).W d (ai fb) ⟨c0,c1,c2,c3,c4,c5⟩ kk b m=Out.stop a9 b9 m2 from hh.out);obtain⟨rfl,eI,d2,dC,hV2⟩:=hp;have F1:Hid (bY p cf u n aN d F ve (FS F g ms fb) (fun q:Int×Int×Fr=>U q.2.1) (fun q=>q.2.2) (fun q=>Ending.returned (.tuple #[.int .i64 q.1,.int .u32 q.2.1])) (.stop a9 b9 m2) w (dy a9 b9) w2):=af (bQ dC (K1.trans (hV2.ks _)) rfl);clear dC hV2 ho cL;go_wp2_with fail
   refine ar ?_;rw[HR.out,hh.out];exact F1.out
  | ok v m2=>
   rw[ho] at hp hh;obtain⟨rfl,-,eI,aL,hV2⟩:=hp;have hh:=af (show(aI cf (k+1)).W d (ai fb) ⟨c0,c1,c2,c3,c4,c5⟩ kk b m=if v=0 then .ok (0,0,ai jU) m2 else((aI cf j).L d (ai jU) b m2).bind fun q m=>
    if q.1=3 then .ok (3,q.2.1,q.2.2) m else if q.1=1 then .ok (0,0,q.2.2) m else(tick cf m).bind fun _ m=>(aI cf j).W d q.2.2 ⟨c0,c1,c2,c3,c4,c5⟩ kk b m from hh.out)
   have WY:m1.steps≤m2.steps:=(Out.il ((fV cf j).E _ _ _ _ _) ho).1;have X2:=af aL;have K2:=af (K1.trans (hV2.ks _));have pU:=af (X1.jO (hV2.ks _).k lU.out (by decide) (by decide));have LE1:=af WY;clear aL hV2 ho cL y0 y1 y2 y3 y4 y5 y6 e5 WY;by_cases hv0:v=0
   ·have hg:=af (show(aI cf (k+1)).W d (ai fb) ⟨c0,c1,c2,c3,c4,c5⟩ kk b m=.ok (0,0,ai jU) m2 by rw[hh.out,if_pos hv0]);clear hh;subst hv0;go_wp2_with fail
    rw[HR.out,hg.out];exact dZ X2.out rfl U0 K2.out rfl
   ·have hg:=af (show(aI cf (k+1)).W d (ai fb) ⟨c0,c1,c2,c3,c4,c5⟩ kk b m=((aI cf j).L d (ai jU) b m2).bind fun q m=>
     if q.1=3 then .ok (3,q.2.1,q.2.2) m else if q.1=1 then .ok (0,0,q.2.2) m else(tick cf m).bind fun _ m=>(aI cf j).W d q.2.2 ⟨c0,c1,c2,c3,c4,c5⟩ kk b m by rw[hh.out,if_neg hv0])
    clear hh;have wT:(v !=0)=true:=by simpa using hv0
    have E0:(aI cf j).L d (ai jU) b m2≠.lost:=Out.cN (by rw[←hg.out];exact qU.out);obtain⟨-,-,-,-,qR,Hg,hch⟩:=AX.out;have cx:=af (HL.out j hj d m2 eI F jU g1 iQ zn b (.slice ba b.len bc) ret lp c' w2 qR Hg (by rw[WI.out];exact hch) (TT.out w2 K2.k).2 (by have h1:=lenF.out jU WI.out;have h2:=SZ.out;omega) X2.out E0);have z6:w2.cell? ⟨w.heap.size,6,none⟩=some (.slice ba b.len bc):=by simpa using pU.cell 6
    clear qR Hg hch;go_wp2_with fail
    refine cx.mono ?_;intro e9 w3 hp;clear cx;cases ho:(aI cf j).L d (ai jU) b m2 with
    |lost=>exact absurd ho E0
    |stop a9 b9 m3=>
     rw[ho] at hp hg;have hh:=af (show(aI cf (k+1)).W d (ai fb) ⟨c0,c1,c2,c3,c4,c5⟩ kk b m=Out.stop a9 b9 m3 from hg.out);obtain⟨rfl,Ze,d3,hM3,hK3⟩:=hp;have F1:Hid (bY p cf u n aN d F ve (FS F g ms fb) (fun q:Int×Int×Fr=>U q.2.1) (fun q=>q.2.2) (fun q=>Ending.returned (.tuple #[.int .i64 q.1,.int .u32 q.2.1])) (.stop a9 b9 m3) w (dy a9 b9) w3):=af (bQ hM3 (K2.trans hK3) rfl);clear hM3 hK3 ho E0;go_wp2_with fail
     refine ar ?_;rw[HR.out,hh.out];exact F1.out
    | ok q m3=>
     rw[ho] at hp hg;obtain⟨rfl,hU,Ze,Jm,g3,LI,ms3,hb3,cq,hK3⟩:=hp;have hb3:ai Jm=q.2.2:=hb3;have Nc:dm Jm=dm fb:=by
      have h1:=Out.yB ((pA cf j).L d (ai jU) b m2) ho;have h2:cV q.2.2=cV (ai jU):=h1;rw[←hb3,jM,jM,WI.out] at h2;exact h2
     have PC:m2.steps≤m3.steps:=(Out.il ((fV cf j).L _ _ _ _) ho).1;obtain⟨how,v3,fr3⟩:=q;simp only[] at hU hb3⊢;subst hb3;have hh:=af (show(aI cf (k+1)).W d (ai fb) ⟨c0,c1,c2,c3,c4,c5⟩ kk b m=if how=3 then .ok (3,v3,ai Jm) m3 else if how=1 then .ok (0,0,ai Jm) m3 else(tick cf m3).bind fun _ m=>(aI cf j).W d (ai Jm) ⟨c0,c1,c2,c3,c4,c5⟩ kk b m from hg.out);have X3:=af cq;have K3:=af (K2.trans hK3);have Jn:=af (X2.jO hK3.k pU.out (by decide) (by decide));have HU:=af hU;have TY3:=af Nc;have LE2:=af (Nat.le_trans LE1.out PC);clear cq hK3 ho E0 hU Nc PC hg z6;by_cases h3:how=3
     ·subst h3;have hg:=af (show(aI cf (k+1)).W d (ai fb) ⟨c0,c1,c2,c3,c4,c5⟩ kk b m=.ok (3,v3,ai Jm) m3 from hh.trans (if_pos rfl));clear hh;go_wp2_with fail
      rw[HR.out,hg.out];exact dZ X3.out rfl HU.out K3.out rfl
     ·by_cases h1:how=1
      ·subst h1;have hg:=af (show(aI cf (k+1)).W d (ai fb) ⟨c0,c1,c2,c3,c4,c5⟩ kk b m=.ok (0,0,ai Jm) m3 from hh.trans ((if_neg h3).trans (if_pos rfl)));clear hh;go_wp2_with fail
       rw[HR.out,hg.out];exact dZ X3.out rfl U0 K3.out rfl
      ·have hg:=af (show(aI cf (k+1)).W d (ai fb) ⟨c0,c1,c2,c3,c4,c5⟩ kk b m=(tick cf m3).bind fun _ m=>(aI cf j).W d (ai Jm) ⟨c0,c1,c2,c3,c4,c5⟩ kk b m from hh.trans ((if_neg h3).trans (if_neg h1)));clear hh;have n3:(how==3)=false:=by simpa using h3
       have n1:(how==1)=false:=by simpa using h1
       have cs:=af (vY p cf n d m3 Ze w3 AL.out X3.inv.steps X3.c.me);by_cases hc:cf.allowed≤m3.steps
       ·have ht:tick cf m3=.stop 3 0 m3:=by unfold tick;rw[if_pos hc]
        rw[ht] at cs;have hh:=af (show(aI cf (k+1)).W d (ai fb) ⟨c0,c1,c2,c3,c4,c5⟩ kk b m=.stop 3 0 m3 by rw[hg.out,ht];rfl);clear hg hc ht;go_wp2_with fail
        refine cs.mono ?_;rintro e9 w4 ⟨rfl,Jo,d4,WZ,hK4,Tt⟩;have F1:Hid (bY p cf u n aN d F ve (FS F g ms fb) (fun q:Int×Int×Fr=>U q.2.1) (fun q=>q.2.2) (fun q=>Ending.returned (.tuple #[.int .i64 q.1,.int .u32 q.2.1])) (.stop 3 0 m3) w (dy 3 0) w4):=af (bQ WZ (K3.trans ((⟨hK4,Tt⟩:KV p Ze Jo w3 w4).ks _)) rfl);clear WZ hK4 Tt cs;go_wp2_with fail
        refine ar ?_;rw[HR.out,hh.out];exact F1.out
       ·have ht:tick cf m3=.ok () {m3 with steps:=m3.steps+1}:=by unfold tick;rw[if_neg hc]
        have hi4:Inv cf aN {m3 with steps:=m3.steps+1}:=by have:=lI (cf:=cf) m3 X3.inv;rw[ht] at this;exact this
        have hr4:MS.Rg {m3 with steps:=m3.steps+1}:=X3.rg;have CS:=af (fun(e:Ending) (w4:World) (hp:aX p cf.allowed n d _ Ze (fun _=>.returned (.tuple #[])) (tick cf m3) _ e w4)=>aX.lift (P:=fun _=>True) X3.out (by rw[ht];exact hi4) (by rw[ht];exact⟨trivial,hr4⟩) hp);have hst:m1.steps<cf.allowed∧m1.steps<({m3 with steps:=m3.steps+1}:MS).steps:=⟨by have:=LE2.out;omega,by have:=LE2.out;show m1.steps<m3.steps+1;omega⟩;have hh:=af (show(aI cf (k+1)).W d (ai fb) ⟨c0,c1,c2,c3,c4,c5⟩ kk b m=(aI cf j).W d (ai Jm) ⟨c0,c1,c2,c3,c4,c5⟩ kk b {m3 with steps:=m3.steps+1} by rw[hg.out,ht];rfl);generalize ({m3 with steps:=m3.steps+1}:MS)=m4 at ht hh hi4 hr4 hst;have HT:=af ht;have HST:=af hst;clear hg hc hi4 hr4 ht hst;go_wp2_with fail
        refine cs.mono ?_;intro e9 w4 hp;have h9:=CS.out e9 w4 hp;rw[HT.out] at h9;obtain⟨rfl,-,Jo,gl,Tt⟩:=h9;have SM4:=af (sO gl.c.me);have X4:=af gl;have K4:=af (K3.trans (Tt.ks _));have FM:=af (X3.jO (Tt.ks _).k Jn.out (by decide) (by decide));clear hp gl Tt cs CS;have HJ:∃j',j=j'+1:=by
         cases j with
         |zero=>exact absurd hh.out qU.out
         |succ j'=>exact⟨j',rfl⟩
        obtain⟨j',hj'⟩:=HJ;have HH:=af (show(aI cf (k+1)).W d (ai fb) ⟨c0,c1,c2,c3,c4,c5⟩ kk b m=(aI cf (j'+1)).W d (ai Jm) ⟨c0,c1,c2,c3,c4,c5⟩ kk b m4 by rw[hh.out,hj']);have HJJ:=af (show j'≤k by omega);clear hh hj';go_wp2_with fail
        refine⟨⟨j',Jm,g3,LI,ms3,m4,Jo,HJJ.out,TY3.out,HH.out,X4.out,K4.out,FM.out⟩,?_⟩;have h1:=SM4.out;have h2:=SM.out;have h3:=HST.out;omega
end
section
open Go.Shelf
theorem eN.on {w w':World} {l:List Int} {v:Value} (h:eN w l v) {b:Nat} (hg:w.grownBy w' (some b)) (hb:∃es c,w.heap[b]? =some (.map es c)):eN w' l v:=by
 obtain⟨aa,ab,ao,ac,h1,h2,h3⟩:=h;refine⟨aa,ab,ao,ac,h1,h2,fun i hi=>?_⟩;have hc:=h3 i hi;have hne:ab≠b:=by
  rintro rfl;obtain⟨es,c,hm⟩:=hb;simp[World.cell?,hm] at hc
 have:=hg.block ab (World.block_lt_of_cell? _ _ hc) (by simpa using hne);rw[World.cell?_of_block (a:=⟨ab,ao+i,none⟩) this];exact hc
theorem eN.set {w:World} {l:List Int} {v:Value} (h:eN w l v) {q j:Nat} {k x:Int} (hc:w.cell? ⟨q,j,none⟩=some (.int .i64 k)):eN (w.setCell ⟨q,j,none⟩ (.int .i64 x)) l v:=by
 obtain⟨aa,ab,ao,ac,h1,h2,h3⟩:=h;refine⟨aa,ab,ao,ac,h1,h2,fun i hi=>?_⟩;rw[World.cell?_setCell_other]
 ·exact h3 i hi
 ·intro e;have:=h3 i hi;rw[←e,hc] at this;cases this
structure Nj (p:Pt) (cf:Cf) (u:UT) (n d:Nat) (m:MS) (ve:EvS) (args:List Int) (va:Value) (w:World) (sg:Array Value) (ps:List PW) (Jp:Scope) (j:Nat) (sc:dQ) (wr:World):Prop where
 ad:cC cf.vs cf.cs (ps.drop j) (sc.map fun x=>(x.1,x.2.1.1))=.ok Jp
 par:fT (ps.drop j) (args.drop j) (j5 sc)=fT ps args []
 mp:Mp wr (w.heap.size+1) (lY sc)
 boxes:∀y∈sc,Bx wr y.2.2 #[.int .u32 y.2.1.2,.int .u8 y.2.1.1] 201∧w.heap.size≤y.2.2
 nd:(sc.map fun x=>x.2.2).Nodup
 st:Mv p cf u n wr
 me:iy p cf.allowed n (d+1) m ve wr
 kv:KV p ve ve w wr
 sg:Bx wr w.heap.size sg 114
 row:eN wr args va
section
variable {p:Pt} {cf:Cf} {u:UT} {n d:Nat} {m:MS} {ve:EvS} {args:List Int} {va:Value} {w:World} {sg:Array Value} {ps:List PW} {Jp:Scope} {j:Nat} {sc:dQ} {wr wr':World}
theorem Nj.below (h:Nj p cf u n d m ve args va w sg ps Jp j sc wr) (hb:Below wr.heap.size wr wr'):Nj p cf u n d m ve args va w sg ps Jp j sc wr':=
 ⟨h.ad,h.par,h.mp.mono hb,fun y hy=>⟨(h.boxes y hy).1.on (ah hb) (by simp),(h.boxes y hy).2⟩,h.nd,h.st.move h.me (aU.of hb) h.me.size,h.me.below hb,h.kv.below hb,h.sg.on (ah hb) (by simp),h.row.below hb⟩
theorem Nj.give (h:Nj p cf u n d m ve args va w sg ps Jp j sc wr) (hn:n≤w.heap.size) (hj:j<ps.length) (qC:j<args.length) {w1 w2:World} (h1:w1=wr.alloc (.cells #[.int .u32 args[j],.int .u8 ps[j].2] 201)) (hg:w1.grownBy w2 (some (w.heap.size+1))) (hp:Mp w2 (w.heap.size+1) (aY ps[j].1 (.pointer (some ⟨wr.heap.size,0,none⟩)) (lY sc))):
  Nj p cf u n d m ve args va w sg ps Jp (j+1) (sc++[(ps[j].1,((ps[j].2,args[j]),wr.heap.size))]) w2:=by
 have b1:Below wr.heap.size wr w1:=by rw[h1];exact(Below.refl _ wr).alloc (Nat.le_refl _) _
 have H:=h.below b1;have had:=h.ad;rw[List.drop_eq_getElem_cons hj] at had;simp only[cC] at had;split at had
 ·cases had
 ·rename_i hcnd;have uZ:getM ps[j].1 (sc.map fun x=>(x.1,x.2.1.1))=none:=by
   cases hq:getM ps[j].1 (sc.map fun x=>(x.1,x.2.1.1)) with
   |none=>rfl
   |some t=>rw[hq] at hcnd;simp at hcnd
  have Mf:getM ps[j].1 sc=none:=by
   rw[di (fun x:(Int×Int)×Nat=>x.1.1)] at uZ;exact Option.map_eq_none_iff.1 uZ
  have hpl:∀x,aY ps[j].1 x sc=sc++[(ps[j].1,x)]:=fun x=>jV _ x sc (by unfold getM at Mf;simpa using Mf)
  have zq:w.heap.size<wr.heap.size:=h.sg.lt;have kA:=H.mp;obtain⟨es,c,kF,-⟩:=kA;have asd:Aside w1 (w.heap.size+1):=.inr ⟨es,c,kF⟩;have bx:∀{q:Nat} {cs:Array Value} {t:TypeId},Bx w1 q cs t→Bx w2 q cs t:=fun{q cs t} hb=>hb.on hg (by
   intro e;cases e;unfold Bx at hb;rw[kF] at hb;cases hb)
  refine⟨?_,?_,?_,?_,?_,H.st.move H.me (k:=n) (aU.gr hg H.me.size fun k e=>by cases e;exact .inr (by omega)) (Nat.le_refl _),H.me.aside asd hg,⟨H.kv.k.trans (aU.gr hg H.kv.size fun k e=>by cases e;exact .inr (by omega)),H.kv.v⟩,bx H.sg,H.row.on hg ⟨es,c,kF⟩⟩
  ·rw[←had,List.map_append]
   congr 1
   have:=dA (fun x:(Int×Int)×Nat=>x.1.1) ps[j].1 ((ps[j].2,args[j]),wr.heap.size) sc;rw[hpl] at this;rw[this,List.map_append]
  ·rw[←h.par,List.drop_eq_getElem_cons hj,List.drop_eq_getElem_cons qC];simp only[fT]
   congr 1
   have:=dA (fun x:(Int×Int)×Nat=>x.1) ps[j].1 ((ps[j].2,args[j]),wr.heap.size) sc;rw[hpl] at this;exact this.symm
  ·have:=dA (fun y:(Int×Int)×Nat=>lV y) ps[j].1 ((ps[j].2,args[j]),wr.heap.size) sc;rw[hpl] at this;rw[show lY (sc++[(ps[j].1,((ps[j].2,args[j]),wr.heap.size))])=aY ps[j].1 (lV ((ps[j].2,args[j]),wr.heap.size)) (lY sc) from this.symm];exact hp
  ·intro y hy;rcases List.mem_append.1 hy with q|q
   ·exact⟨bx (H.boxes y q).1,(H.boxes y q).2⟩
   ·simp at q;subst q;exact⟨bx (by rw[h1];exact Bx.new wr _ _),by show w.heap.size≤wr.heap.size;omega⟩
  ·rw[List.map_append,List.nodup_append];refine⟨h.nd,by simp,fun a ha b hb=>?_⟩;obtain⟨y,hy,rfl⟩:=List.mem_map.1 ha;simp at hb;subst hb;have:=(h.boxes y hy).1.lt;omega
end
theorem Bp (p:Pt) (cf:Cf) (u:UT) (n:Nat) (aN:List Nat) (k:Nat) (wS:cf.Ok) (tW:cf.Rg) (YK:∀f∈cf.fs,f.body.sz≤99999980) (Nk:∀s g,getM s cf.cs=some g→g.params.length≤100000000∧(g.host<0→0≤g.fn)) (HL:Hid (Tr p cf u n aN k)):Tl p cf u n aN (k+1):=by
 intro d m ve s q args va pa pc w hq W7 dU hau hrow hsp hst kF tX hinv hrg ey;obtain⟨R,hR⟩:∃z,z=aX p cf.allowed n d w.heap.size ve (fun x=>Ending.returned (.int .u32 x)) ((aI cf (k+1)).F d q args m) w:=⟨_,rfl⟩;rw[←hR];have HR:=af hR;clear hR;obtain⟨ps,qt,qh,qf⟩:=q;simp only[] at W7 dU hsp⊢;have hh:=af (show(aI cf (k+1)).F d ⟨ps,qt,qh,qf⟩ args m=if 16≤d then .stop 5 0 m else match cf.fs[qf.toNat]? with
  |none=>.lost
  |some f=>((aI cf k).L (d+1) [fT ps args []] f.body m).bind fun r m=>.ok r.2.1 m from rfl)
 have qU:=af ey;obtain⟨en,vx,fa,ET⟩:=kF.box;have m9:w.cell? ⟨p.M,9,none⟩=some (.int .i64 d):=by simpa using ET.cell 9
 have cF:=(Below.refl w.heap.size w).alloc (Nat.le_refl _) (.cells #[.slice pa ps.length pc,.int .u8 qt,.int .i64 qh,.int .i64 qf] 114);have m9b:(w.alloc (.cells #[.slice pa ps.length pc,.int .u8 qt,.int .i64 qh,.int .i64 qf] 114)).cell? ⟨p.M,9,none⟩=some (.int .i64 d):=ag m9 cF;by_cases hd:16≤d
 ·have hg:=af (show(aI cf (k+1)).F d ⟨ps,qt,qh,qf⟩ args m=.stop 5 0 m from hh.trans (if_pos hd));have F1:Hid (aX p cf.allowed n d w.heap.size ve (fun x=>.returned (.int .u32 x)) (.stop 5 0 m) w (dy 5 0) (w.alloc (.cells #[.slice pa ps.length pc,.int .u8 qt,.int .i64 qh,.int .i64 qf] 114))):=af (dG (kF.below cF) (KV.of p ve cF) rfl);have hdi:(d:Int)≥16:=by omega
  clear Nk hq W7 dU hau hrow hsp hst kF tX hinv hrg ey hh wS tW YK ET cF HL hd;go_enter Tryz.func88,Tryz.ntmps88;go_wp2_with fail
  refine ar ?_;rw[HR.out,hg.out];exact F1.out
 obtain⟨f,C4,hf2⟩:=(wS.call s _ hq).1 W7;simp only[] at C4 hf2;have Nl:=List.mem_of_getElem? C4;obtain⟨W8,Jp,cbd,had,hcb⟩:=wS.fn f Nl;rw[hf2] at had;have hg:=af (show(aI cf (k+1)).F d ⟨ps,qt,qh,qf⟩ args m=((aI cf k).L (d+1) [fT ps args []] f.body m).bind fun r m=>.ok r.2.1 m from hh.trans ((if_neg hd).trans (by rw[C4])));have E0:=af (show(aI cf k).L (d+1) [fT ps args []] f.body m≠.lost from Out.cN (by rw[←hg.out];exact ey));have hdi:¬((d:Int)≥16):=by omega
 have Aa:IntKind.i64.wrap ((d:Int)+1)=((d+1:Nat):Int):=by rw[IntWalk.i64_in _ (by omega)];omega
 have f9:w.frozen? ⟨p.M,9,none⟩=false:=ET.free 9;have hMlt:=ET.lt;have O1:=aj w ⟨p.M,9,none⟩ (.int .i64 ((d:Int)+1));have W9:(w.setCell ⟨p.M,9,none⟩ (.int .i64 ((d:Int)+1))).heap.size=w.heap.size:=by simp[World.setCell]
 have hb1:=(Below.refl (w.setCell ⟨p.M,9,none⟩ (.int .i64 ((d:Int)+1))).heap.size (w.setCell ⟨p.M,9,none⟩ (.int .i64 ((d:Int)+1)))).alloc (Nat.le_refl _) (.cells #[.slice pa ps.length pc,.int .u8 qt,.int .i64 qh,.int .i64 qf] 114);have hx1:=Bx.new (w.setCell ⟨p.M,9,none⟩ (.int .i64 ((d:Int)+1))) #[.slice pa ps.length pc,.int .u8 qt,.int .i64 qh,.int .i64 qf] 114;rw[W9] at hx1;obtain⟨w2,hw2⟩:∃x:World,x=((w.setCell ⟨p.M,9,none⟩ (.int .i64 ((d:Int)+1))).alloc (.cells #[.slice pa ps.length pc,.int .u8 qt,.int .i64 qh,.int .i64 qf] 114)).alloc (.map #[] 0):=⟨_,rfl⟩;have u9:((w.setCell ⟨p.M,9,none⟩ (.int .i64 ((d:Int)+1))).alloc (.cells #[.slice pa ps.length pc,.int .u8 qt,.int .i64 qh,.int .i64 qf] 114)).heap.size=w.heap.size+1:=by simp[World.setCell]
 have D6:(Instr.makeMap 210 none).run Tryz.prog ((w.setCell ⟨p.M,9,none⟩ (.int .i64 ((d:Int)+1))).alloc (.cells #[.slice pa ps.length pc,.int .u8 qt,.int .i64 qh,.int .i64 qf] 114))=.ok (.map (some (w.heap.size+1))) w2:=by rw[hw2,←u9];exact run_makeMap 210 _
 have hb2:Below ((w.setCell ⟨p.M,9,none⟩ (.int .i64 ((d:Int)+1))).alloc (.cells #[.slice pa ps.length pc,.int .u8 qt,.int .i64 qh,.int .i64 qf] 114)).heap.size ((w.setCell ⟨p.M,9,none⟩ (.int .i64 ((d:Int)+1))).alloc (.cells #[.slice pa ps.length pc,.int .u8 qt,.int .i64 qh,.int .i64 qf] 114)) w2:=by rw[hw2];exact(Below.refl _ _).alloc (Nat.le_refl _) _
 have Xa:=((kF.Ja (steps:=m.steps) (reps:=m.reps) (d':=d+1) O1 ⟨en,vx,fa,by
  have h:=ET.set 9 (.int .i64 ((d:Int)+1));rw[show((d:Int)+1)=((d+1:Nat):Int) by omega] at h⊢;simpa using h⟩).below hb1).below hb2
 have tM:=(((KV.refl p ve w).trans (⟨aU.gr O1 (Nat.le_refl _) fun k e=>by cases e;exact .inl (.inl (.inl rfl)),Vc.refl _ _⟩:KV p ve ve w (w.setCell ⟨p.M,9,none⟩ (.int .i64 ((d:Int)+1))))).below hb1).below hb2;have Xb:=hst.move kF tM.k kF.size;have Wh:=kF.size;have Xc:=hx1.on (ah hb2) (by simp);have hrow2:=((hrow.set (q:=p.M) (j:=9) (x:=(d:Int)+1) m9).below hb1).below hb2;have Xd:Mp w2 (w.heap.size+1) (lY []):=by have:=Mp.new ((w.setCell ⟨p.M,9,none⟩ (.int .i64 ((d:Int)+1))).alloc (.cells #[.slice pa ps.length pc,.int .u8 qt,.int .i64 qh,.int .i64 qf] 114));rw[u9,←hw2] at this;exact this
 have LO:=af (show Nj p cf u n d m ve args va w #[.slice pa ps.length pc,.int .u8 qt,.int .i64 qh,.int .i64 qf] ps Jp 0 [] w2 from⟨had,rfl,Xd,fun y hy=>by simp at hy,by simp,Xb,Xa,tM,Xc,hrow2⟩);have OLD:=af (show∀wr,KV p ve ve w wr→Cells (aA w (bJ p.B)) (aA wr (bJ p.B)) from fun wr hk=>hk.k.cells fun b hb=>⟨by have:=hst.Bn;simp at hb;omega,kF.old hst.M hst.Bn (by simpa using hb)⟩);obtain⟨ka2,kb2,O9,kcap2,hv2,bG,tS⟩:=hsp;cases hv2;have HPS:=af tS;have FB:=af (And.intro C4 (And.intro W8 hcb));have MX:=af Wh;have Rp:=af dU;have HAU:=af hau;have HPOS:=af tX;have HINV:=af hinv;have HRG:=af hrg;have Ej:=af (YK f Nl);have HBW:=af (tW.body f Nl);have HF2:=af hf2;have UN:=af (And.intro hst.unit (And.intro hst.fs (And.intro hst.M hst.Bn)));have MLT:=af kF.mlt;obtain⟨aa,ab,ao,ac,rfl,haa,-⟩:=hrow;obtain⟨len,hlen⟩:∃z,z=ps.length:=⟨_,rfl⟩;have hall:args.length=len:=by omega
 have HLEN:=af hlen;have hplen:len≤100000000:=by have:=(Nk s _ hq).1;simp only[] at this;omega
 have QF:=af ((Nk s _ hq).2 W7);have HBO:=af trivial;clear Nk hq W7 dU hau hst kF tX hinv hrg ey hh wS tW YK ET cF hd C4 hf2 Nl W8 had hcb O1 hb1 hx1 W9 hb2 Xa tM Xb u9 Wh Xc hrow2 Xd tS hw2;rw[hall] at LO haa⊢;rw[←hlen] at LO bG D6⊢;clear hlen;have Xe:=af hall;clear hall;have s0:w2.cell? ⟨w.heap.size,0,none⟩=some (.slice pa len pc):=by simpa using LO.sg.cell 0
 go_enter Tryz.func88,Tryz.ntmps88;go_wp2_with fail
 go_loopw [31] (fun i wr=>∃(j:Nat) (sc:dQ),j≤len∧i=.int .i64 j∧Nj p cf u n d m ve args (.slice aa len ac) w #[.slice pa len pc,.int .u8 qt,.int .i64 qh,.int .i64 qf] ps Jp j sc wr) (fun i _=>len- (intOf i).toNat)
 case atStart=>exact⟨0,[],Nat.zero_le _,rfl,LO.out⟩
 case round=>
  clear LO s0;obtain⟨j,sc,hj,rfl,hF⟩:=hrel;have HF:=af hF;by_cases Kd:j<len
  ·have hji:(j:Int)<(len:Int):=by omega
   have xF:pa=some ⟨kb2,O9,none⟩:=by rcases bG with q|q;(·omega);(·exact q)
   subst xF;have Zf:j<ps.length:=by have:=HLEN.out;omega
   have Zg:j<args.length:=by have:=Xe.out;omega
   have oM:=OLD.out wr hF.kv;obtain⟨q1,q2⟩:=HPS.out j Zf;have y0:=aZ _ _ _ _ (oM _ _ q1);have y1:=aZ _ _ _ _ (oM _ _ q2);obtain⟨aa2,Zh,ao2,ac2,hv3,Bq,ha4⟩:=hF.row;have Pa:args.length=len:=Xe.out;obtain⟨rfl,rfl⟩:aa=aa2∧ac=ac2:=by rw[Pa] at hv3;simpa using hv3
   have haa2:aa=some ⟨Zh,ao2,none⟩:=by rcases Bq with q|q;(·omega);(·exact q)
   subst haa2;have ya:=ha4 j Zg;have Xf:=af Zf;have Zi:=af Zg;have Nn:=af (fun(wb:World) (h:Nj p cf u n d m ve args (.slice (some ⟨Zh,ao2,none⟩) len ac) w #[.slice (some ⟨kb2,O9,none⟩) len pc,.int .u8 qt,.int .i64 qh,.int .i64 qf] ps Jp j sc wb) (w1 w2:World) (h1:w1=wb.alloc (.cells #[.int .u32 (args[j]'Zi.out),.int .u8 (ps[j]'Xf.out).2] 201)) (hg:w1.grownBy w2 (some (w.heap.size+1))) (hp:Mp w2 (w.heap.size+1) (aY (ps[j]'Xf.out).1 (.pointer (some ⟨wb.heap.size,0,none⟩)) (lY sc)))=>h.give MX.out Xf.out Zi.out h1 hg hp);have e1:args[j]'Zg=args[j]'Zi.out:=rfl;generalize hav:args[j]'Zi.out=av at Nn ya e1;have e2:ps[j]'Zf=ps[j]'Xf.out:=rfl;simp only[e2] at y0 y1;generalize pP:ps[j]'Xf.out=pv at Nn y0 y1 e2;obtain⟨nm,pt⟩:=pv;simp only[] at y0 y1 Nn;skip;have y0b:=y0;have Rq:=(Below.refl wr.heap.size wr).alloc (Nat.le_refl _) (.cells #[.string nm,.int .u8 pt] 46);have FA:=af (hF.below Rq);have Zj:=af (Bx.new wr #[.string nm,.int .u8 pt] 46);have yab:=ag ya Rq;have YA:=af yab;clear hF oM q1 q2 hv3 Bq ha4 Rq yab e1 e2 hav pP Zf Zg Pa;go_wp2_with fail
   generalize wr.alloc (.cells #[.string nm,.int .u8 pt] 46)=wa at FA Zj YA⊢;have nmp:=FA.mp;have n46:wr.heap.size≠w.heap.size+1:=fun e=>Zj.dF nmp e.symm
   have nya:Zh≠w.heap.size+1:=fun e=>by
    obtain⟨es,c9,hm,-⟩:=nmp;have h:=YA.out;rw[e] at h;simp[World.cell?,hm] at h
   have G0:=af (show∀w9,(aU (fun b=>b=w.heap.size+1) wa.heap.size wa) w9→w9.cell? ⟨wr.heap.size,0,none⟩=some (.string nm) from fun w9 hk=>hk.at (by simpa using Zj.cell 0) n46);have G1:=af (show∀w9,(aU (fun b=>b=w.heap.size+1) wa.heap.size wa) w9→w9.cell? ⟨wr.heap.size,1,none⟩=some (.int .u8 pt) from fun w9 hk=>hk.at (by simpa using Zj.cell 1) n46);have G2:=af (show∀w9,(aU (fun b=>b=w.heap.size+1) wa.heap.size wa) w9→w9.cell? ⟨Zh,ao2+j,none⟩=some (.int .u32 av) from fun w9 hk=>hk.at YA.out nya);clear nmp n46 nya y0 y1 ya y0b;refine wp_region_held_drew (S:=(aU (fun b=>b=w.heap.size+1) wa.heap.size wa)) (by kernel_rfl) (aU.of (Below.refl _ _).drew) (fun hHeld=>?_);have FB9:=af (FA.below (Below.refl wa.heap.size wa).drew);have K3:=af hHeld;generalize wa.drew=wb at FB9 K3 hHeld⊢;refine tk 0 ?_;refine tk 1 ?_;refine tk 2 ?_ (hy:=by intro w' hSw;have q:=G0.out w' hSw;go_simp;(try with_reducible rfl));refine tk 3 ?_;refine tk 4 ?_;refine tk 5 ?_;refine tk 6 ?_ (hy:=by intro w' hSw;have q:=G2.out w' hSw;go_simp;(try with_reducible rfl));refine tk 7 ?_;refine tk 8 ?_ (hy:=by intro w' hSw;have q:=G1.out w' hSw;go_simp;(try with_reducible rfl));refine tk 9 ?_;refine tr 10 fun K hK=>?_
   go_simp;have hk4:(aU (fun b=>b=w.heap.size+1) wa.heap.size wa) (wb.alloc (.cells #[.int .u32 av,.int .u8 pt] 201)):=K3.trans (aU.of (((Below.refl wb.heap.size wb).alloc (Nat.le_refl _) _).mono K3.size));have K4:=af hk4;have M4:=af (FB9.mp.al (.cells #[.int .u32 av,.int .u8 pt] 201));refine hK.out _ _ hk4 (fun hHeld=>?_);clear hK K
   try simp only[bK,bL,bM,bN,bO]
   clear hk4;obtain⟨w5,hrun,Ni,Rk,Jk⟩:=M4.update sq bm nm (.pointer (some ⟨wb.heap.size,0,none⟩));have F5:=af (Nn.out wb FB9.out _ w5 rfl Ni Jk);have zz:(aU (fun b=>b=w.heap.size+1) wa.heap.size wa) w5:=K4.trans (aU.gr Ni K4.size fun k e=>by cases e;exact .inl rfl);clear Ni Rk Jk;refine tr 11 fun K hK=>?_
   go_simp;refine hK.out _ _ zz (fun hHeld=>?_);clear hK K
   try simp only[bK,bL,bM,bN,bO]
   clear zz;refine td ?_;clear hrun;go_wp2_with fail
   exact⟨⟨j+1,_,by omega,by go_num,F5.out⟩,by simp only[intOf];omega⟩
  ·obtain rfl:j=len:=by omega
   have Np:=hF.ad;have Xg:=hF.par;rw[HLEN.out,List.drop_length] at Np;simp only[cC,Except.ok.injEq] at Np;have Pb:j5 sc=fT ps args []:=by
    rw[←Xg,HLEN.out,List.drop_length];rfl
   have Pc:=(Below.refl wr.heap.size wr).alloc (Nat.le_refl _) (.cells #[.map (some (w.heap.size+1))] 210);have Jq:=(Below.refl (wr.alloc (.cells #[.map (some (w.heap.size+1))] 210)).heap.size (wr.alloc (.cells #[.map (some (w.heap.size+1))] 210))).alloc (Nat.le_refl _) (.cells #[.slice (some ⟨wr.heap.size,0,none⟩) 1 1] 213);have FA:=af ((hF.below Pc).below Jq);have bg:=(Bx.new wr #[.map (some (w.heap.size+1))] 210).on (ah Jq) (by simp);have bF:=Bx.new (wr.alloc (.cells #[.map (some (w.heap.size+1))] 210)) #[.slice (some ⟨wr.heap.size,0,none⟩) 1 1] 213;have Xh:(wr.alloc (.cells #[.map (some (w.heap.size+1))] 210)).heap.size=wr.heap.size+1:=by simp
   rw[Xh] at bF;have BG:=af bg;have BF:=af bF;have HSC:=af Np;have HPR:=af Pb;have WW:=af hF.sg.lt;have hjn:¬((j:Int)<(j:Int)):=by omega
   clear hF Np Xg Pb Pc Jq bg bF Xh Kd;go_wp2_with fail
   generalize (wr.alloc (.cells #[.map (some (w.heap.size+1))] 210)).alloc (.cells #[.slice (some ⟨wr.heap.size,0,none⟩) 1 1] 213)=w3 at FA BG BF⊢;have zv:mO w3 n (wr.heap.size+1) [sc] wr.heap.size 1 [w.heap.size+1]:=by
    have h1:=MX.out;have h2:=WW.out;refine⟨by simpa using BF.out,vV (n:=1) BG.out (by omega) rfl (by omega),rfl,?_,?_,by simp,by simpa using FA.nd,⟨?_,?_,by omega⟩,by simp⟩
    ·intro i q1 q2;have hi:i=0:=by simpa using q1
     subst hi;exact FA.mp
    ·intro s9 hs y hy;simp only[List.mem_singleton] at hs;subst hs;exact(FA.boxes y hy).1
    ·intro q hq;simp only[List.mem_singleton] at hq;subst hq;omega
    ·intro s9 hs y hy;simp only[List.mem_singleton] at hs;subst hs;exact Nat.le_trans MX.out (FA.boxes y hy).2
   have Xi:Fr.Rg (ai [sc]):=by
    intro s9 hs x hx;have hs2:s9=j5 sc:=by simpa[ai] using hs
    subst hs2;rw[HPR.out] at hx;have par:∀(ps:List PW) (l:List Int) (sc:Hp),(∀x∈l,U x)→(∀x∈sc,U x.2.2)→∀x∈fT ps l sc,U x.2.2:=by
     intro ps
     induction ps with
     |nil=>intro l sc _ h;cases l<;>exact h
     | cons p r ih=>
      intro l sc hl h;cases l with
      |nil=>exact h
      |cons a l=>
       refine ih l _ (fun x hx=>hl x (by simp[hx])) (fun x hx=>?_);rcases oc _ _ _ _ hx with rfl|q
       ·exact hl a (by simp)
       ·exact h x q
    exact par ps args [] HAU.out (fun x hx=>by simp at hx) x hx
   have X3:=af (show dW p cf u n aN (d+1) m ve (wr.heap.size+1) [sc] wr.heap.size 1 [w.heap.size+1] w3 from⟨⟨FA.st,FA.me,zv,HPOS.out⟩,HINV.out,HRG.out,Xi⟩);clear zv Xi;have hbe:ai [sc]=[fT ps args []]:=by simp only[ai,List.map_cons,List.map_nil,HPR.out]
   have Xj:dm [sc]=[Jp]:=by simp only[dm,List.map_cons,List.map_nil];rw[←HSC.out]
   have Oy:=af hbe;clear hbe;obtain⟨hun,hufs,hM9,hBn9⟩:=UN.out;obtain⟨vg9,vh9,vf9,Wo,-,-,hsf⟩:=hun;cases Wo;obtain⟨fa9,O6,fo9,fc9,hvf,mL,pN⟩:=ei.open hsf;obtain⟨C4,W8,hcb⟩:=FB.out;obtain⟨fi,hfi2⟩:∃fi:Nat,qf=fi:=⟨qf.toNat,by have:=QF.out;omega⟩;subst hfi2;simp only[Int.toNat_natCast] at C4;rw[←hufs] at C4;obtain⟨tB,hfe⟩:=List.getElem?_eq_some_iff.1 C4;obtain⟨bv,Rs,tD⟩:=(pN fi tB).c5;rw[hfe] at tD;obtain⟨ba,bc,rfl⟩:=tD.ay;have hfa2:fa9=some ⟨O6,fo9,none⟩:=by rcases mL with q|q;(·omega);(·exact q)
   subst hfa2;have oM:=OLD.out w3 FA.kv;have Xk:=aZ _ _ _ _ (oM _ _ Rs);have Ka:¬(p.TE ve O6∨FS (wr.heap.size+1) wr.heap.size [w.heap.size+1] [sc] O6):=by
    have hlt:O6<p.B:=C0 Rs;rintro(q|q)
    ·exact X3.c.me.old hM9 hBn9 hlt q
    ·have:=(X3.c.fr.fs q).1;omega
   obtain⟨ul,hul⟩:∃z,z=u.fs.length:=⟨_,rfl⟩;rw[←hul] at hvf tB;have C5:(aI cf k).L (d+1) (ai [sc]) f.body m≠.lost:=by rw[Oy.out];exact E0.out
   have G5:=af (show∀w9,aU (fun b=>p.TE ve b∨FS (wr.heap.size+1) wr.heap.size [w.heap.size+1] [sc] b) w3.heap.size w3 w9→w9.cell? ⟨p.X,2,none⟩=some (.slice (some ⟨O6,fo9,none⟩) ul fc9) from fun w9 hk=>by rw[←hvf];simpa using(X3.jO hk X3.c.st.X (by decide) (by decide)).cell 2);have G6:=af (show∀w9,aU (fun b=>p.TE ve b∨FS (wr.heap.size+1) wr.heap.size [w.heap.size+1] [sc] b) w3.heap.size w3 w9→w9.cell? ⟨w.heap.size,3,none⟩=some (.int .i64 fi) from fun w9 hk=>by simpa using(X3.jO hk FA.sg (by decide) (by decide)).cell 3);have G7:=af (show∀w9,aU (fun b=>p.TE ve b∨FS (wr.heap.size+1) wr.heap.size [w.heap.size+1] [sc] b) w3.heap.size w3 w9→w9.cell? ⟨O6,fo9+fi*6+5,none⟩=some (.slice ba f.body.len bc) from fun w9 hk=>hk.at Xk Ka);have cx:=af (HL.out (d+1) m ve (wr.heap.size+1) [sc] wr.heap.size 1 [w.heap.size+1] f.body (.slice ba f.body.len bc) f.type 0 cbd w3.drew W8 HBW.out (by rw[Xj];exact hcb) ((tD.sub oM).sub (aw (Below.refl _ _).drew)) (by have:=Ej.out;simp;omega) (X3.below (Below.refl _ _).drew) C5);have K3:=af (KV.of p ve (Below.refl w3.heap.size w3).drew);have V3:=af FA.kv;have b0M:=ag X3.c.b0 (Below.refl w3.heap.size w3).drew;have hfli:(fi:Int)<(ul:Int):=by omega
   clear hsf pN W8 hcb C4 hfe Rs tD oM Xk Ka hul hvf Xj mL;refine wp_region_held_drew (S:=(fun w9=>aU (fun b=>p.TE ve b∨FS (wr.heap.size+1) wr.heap.size [w.heap.size+1] [sc] b) w3.heap.size w3 w9∧w9.cell? ⟨p.M,0,none⟩=some (.pointer (some ⟨p.X,0,none⟩)))) (by kernel_rfl) ⟨aU.of (Below.refl _ _).drew,b0M⟩ (fun hHeld=>?_);refine tk 0 ?_;refine tk 1 ?_;refine tk 2 ?_;refine tk 3 ?_;refine tk 4 ?_;refine tk 5 ?_ (hy:=by intro w' hSw;have q:=hSw.2;go_simp;(try with_reducible rfl));refine tk 6 ?_;refine tk 7 ?_;refine tk 8 ?_;refine tk 9 ?_ (hy:=by intro w' hSw;have q:=G5.out w' hSw.1;go_simp;(try with_reducible rfl));refine tk 10 ?_;refine tk 11 ?_ (hy:=by intro w' hSw;have q:=G6.out w' hSw.1;go_simp;(try with_reducible rfl));refine tk 12 ?_;refine tk 13 ?_;refine tk 14 ?_ (hy:=by intro w' hSw;have q:=G7.out w' hSw.1;go_simp;(try with_reducible rfl));refine tr 15 fun K hK=>?_
   go_simp;go_at_call 123;refine cx.mono ?_;intro e9 w4 hp;clear cx;have Xl:=af (show∀(Jo:EvS) (new:Nat→Prop),KS p ve Jo (FS (wr.heap.size+1) wr.heap.size [w.heap.size+1] [sc]) new w3.drew w4→KV p ve Jo w w4 from fun Jo new hk=>by
    have h:=(KV.trans V3.out K3.out);refine⟨h.k.trans (hk.k.mono h.size fun b hb q=>q.elim id fun q=>?_),h.v.trans hk.v h.size⟩
    exfalso
    have h1:=WW.out;rcases q with q|q|q|⟨y,hy,q⟩
    ·omega
    ·omega
    ·simp at q;omega
    ·have:=(FA.boxes y (by simpa using hy)).2;omega)
   cases ho:(aI cf k).L (d+1) (ai [sc]) f.body m with
   |lost=>exact absurd ho C5
   |stop a b9 m4=>
    rw[ho] at hp;obtain⟨rfl,Jo,d4,WZ,hK4⟩:=hp;have hz:=af (show(aI cf (k+1)).F d ⟨ps,qt,qh,fi⟩ args m=.stop a b9 m4 by rw[hg.out,←Oy.out,ho];rfl);have F1:Hid (aX p cf.allowed n d w.heap.size ve (fun x=>.returned (.int .u32 x)) (.stop a b9 m4) w (dy a b9) w4):=af (dG WZ (Xl.out _ _ hK4) rfl);clear WZ hK4 ho C5 hK hHeld;go_wp2_with fail
    refine ar ?_;rw[HR.out,hz.out];exact F1.out
   |ok q m4=>
    rw[ho] at hp;obtain⟨rfl,hU,Jo,fb4,g4,cap4,ms4,hb4,gl,hK4⟩:=hp;have hz:=af (show(aI cf (k+1)).F d ⟨ps,qt,qh,fi⟩ args m=.ok q.2.1 m4 by rw[hg.out,←Oy.out,ho];rfl);obtain⟨how,v4,fr4⟩:=q;simp only[] at hU hz⊢;have k4:=af (show(fun w9=>aU (fun b=>p.TE ve b∨FS (wr.heap.size+1) wr.heap.size [w.heap.size+1] [sc] b) w3.heap.size w3 w9∧w9.cell? ⟨p.M,0,none⟩=some (.pointer (some ⟨p.X,0,none⟩))) w4 from⟨((K3.ks _).trans hK4).k,gl.c.b0⟩);have V4:=af (Xl.out _ _ hK4);obtain⟨en4,vx4,fa4,Nq⟩:=gl.c.me.box;have z9:w4.cell? ⟨p.M,9,none⟩=some (.int .i64 (d+1:Nat)):=by simpa using Nq.cell 9
    have f94:w4.frozen? ⟨p.M,9,none⟩=false:=Nq.free 9;have Rt:=aj w4 ⟨p.M,9,none⟩ (.int .i64 (d:Int));have M5:=af (gl.c.me.Ja (steps:=m4.steps) (reps:=m4.reps) (d':=d) Rt ⟨en4,vx4,fa4,by simpa using Nq.set 9 (.int .i64 (d:Int))⟩);have V5:=af (V4.trans (⟨aU.gr Rt (Nat.le_refl _) fun k e=>by cases e;exact .inl (.inl (.inl rfl)),Vc.refl _ _⟩:KV p Jo Jo w4 (w4.setCell ⟨p.M,9,none⟩ (.int .i64 (d:Int)))));have hwd:IntKind.i64.wrap (((d+1:Nat):Int) -1)=(d:Int):=by rw[IntWalk.i64_in _ (by omega)];omega
    have hwd2:IntKind.i64.wrap (d:Int)=(d:Int):=IntWalk.i64_in _ (by omega);clear hHeld hb4 gl hK4 ho C5 hU Nq Rt V4;go_wp2_with fail
    refine hK.out _ _ k4.out (fun hHeld=>?_);clear hK K
    try simp only[bK,bL,bM,bN,bO]
    refine tk 16 ?_;refine tk 17 ?_;refine tk 18 ?_;refine tk 19 ?_;refine tk 20 ?_;refine td ?_;go_wp2_with fail
    rw[HR.out,hz.out];exact⟨rfl,_,M5.out,V5.k,V5.v⟩
end
section
open Go.Shelf
structure Ru (cf:Cf):Prop where
 ok:cf.Ok
 rg:cf.Rg
 jd:cf.jd=gm
 allowed:cf.allowed≤65536
 size:∀f∈cf.fs,f.body.sz≤16384
 few:∀s g,getM s cf.cs=some g→g.params.length≤100000000∧(g.host<0→0≤g.fn)
theorem E7 (p:Pt) (cf:Cf) (u:UT) (n:Nat) (aN:List Nat) (h:Ru cf):∀k,∀j,j≤k→CY p cf u n aN j∧Tr p cf u n aN j∧Zc p cf u n aN j∧Tl p cf u n aN j:=by
 have z:CY p cf u n aN 0∧Tr p cf u n aN 0∧Zc p cf u n aN 0∧Tl p cf u n aN 0:=by
  refine⟨?_,?_,?_,?_⟩
  ·intro d m ve F fb g cap ms t h kids v ty w _ _ _ _ _ ey;exact absurd rfl ey
  ·intro d m ve F fb g cap ms l v ret lp c' w _ _ _ _ _ _ ey;exact absurd rfl ey
  ·intro d m ve F fb g cap ms t h x b vx vb vz a ty ret lp c' w _ _ _ _ _ _ _ _ _ _ _ _ ey;exact absurd rfl ey
  ·intro d m ve s q args va pa pc w _ _ _ _ _ _ _ _ _ _ _ ey;exact absurd rfl ey
 intro k
 induction k with
 |zero=>
  intro j hj;obtain rfl:j=0:=by omega
  exact z
 | succ k ih=>
  intro j hj;by_cases hjk:j≤k
  ·exact ih j hjk
  obtain rfl:j=k+1:=by omega
  obtain⟨i1,i2,i3,i4⟩:=ih k (Nat.le_refl _);exact⟨Q8 p cf u n aN k h.ok h.rg h.jd h.allowed (af i1) (af i4),Nb p cf u n aN k (af (wD p cf u n aN k h.rg h.jd h.allowed (af i1) (af i2) (af i3))),
   Jl p cf u n aN k h.rg h.allowed (af fun j hj=>(ih j hj).1) (af fun j hj=>(ih j hj).2.1),Bp p cf u n aN k h.ok h.rg (fun f hf=>by have:=h.size f hf;omega) h.few (af i2)⟩
theorem Nr (p:Pt) (cf:Cf) (u:UT) (n:Nat) (aN:List Nat) (h:Ru cf) (k:Nat):Tl p cf u n aN k:=(E7 p cf u n aN h k k (Nat.le_refl _)).2.2.2
end
section
open Go.Shelf
abbrev qa (u:UT) (vs:VS) (cs:dM) (allowed:Nat) (values:List Int):Cf:=⟨vs,cs,pW u.gs 0 [],u.hs,u.fs,allowed,values,gm⟩
theorem Jr {u:UT} {vs:VS} {cs:dM} (wf:u.Wf) (hs:aW u=0) (hg:dJ u=some (vs,cs)) {allowed:Nat} {values:List Int} (ha:allowed≤65536) (hv:∀x∈values,U x):Ru (qa u vs cs allowed values):=by
 obtain⟨hc,vs2,lq,hg2,hn,hf⟩:=fI hs;rw[hg] at hg2;cases hg2;obtain⟨c1,c2,c3⟩:=j8 hc;obtain⟨f1,f2,f3⟩:=k9 c1;have hk:=CM hg;have few:∀s g,getM s cs=some g→g.params.length≤15:=fun s g q=>by
  by_cases hh:g.host<0
  ·obtain⟨_,f,h1,h2,_⟩:=(hk s g q).1 hh;rw[←h2];exact(mQ (f3 f (List.mem_of_getElem? h1))).1
  ·obtain⟨x,h1,h2,_⟩:=(hk s g q).2 hh;rw[←h2];exact IU (f2 x (List.mem_of_getElem? h1))
 refine⟨⟨fun s g q=>⟨fun hh=>?_,fun hh=>?_⟩,fun f q=>⟨(mQ (f3 f q)).2,(IQ (wk hf f q)).1⟩⟩,⟨wj,hv,fun f q=>(wf.f f q).2.2⟩,rfl,ha,fun f q=>?_,fun s g q=>⟨?_,fun hh=>((hk s g q).1 hh).1⟩⟩
 ·obtain⟨_,f,h1,h2,_⟩:=(hk s g q).1 hh;exact⟨f,h1,h2⟩
 ·obtain⟨x,h1,_⟩:=(hk s g q).2 hh;exact⟨x,h1⟩
 ·have q:f∈u.fs:=q;have h9:=xR q;omega
 ·have:=few s g q;omega
end
section
open Go.Shelf
def Pd (s B X vb cb pb:Nat) (vg vh vf hv vv:Value) (xs:List Value) (hd:HD):Pt:=⟨B,s+2,X,vb,cb,pb,s+4,s+3,vg,vh,vf,hv,vv,xs,hd.map (·.1)⟩
section
variable {w w':World} {B:Nat} {u:UT} {vs:VS} {cs:dM} {pl:List (ByteArray×Int)} {hd:HD} {xs:List Value} {X vb cb pb:Nat} {vg vh vf hv:Value}
theorem sP (h:ik w B u vs cs (pW u.gs 0 []) hd xs X vb cb pb vg vh vf hv) (hg:dJ u=some (vs,cs)) (ho:ju u hd) {allowed:Nat} {values:List Int} {vv:Value} (hv0:yx w w.heap.size (dV xs) values vv) (Aj:values.length≤1000000000) (hb:Below w.heap.size w w')
  (hM:Bx w' (w.heap.size+2) #[.pointer (some ⟨X,0,none⟩),.int .i64 allowed,vv,.int .u8 0,.int .u32 0,.int .u8 0,.int .i64 0,.int .i64 0,.slice none 0 0,.int .i64 0,.map (some (w.heap.size+4))] 119)
  (hc:Bx w' (w.heap.size+3) #[.pointer (some ⟨w.heap.size+2,0,none⟩)] 116) (hk:nh w' (w.heap.size+4) (sr (w.heap.size+2) (w.heap.size+3))) (hs:w.heap.size+5≤w'.heap.size):
  Mv (Pd w.heap.size B X vb cb pb vg vh vf hv vv xs hd) (qa u vs cs allowed values) u (w.heap.size+5) w'∧iy (Pd w.heap.size B X vb cb pb vg vh vf hv vv xs hd) allowed (w.heap.size+5) 0 ⟨hd.map (·.2),0,0,[]⟩ ⟨.slice none 0 0,[]⟩ w':=by
 have oM:Cells (aA w (bJ B)) (aA w' (bJ B)):=bt fun a u h1 h2=>⟨h1,ag h2 hb⟩
 have mv:∀{b l},b<B→Mp (aA w (bJ B)) b l→Mp (aA w' (bJ B)) b l:=fun{b l} hb2 hq=>iF ((ew hq (by simpa using hb2)).mono hb) (by simpa using hb2)
 obtain⟨c1,l,c2,c3⟩:=h.nm;obtain⟨ka,kb,aD,aK,v1,v2,v3,v4⟩:=hv0;have hlen:=h.held.len;have qO:=h.lB;have hlX:=h.lX;have hu:=ho.len;refine⟨⟨h.box.on (ah hb) (by simp),h.unit.sub oM,⟨mv h.lv c1,l,mv h.lc c2,c3.sub oM⟩,h.place.mono hb,?_,by simpa[Pd] using hlen,⟨ka,kb,aD,aK,v1,v2,?_,fun i hi=>ag (v4 i hi) hb⟩,fun s x hx=>?_,rfl,rfl,by show X<w.heap.size+5;omega,h.lv,h.lc,h.lp,?_,?_,fun b q=>?_,fun x hx b q=>?_,hk,hc,?_,?_,Aj⟩,
  ⟨⟨.mk,.mk,.mk,by simpa[Pd,j4.v] using hM⟩,by simpa[Pd] using hlen,fun i h1 h2=>?_,h.held.nd,⟨[],rfl,rfl,⟨by simp[eD],.inl ⟨rfl,rfl⟩⟩,fun i h1 _=>by simp at h1⟩,hs,by show w.heap.size+2<w.heap.size+5;omega⟩⟩
 ·have:=aC h.held.row hb;rw[wm] at this
  show w'.ownsRow B 82 2 hv xs.length (hc2 (hd.map (·.1)) xs)
  rw[hlen];exact this
 ·rcases v3 with q|⟨q1,q2⟩
  ·exact .inl q
  ·refine .inr ⟨by omega,?_⟩;rintro(q|q)
   ·have q:kb=w.heap.size+2:=q;omega
   ·exact q2 q
 ·obtain⟨i,h1,h2⟩:=CH u.gs.length u.gs [] vs 0 [] (iI hg).1 (by omega) (fun s x q=>by cases q) s x hx;exact⟨i,h1,by show i<xs.length;omega⟩
 ·show B≤w.heap.size+2
  omega
 ·show B≤w.heap.size+5
  omega
 ·have:=(h.held.row.lt b q).2;omega
 ·obtain⟨i,hi,rfl⟩:=List.getElem_of_mem hx;have gq:i<xs.length:=hi;have:=((h.held.rows i gq (by omega)).lt b q).2;omega
 ·show w.heap.size+4<w.heap.size+5
  omega
 ·show w.heap.size+3<w.heap.size+5
  omega
 ·have h3:i<hd.length:=by simpa using h2
  have:=aC (h.held.rows i h1 h3) hb
  show w'.ownsRow B 52 1 xs[i] ((hd.map (fun a:ByteArray×List Int=>a.2))[i]'h2).length (((hd.map (fun a:ByteArray×List Int=>a.2))[i]'h2).map (Value.int .u32))
  rw[om];exact this
end
end
section
open Go.Shelf
theorem E8 (v:Value) (w:World):(Instr.typeAssert (.iface 168 v) 20 168 true).run Tryz.prog w=.ok (.tuple #[v,.bool true]) w:=by kernel_rfl
theorem Js (v:Value) (w:World):(binOp .eql 20 (.iface 168 v) .nilIface).run Tryz.prog w=.ok (.bool false) w:=by kernel_rfl
theorem qc {P:Program} {ops:Array Oper} {Q:Exit→Act→List Frame→World→Prop} {l:List Nat} {a:Act} {cs:List Frame} {w:World} (h:∀Q',Q'=Q→wpOpsS P ops Q' l a cs w):wpOpsS P ops Q l a cs w:=h _ rfl
theorem uK {P:Program} {Q:Exit→Act→World→Prop} {a:Act} {w:World} {n id:Nat} {ops:Array Oper} {d:Bool} {t:Operand} {A B:Code} (h:∀B',B'=B→Code.wp P (Code.block n ((Code.region id ops d).seq (Code.cond t A B'))) Q a w):Code.wp P (Code.block n ((Code.region id ops d).seq (Code.cond t A B))) Q a w:=h _ rfl
theorem Fa {P:Program} {Q:Exit→Act→World→Prop} {a:Act} {w:World} {id:Nat} {ops:Array Oper} {d:Bool} {t:Operand} {A B:Code} (h:∀A' B',A'=A→B'=B→Code.wp P ((Code.region id ops d).seq (Code.cond t A' B')) Q a w):Code.wp P ((Code.region id ops d).seq (Code.cond t A B)) Q a w:=h _ _ rfl rfl
theorem Xm (a v:Value):(#[a]++(Array.replicate 21 undef).setIfInBounds 3 v)=#[a,undef,undef,undef,v,undef,undef,undef,undef,undef,undef,undef,undef,undef,undef,undef,undef,undef,undef,undef,undef,undef]:=by kernel_rfl
theorem Ns (p:Addr) (w:World):
  CallsD Tryz.prog 87 #[.pointer (some p)] .returning w fun e u' w'=>e=.returned (.tuple #[])∧u'=.returning∧w'=w:=by
 refine callsD_of_wpS Tryz.func87 rfl fun c₀ cs hu=>?_
 apply wpS_seq;apply wpS_region;refine qc fun Q hQ=>?_
 have HQ:=af hQ;clear hQ;simp[wpOpsS,go_sem,recoverD,hu,Tryz.ntmps87];rw[HQ.out];simp only[Exit.thenS];rw[Xm];clear HQ;refine wpS_of_wp ?_;refine uK fun B hB=>?_
 clear hB;go_wp2_with fail
 cases c₀
 simp_all [bodyPostS,results,Tryz.results87,go_sem]
theorem Nt (c M:Nat) (x y:Int) (v0 v1 v2 v3 v4 v5 v6 v7 v8 v9 v10:Value) (xO:List PanicEntry) (w:World) (hc:Bx w c #[.pointer (some ⟨M,0,none⟩)] 116) (hM:Bx w M #[v0,v1,v2,v3,v4,v5,v6,v7,v8,v9,v10] 119):
  CallsD Tryz.prog 87 #[.pointer (some ⟨c,0,none⟩)] (.panicking ({v:=.iface 168 (.agg #[.int .u8 x,.int .u8 y]),recovered:=false}::xO)) w fun e u' w'=>
   e=.returned (.tuple #[])∧u'=.panicking ({v:=.iface 168 (.agg #[.int .u8 x,.int .u8 y]),recovered:=true}::xO)∧∃w2,Below w.heap.size w w2∧Bx w2 M #[v0,v1,v2,v3,v4,v5,v6,v7,v8,v9,v10] 119∧w'=(w2.setCell ⟨M,3,none⟩ (.int .u8 x)).setCell ⟨M,5,none⟩ (.int .u8 y):=by
 refine callsD_of_wpS Tryz.func87 rfl fun c₀ cs hu=>?_
 apply wpS_seq;apply wpS_region;refine qc fun Q hQ=>?_
 have HQ:=af hQ;clear hQ;simp[wpOpsS,go_sem,recoverD,hu,Tryz.ntmps87];rw[HQ.out];simp only[Exit.thenS];clear HQ;rw[Xm];refine wpS_of_wp ?_;have h1:=E8;have h2:=Js;have hlt:=hc.lt;refine uK fun B hB=>?_
 have HCB:=af hB;clear hB;go_wp2_with fail
 rw[HCB.out];refine Fa fun A9 B9 hA9 nL=>?_
 have HA9:=af hA9;clear hA9 nL HCB;go_wp2_with fail
 rw[HA9.out];clear HA9;go_wp2_with fail
 have hB:=Bx.new w #[.int .u8 x,.int .u8 y] 168;have hcA:=af (hc.al (.cells #[.int .u8 x,.int .u8 y] 168));have hMA:=af (hM.al (.cells #[.int .u8 x,.int .u8 y] 168));have Rw:=af ((Below.refl w.heap.size w).alloc (Nat.le_refl _) (.cells #[.int .u8 x,.int .u8 y] 168));have HB:=af hB;have hMl:=hM.lt;clear hB;generalize w.alloc (.cells #[.int .u8 x,.int .u8 y] 168)=w1 at hcA hMA Rw HB⊢;have Fz:=af (hcA.on (aJ w1 none) (by simp));have yK:=af (hMA.on (aJ w1 none) (by simp));have Zk:=af (HB.on (aJ w1 none) (by simp));refine wp_region_held_drew (S:=(fun w9=>Bx w9 c #[.pointer (some ⟨M,0,none⟩)] 116∧Bx w9 w.heap.size #[.int .u8 x,.int .u8 y] 168)) (by kernel_rfl) ⟨Fz.out,Zk.out⟩ (fun hHeld=>?_);have Xn:=af (Rw.trans ((Below.refl w1.heap.size w1).drew.mono Rw.size));generalize w1.drew=w2 at Fz yK Zk Xn hHeld⊢;refine tk 0 ?_ (hy:=by intro w' hSw;have q:=hSw.1.cell 0;simp at q;go_simp;(try with_reducible rfl));refine tk 1 ?_ (hy:=by intro w' hSw;have q:=hSw.1.cell 0;simp at q;go_simp;(try with_reducible rfl));refine tk 2 ?_;refine tk 3 ?_ (hy:=by intro w' hSw;have q:=hSw.2.cell 0;simp at q;go_simp;(try with_reducible rfl));refine tk 4 ?_;refine tk 5 ?_ (hy:=by intro w' hSw;have q:=hSw.2.cell 1;simp at q;go_simp;(try with_reducible rfl));refine tk 6 ?_;refine tk 7 ?_;refine tk 8 ?_;have g1:=aj w2 ⟨M,3,none⟩ (.int .u8 x);have k1:=af (show(fun w9=>Bx w9 c #[.pointer (some ⟨M,0,none⟩)] 116∧Bx w9 w.heap.size #[.int .u8 x,.int .u8 y] 168) (w2.setCell ⟨M,3,none⟩ (.int .u8 x)) from⟨Fz.on g1 (by have:=Fz.dc yK.out (by decide);simpa using this),Zk.on g1 (by have:=Zk.dc yK.out (by decide);simpa using this)⟩);have dC:=af (yK.set 3 (.int .u8 x));have g2:=aj (w2.setCell ⟨M,3,none⟩ (.int .u8 x)) ⟨M,5,none⟩ (.int .u8 y);have k2:=af (show(fun w9=>Bx w9 c #[.pointer (some ⟨M,0,none⟩)] 116∧Bx w9 w.heap.size #[.int .u8 x,.int .u8 y] 168) ((w2.setCell ⟨M,3,none⟩ (.int .u8 x)).setCell ⟨M,5,none⟩ (.int .u8 y)) from⟨k1.1.on g2 (by have:=k1.1.dc dC.out (by decide);simpa using this),k1.2.on g2 (by have:=k1.2.dc dC.out (by decide);simpa using this)⟩);have z3:=yK.cell 3;have f3:=yK.free 3;have z5:=yK.cell 5;have f5:=yK.free 5;simp at z3 z5;have hM3:=af (dC.set 5 (.int .u8 y));clear g1 g2;refine tr 9 fun K hK=>?_
 go_simp;refine hK.out _ _ k1.out (fun hHeld=>?_);clear hK K
 try simp only[bK,bL,bM,bN,bO]
 refine tk 10 ?_;refine tk 11 ?_;refine tk 12 ?_;refine tr 13 fun K hK=>?_
 go_simp;refine hK.out _ _ k2.out (fun hHeld=>?_);clear hK K
 try simp only[bK,bL,bM,bN,bO]
 refine td ?_;go_wp2_with fail
 simp[bodyPostS,results,Tryz.results87,go_sem];exact⟨w2,Xn.out,by simpa using yK.out,rfl⟩
end
section
open Go.Shelf
def Pe (Q:Exit→Act→World→Prop):Exit→Act→World→Prop
 | .normal,a,w=>Q .normal a w
 |_,_,_=>False
theorem Fb {P:Program} {c:Code} {Q:Exit→Act→World→Prop} {a:Act} {w:World} (h:Code.wp P c (Pe Q) a w):Code.wp P c Q a w:=
 Code.wp_mono (fun e a w q=>by cases e<;>first|exact q|exact q.elim) h
theorem Xo (M:Nat) (pa:Option Addr) (ln pc:Nat) (ty ho fi:Int) (va:Value) (w:World) (R:Ending→World→Prop)
  (h:Hid (Calls Tryz.prog 88 #[.pointer (some ⟨M,0,none⟩),.agg #[.slice pa ln pc,.int .u8 ty,.int .i64 ho,.int .i64 fi],va] ((w.alloc (.cells #[.pointer (some ⟨M,0,none⟩)] 116)).alloc (.cells #[.slice pa ln pc,.int .u8 ty,.int .i64 ho,.int .i64 fi] 114)) R))
  (hR:Hid (∀e w',R e w'→Bx w' w.heap.size #[.pointer (some ⟨M,0,none⟩)] 116∧(∃v0 v1 v2 v3 v4 v5 v6 v7 v8 v9 v10,Bx w' M #[v0,v1,v2,v3,v4,v5,v6,v7,v8,v9,v10] 119)∧((∃v,e=.returned (.int .u32 v))∨∃x y,e=dy x y))):
  Calls Tryz.prog 43 #[.pointer (some ⟨M,0,none⟩),.agg #[.slice pa ln pc,.int .u8 ty,.int .i64 ho,.int .i64 fi],va] w fun e w'=>e=.returned (.tuple #[])∧∃e0 w1,R e0 w1∧
   ((∃v w2,e0=.returned (.int .u32 v)∧Below w1.heap.size w1 w2∧w'=(w2.setCell ⟨M,3,none⟩ (.int .u8 1)).setCell ⟨M,4,none⟩ (.int .u32 v))∨
    ∃x y w2,e0=dy x y∧Below w1.heap.size w1 w2∧w'=(w2.setCell ⟨M,3,none⟩ (.int .u8 x)).setCell ⟨M,5,none⟩ (.int .u8 y)):=by
 have iw:∀(fn:Fn) (first cap:Array Value) (w:World),(Instr.makeFunc fn first cap).run Tryz.prog w=.ok (.func fn first cap) w:=fun _ _ _ _=>rfl
 go_enter_defers Tryz.func43,Tryz.ntmps43
 go_wp2_with fail
 refine h.mono ?_;intro e w1 hr;obtain⟨dT,⟨v0,v1,v2,v3,v4,v5,v6,v7,v8,v9,v10,hM⟩,he⟩:=hR.out e w1 hr;have Cq:=af hr;clear hr;have HC:=af dT;have HM:=af hM;clear dT hM;rcases he with⟨v,rfl⟩|⟨x,y,rfl⟩
 ·go_wp2_with fail
  have Fz:=af (HC.on (aJ w1 none) (by simp));have yK:=af (HM.on (aJ w1 none) (by simp));refine Fb ?_;refine wp_region_held_drew (S:=(fun w9=>Bx w9 w.heap.size #[.pointer (some ⟨M,0,none⟩)] 116)) (by kernel_rfl) Fz.out (fun hHeld=>?_);have Xn:=af (Below.refl w1.heap.size w1).drew;generalize w1.drew=w2 at Fz yK Xn hHeld⊢;refine tk 0 ?_ (hy:=by intro w' hSw;have q:=hSw.cell 0;simp at q;go_simp;(try with_reducible rfl));refine tk 1 ?_ (hy:=by intro w' hSw;have q:=hSw.cell 0;simp at q;go_simp;(try with_reducible rfl));refine tk 2 ?_;refine tk 3 ?_;refine tk 4 ?_;refine tk 5 ?_;have g1:=aj w2 ⟨M,3,none⟩ (.int .u8 1);have k1:=af (show(fun w9=>Bx w9 w.heap.size #[.pointer (some ⟨M,0,none⟩)] 116) (w2.setCell ⟨M,3,none⟩ (.int .u8 1)) from Fz.on g1 (by have:=Fz.dc yK.out (by decide);simpa using this));have dC:=af (yK.set 3 (.int .u8 1));have g2:=aj (w2.setCell ⟨M,3,none⟩ (.int .u8 1)) ⟨M,4,none⟩ (.int .u32 v);have k2:=af (show(fun w9=>Bx w9 w.heap.size #[.pointer (some ⟨M,0,none⟩)] 116) ((w2.setCell ⟨M,3,none⟩ (.int .u8 1)).setCell ⟨M,4,none⟩ (.int .u32 v)) from k1.on g2 (by have:=k1.dc dC.out (by decide);simpa using this));have z3:=yK.cell 3;have f3:=yK.free 3;have z4:=yK.cell 4;have f4:=yK.free 4;simp at z3 z4;clear g1 g2;refine tr 6 fun K hK=>?_
  go_simp;refine hK.out _ _ k1.out (fun hHeld=>?_);clear hK K
  try simp only[bK,bL,bM,bN,bO]
  refine tk 7 ?_;refine tk 8 ?_;refine tk 9 ?_;refine tr 10 fun K hK=>?_
  go_simp;refine hK.out _ _ k2.out (fun hHeld=>?_);clear hK K
  try simp only[bK,bL,bM,bN,bO]
  refine td ?_;simp only[Pe];go_wp2_with fail
  refine leaves_cons (f:=87) (args:=#[.pointer (some ⟨w.heap.size,0,none⟩)]) (by simp) (by simp[go_sem]) ?_;refine(Ns ⟨w.heap.size,0,none⟩ _).mono ?_;rintro e u' w'' ⟨rfl,rfl,rfl⟩;simp[Leaves,settle,results,Tryz.results43,go_sem];exact⟨_,_,Cq.out,.inl ⟨v,rfl,w2,Xn.out,rfl⟩⟩
 ·go_wp2_with fail
  refine leaves_cons (f:=87) (args:=#[.pointer (some ⟨w.heap.size,0,none⟩)]) (by simp) (by simp[go_sem]) ?_;refine(Nt w.heap.size M x y v0 v1 v2 v3 v4 v5 v6 v7 v8 v9 v10 [] _ HC.out HM.out).mono ?_;rintro e u' w'' ⟨rfl,rfl,w2,hb,dC,rfl⟩;simp[Leaves,settle,results,Tryz.results43,go_sem];exact⟨_,_,Cq.out,.inr ⟨x,y,rfl,w2,hb,rfl⟩⟩
end
section
open Go.Shelf
theorem Xp (w:World):(Instr.makeMap 117 none).run Tryz.prog w=.ok (.map (some w.heap.size)) (w.alloc (.map #[] 0)):=by kernel_rfl
theorem fK {w w':World} {k b:Nat} (h:w.grownBy w' (some b)) (hk:k≤b) (hs:k≤w.heap.size):Below k w w':=
 ⟨h.os,h.tape,h.output,h.size,fun j hj=>h.block j (by omega) (by simp;omega)⟩
theorem Nu (M:Nat) (w:World):Calls Tryz.prog 42 #[.pointer (some ⟨M,0,none⟩)] w fun e w'=>e=.returned (.map (some (w.heap.size+1)))∧Below w.heap.size w w'∧w'.heap.size=w.heap.size+2∧Bx w' w.heap.size #[.pointer (some ⟨M,0,none⟩)] 116∧nh w' (w.heap.size+1) (sr M w.heap.size):=by
 have iw:∀(fn:Fn) (first cap:Array Value) (w:World),(Instr.makeFunc fn first cap).run Tryz.prog w=.ok (.func fn first cap) w:=fun _ _ _ _=>rfl
 obtain⟨w0,hw0⟩:∃x,x=(w.alloc (.cells #[.pointer (some ⟨M,0,none⟩)] 116)).alloc (.map #[] 0):=⟨_,rfl⟩;have HW:=af hw0;have m0:Hid (nh w0 (w.heap.size+1) []):=af (by rw[hw0];simpa using nh.new (w.alloc (.cells #[.pointer (some ⟨M,0,none⟩)] 116)));have b0:Hid (Bx w0 w.heap.size #[.pointer (some ⟨M,0,none⟩)] 116):=af (by rw[hw0];exact(Bx.new w #[.pointer (some ⟨M,0,none⟩)] 116).al (.map #[] 0));have B0:Hid (Below w.heap.size w w0):=af (by rw[hw0];(repeat(first|exact Below.refl _ _|refine Below.drew ?_ |refine Below.alloc ?_ (by simp<;>omega) _)));have s0:Hid (w0.heap.size=w.heap.size+2):=af (by rw[hw0];simp);have J9:(Instr.makeMap 117 none).run Tryz.prog (w.alloc (.cells #[.pointer (some ⟨M,0,none⟩)] 116))=.ok (.map (some (w.heap.size+1))) w0:=by rw[hw0,Xp];simp
 clear hw0;obtain⟨w1,u1,g1,s1',M1⟩:=m0.put Tryz.underlying117 dp 1 (.func (.func 74) #[] #[]) (by rfl);have m1:=af M1;have b1:=af (b0.on g1 (by simp));have B1:=af (B0.trans (fK g1 (by omega) (by have:=s0.out;omega)));have s1:=af (s1'.trans s0.out);clear M1 s1' g1;obtain⟨w2,u2,g2,s2',M2⟩:=m1.put Tryz.underlying117 dp 2 (.func (.func 74) #[] #[]) (by rfl);have m2:=af M2;have b2:=af (b1.on g2 (by simp));have B2:=af (B1.trans (fK g2 (by omega) (by have:=s1.out;omega)));have s2:=af (s2'.trans s1.out);clear M2 s2' g2;obtain⟨w3,u3,g3,s3',M3⟩:=m2.put Tryz.underlying117 dp 3 (.func (.func 75) #[] #[.pointer (some ⟨w.heap.size,0,none⟩)]) (by rfl);have m3:=af M3;have b3:=af (b2.on g3 (by simp));have B3:=af (B2.trans (fK g3 (by omega) (by have:=s2.out;omega)));have s3:=af (s3'.trans s2.out);clear M3 s3' g3;obtain⟨w4,u4,g4,s4',M4⟩:=m3.put Tryz.underlying117 dp 4 (.func (.func 77) #[] #[.pointer (some ⟨w.heap.size,0,none⟩)]) (by rfl);have m4:=af M4;have b4:=af (b3.on g4 (by simp));have B4:=af (B3.trans (fK g4 (by omega) (by have:=s3.out;omega)));have s4:=af (s4'.trans s3.out);clear M4 s4' g4;have z4:=b4.cell 0;simp at z4;obtain⟨w5,u5,g5,s5',M5⟩:=m4.put Tryz.underlying117 dp 5 (.func (.func 80) #[.pointer (some ⟨M,0,none⟩)] #[]) (by rfl);have m5:=af M5;have b5:=af (b4.on g5 (by simp));have B5:=af (B4.trans (fK g5 (by omega) (by have:=s4.out;omega)));have s5:=af (s5'.trans s4.out);clear M5 s5' g5;have z5:=b5.cell 0;simp at z5;obtain⟨w6,u6,g6,s6',M6⟩:=m5.put Tryz.underlying117 dp 6 (.func (.func 81) #[.pointer (some ⟨M,0,none⟩)] #[]) (by rfl);have m6:=af M6;have b6:=af (b5.on g6 (by simp));have B6:=af (B5.trans (fK g6 (by omega) (by have:=s5.out;omega)));have s6:=af (s6'.trans s5.out);clear M6 s6' g6;have z6:=b6.cell 0;simp at z6;obtain⟨w7,u7,g7,s7',M7⟩:=m6.put Tryz.underlying117 dp 7 (.func (.func 82) #[.pointer (some ⟨M,0,none⟩)] #[]) (by rfl);have m7:=af M7;have b7:=af (b6.on g7 (by simp));have B7:=af (B6.trans (fK g7 (by omega) (by have:=s6.out;omega)));have s7:=af (s7'.trans s6.out);clear M7 s7' g7;obtain⟨w8,u8,g8,s8',M8⟩:=m7.put Tryz.underlying117 dp 8 (.func (.func 83) #[] #[.pointer (some ⟨w.heap.size,0,none⟩)]) (by rfl);have m8:=af M8;have b8:=af (b7.on g8 (by simp));have B8:=af (B7.trans (fK g8 (by omega) (by have:=s7.out;omega)));have s8:=af (s8'.trans s7.out);clear M8 s8' g8;go_enter Tryz.func42,Tryz.ntmps42;go_wp2_with fail
 simp[bodyPost,results,Tryz.results42,go_sem];exact⟨B8.out,s8.out,b8.out,m8.out⟩
end
section
open Go.Shelf
theorem ne92 (o:Option Nat) (w:World):(binOp .neq 92 (.map o) (.map none)).run Tryz.prog w=.ok (.bool o.isSome) w:=by cases o<;>kernel_rfl
theorem iK (X b:Nat) (w:World) (h:w.cell? ⟨X,6,none⟩=some (.map (some b))):Calls Tryz.prog 41 #[.pointer (some ⟨X,0,none⟩)] w fun e w'=>e=.returned (.bool true)∧w'=w:=by
 have hq:=ne92 (some b) w;go_enter Tryz.func41,Tryz.ntmps41;go_wp2_with fail
 simp[bodyPost,results,Tryz.results41,go_sem]
end
section
open Go.Shelf
structure F9 (s X:Nat) (al:Int) (cx:Value) (pa:Option Addr) (ln pc:Nat) (ty ho fi:Int) (w w9:World):Prop where
 below:Below s w w9
 size:w9.heap.size=s+5
 out:Bx w9 s #[.int .u8 0,.int .u32 0,.int .u8 0,.int .i64 0,.int .i64 0,.slice none 0 0] 56
 sig:Bx w9 (s+1) #[.slice pa ln pc,.int .u8 ty,.int .i64 ho,.int .i64 fi] 114
 box:Bx w9 (s+2) #[.pointer (some ⟨X,0,none⟩),.int .i64 al,cx,.int .u8 0,.int .u32 0,.int .u8 0,.int .i64 0,.int .i64 0,.slice none 0 0,.int .i64 0,.map (some (s+4))] 119
 kc:Bx w9 (s+3) #[.pointer (some ⟨s+2,0,none⟩)] 116
 kinds:nh w9 (s+4) (sr (s+2) (s+3))
theorem F9.make {s X:Nat} {al:Int} {cx:Value} {pa:Option Addr} {ln pc:Nat} {ty ho fi:Int} {w w3 w4:World} (hs:s=w.heap.size)
  (h3:w3=((w.alloc (.cells #[.int .u8 0,.int .u32 0,.int .u8 0,.int .i64 0,.int .i64 0,.slice none 0 0] 56)).alloc (.cells #[.slice pa ln pc,.int .u8 ty,.int .i64 ho,.int .i64 fi] 114)).alloc (.cells #[.pointer (some ⟨X,0,none⟩),.int .i64 al,cx,.int .u8 0,.int .u32 0,.int .u8 0,.int .i64 0,.int .i64 0,.slice none 0 0,.int .i64 0,.map none] 119))
  (hb:Below w3.heap.size w3 w4) (h4:w4.heap.size=w3.heap.size+2) (hc:Bx w4 w3.heap.size #[.pointer (some ⟨s+2,0,none⟩)] 116) (hk:nh w4 (w3.heap.size+1) (sr (s+2) w3.heap.size)):
  F9 s X al cx pa ln pc ty ho fi w (w4.setCell ⟨s+2,10,none⟩ (.map (some (s+4)))):=by
 subst hs;have e3:w3.heap.size=w.heap.size+3:=by rw[h3];simp
 have b0:Bx w3 w.heap.size #[.int .u8 0,.int .u32 0,.int .u8 0,.int .i64 0,.int .i64 0,.slice none 0 0] 56:=by rw[h3];exact((Bx.new w _ 56).al _).al _
 have b1:Bx w3 (w.heap.size+1) #[.slice pa ln pc,.int .u8 ty,.int .i64 ho,.int .i64 fi] 114:=by rw[h3];simpa using(Bx.new (w.alloc (.cells #[.int .u8 0,.int .u32 0,.int .u8 0,.int .i64 0,.int .i64 0,.slice none 0 0] 56)) #[.slice pa ln pc,.int .u8 ty,.int .i64 ho,.int .i64 fi] 114).al _
 have b2:Bx w3 (w.heap.size+2) #[.pointer (some ⟨X,0,none⟩),.int .i64 al,cx,.int .u8 0,.int .u32 0,.int .u8 0,.int .i64 0,.int .i64 0,.slice none 0 0,.int .i64 0,.map none] 119:=by rw[h3];simpa using Bx.new ((w.alloc (.cells #[.int .u8 0,.int .u32 0,.int .u8 0,.int .i64 0,.int .i64 0,.slice none 0 0] 56)).alloc (.cells #[.slice pa ln pc,.int .u8 ty,.int .i64 ho,.int .i64 fi] 114)) #[.pointer (some ⟨X,0,none⟩),.int .i64 al,cx,.int .u8 0,.int .u32 0,.int .u8 0,.int .i64 0,.int .i64 0,.slice none 0 0,.int .i64 0,.map none] 119
 have B3:Below w.heap.size w w3:=by rw[h3];(repeat(first|exact Below.refl _ _|refine Below.drew ?_ |refine Below.alloc ?_ (by simp<;>omega) _))
 have c0:=b0.on (ah hb) (by simp);have c1:=b1.on (ah hb) (by simp);have c2:=b2.on (ah hb) (by simp);have hg:=aj w4 ⟨w.heap.size+2,10,none⟩ (.map (some (w.heap.size+4)));have e3b:w3.heap.size+1=w.heap.size+4:=by omega
 rw[e3b,e3] at hk;rw[e3] at hc;exact⟨B3.trans (hb.mono (by omega)) |>.grown hg (by have:=hb.size;omega) (fun k e=>by cases e;show w.heap.size≤w.heap.size+2;omega),by simp[World.setCell];omega,c0.on hg (by simp),c1.on hg (by simp),by simpa using c2.set 10 (.map (some (w.heap.size+4))),hc.on hg (by simp),
  by obtain⟨es,c,q1,q2⟩:=hk;exact⟨es,c,(hg.block _ (lt_of_block q1) (by simp)).trans q1,q2⟩⟩
theorem yL (X b cb:Nat) (s:ByteArray) (pa:Option Addr) (ln pc:Nat) (ty ho fi:Int) (aa:Option Addr) (ac:Nat) (al:Int) (ca:Option Addr) (cl cc:Nat) (w:World) (R P:Ending→World→Prop) (hX:X<w.heap.size) (h:w.cell? ⟨X,6,none⟩=some (.map (some b))) (h4:w.cell? ⟨X,4,none⟩=some (.map (some cb))) (hh:ho<0) (h0:0≤al) (h1:al≤65536)
  (hl:(Instr.lookup 89 (.map (some cb)) (.string s) true).run Tryz.prog (w.alloc (.cells #[.int .u8 0,.int .u32 0,.int .u8 0,.int .i64 0,.int .i64 0,.slice none 0 0] 56))=.ok (.tuple #[.agg #[.slice pa ln pc,.int .u8 ty,.int .i64 ho,.int .i64 fi],.bool true]) (w.alloc (.cells #[.int .u8 0,.int .u32 0,.int .u8 0,.int .i64 0,.int .i64 0,.slice none 0 0] 56)))
  (hR:Hid (∀w9,F9 w.heap.size X al (.slice ca cl cc) pa ln pc ty ho fi w w9→Calls Tryz.prog 43 #[.pointer (some ⟨w.heap.size+2,0,none⟩),.agg #[.slice pa ln pc,.int .u8 ty,.int .i64 ho,.int .i64 fi],.slice aa ln ac] w9 R))
  (hP:Hid (∀e w',R e w'→e=.returned (.tuple #[])∧∃a0 a1 a2 a9 a10 en v fa st rp ea el ec,Bx w' (w.heap.size+2) #[a0,a1,a2,.int .u8 en,.int .u32 v,.int .u8 fa,.int .i64 st,.int .i64 rp,.slice ea el ec,a9,a10] 119∧Bx w' w.heap.size #[.int .u8 0,.int .u32 0,.int .u8 0,.int .i64 0,.int .i64 0,.slice none 0 0] 56∧
   ∀w'',w'.grownBy w'' (some w.heap.size)→P (.returned (.tuple #[.agg #[.int .u8 en,.int .u32 v,.int .u8 fa,.int .i64 st,.int .i64 rp,.slice ea el ec],.int .i64 0])) w'')):
  Calls Tryz.prog 17 #[.pointer (some ⟨X,0,none⟩),.string s,.slice aa ln ac,.int .i64 al,.slice ca cl cc] w P:=by
 have h2:(w.alloc (.cells #[.int .u8 0,.int .u32 0,.int .u8 0,.int .i64 0,.int .i64 0,.slice none 0 0] 56)).cell? ⟨X,6,none⟩=some (.map (some b)):=by
  rw[World.cell?_alloc_past _ _ _ (by simpa using hX)];exact h
 have h3:(w.alloc (.cells #[.int .u8 0,.int .u32 0,.int .u8 0,.int .i64 0,.int .i64 0,.slice none 0 0] 56)).cell? ⟨X,4,none⟩=some (.map (some cb)):=by
  rw[World.cell?_alloc_past _ _ _ (by simpa using hX)];exact h4
 have c:=af (iK X b _ h2);have d1:¬al<0:=by omega
 have d2:¬65536<al:=by omega
 have d3:¬0≤ho:=by omega
 obtain⟨w3,hw3⟩:∃x,x=((w.alloc (.cells #[.int .u8 0,.int .u32 0,.int .u8 0,.int .i64 0,.int .i64 0,.slice none 0 0] 56)).alloc (.cells #[.slice pa ln pc,.int .u8 ty,.int .i64 ho,.int .i64 fi] 114)).alloc (.cells #[.pointer (some ⟨X,0,none⟩),.int .i64 al,.slice ca cl cc,.int .u8 0,.int .u32 0,.int .u8 0,.int .i64 0,.int .i64 0,.slice none 0 0,.int .i64 0,.map none] 119):=⟨_,rfl⟩;have HW:=af hw3;have ct:=af (Nu (w.heap.size+2) w3);have e3:=af (show w3.heap.size=w.heap.size+3 by rw[hw3];simp);have bM3:=af (show Bx w3 (w.heap.size+2) #[.pointer (some ⟨X,0,none⟩),.int .i64 al,.slice ca cl cc,.int .u8 0,.int .u32 0,.int .u8 0,.int .i64 0,.int .i64 0,.slice none 0 0,.int .i64 0,.map none] 119 by rw[hw3];simpa using Bx.new ((w.alloc (.cells #[.int .u8 0,.int .u32 0,.int .u8 0,.int .i64 0,.int .i64 0,.slice none 0 0] 56)).alloc (.cells #[.slice pa ln pc,.int .u8 ty,.int .i64 ho,.int .i64 fi] 114)) #[.pointer (some ⟨X,0,none⟩),.int .i64 al,.slice ca cl cc,.int .u8 0,.int .u32 0,.int .u8 0,.int .i64 0,.int .i64 0,.slice none 0 0,.int .i64 0,.map none] 119);clear hh h h2 hX h0 h1 h4;go_enter Tryz.func17,Tryz.ntmps17;go_wp2_with fail
 refine c.mono ?_;rintro e w2 ⟨rfl,rfl⟩;go_wp2_with fail
 rw[←hw3];refine ct.mono ?_;rintro e w4 ⟨rfl,hb4,zZ,oG,hk4⟩;have F:=af (F9.make (s:=w.heap.size) (X:=X) (al:=al) (cx:=.slice ca cl cc) rfl HW.out hb4 zZ oG hk4);have M4:=bM3.on (ah hb4) (by simp);have f10:=M4.free 10;have YQ:=M4.cell 10;simp at YQ;have e4:w3.heap.size+1=w.heap.size+4:=by have:=e3.out;omega
 rw[e4];have cr:=af (hR.out _ F.out);have q0:=F.sig.cell 0;have q1:=F.sig.cell 1;have q2:=F.sig.cell 2;have q3:=F.sig.cell 3;simp at q0 q1 q2 q3;clear hb4 zZ oG hk4 M4 ct hw3;go_wp2_with fail
 refine cr.mono ?_;intro e w6 hr;obtain⟨rfl,a0,a1,a2,a9,a10,en,v,fa,st,rp,ea,el,ec,hM,hO,iO⟩:=hP.out e w6 hr;have HF:=af iO;have p3:=hM.cell 3;have p4:=hM.cell 4;have p5:=hM.cell 5;have p6:=hM.cell 6;have p7:=hM.cell 7;have p8:=hM.cell 8;simp at p3 p4 p5 p6 p7 p8;have f0:=hO.free 0;have f1:=hO.free 1;have f2:=hO.free 2;have f3:=hO.free 3;have f4:=hO.free 4;have f5:=hO.free 5;have y0:=hO.cell 0;have y1:=hO.cell 1;have y2:=hO.cell 2;have y3:=hO.cell 3;have y4:=hO.cell 4;have y5:=hO.cell 5;simp at y0 y1 y2 y3 y4 y5;have HO:=af hO;clear hM hO iO hr cr q0 q1 q2 q3 f10 YQ;go_wp2_with fail
 have lA:=((((((HO.set 0 (.int .u8 en)).set 1 (.int .u32 v)).set 2 (.int .u8 fa)).set 3 (.int .i64 st)).set 4 (.int .i64 rp)).set 5 (.slice ea el ec));simp at lA;refine bodyPost_ret (v:=.tuple #[.agg #[.int .u8 en,.int .u32 v,.int .u8 fa,.int .i64 st,.int .i64 rp,.slice ea el ec],.int .i64 0]) ?_ rfl ?_
 ·rw[results_cell_tmp rfl];have nN:=run_loadVar_row (P:=Tryz.prog) _ w.heap.size 56 56 _ (0,0) _ lA Tryz.underlying56 rfl (by kernel_rfl);simp[asAddr,Result.andThen,nN]
 ·refine HF.out _ ?_;have h9:=(((((Below.refl 0 w6).setCell (p:=⟨w.heap.size,0,none⟩) (Nat.zero_le _) (.int .u8 en)).setCell (p:=⟨w.heap.size,1,none⟩) (Nat.zero_le _) (.int .u32 v)).setCell (p:=⟨w.heap.size,2,none⟩) (Nat.zero_le _) (.int .u8 fa)).setCell (p:=⟨w.heap.size,3,none⟩) (Nat.zero_le _) (.int .i64 st)).setCell (p:=⟨w.heap.size,4,none⟩) (Nat.zero_le _) (.int .i64 rp) |>.setCell (p:=⟨w.heap.size,5,none⟩) (Nat.zero_le _) (.slice ea el ec);exact⟨h9.os,h9.tape,h9.output,h9.size,fun k hk hn=>by
   have hq:k≠w.heap.size:=fun e=>hn (by rw[e])
   rw[Below.heap_setCell _ ⟨w.heap.size,5,none⟩ _ k hq,Below.heap_setCell _ ⟨w.heap.size,4,none⟩ _ k hq,Below.heap_setCell _ ⟨w.heap.size,3,none⟩ _ k hq,Below.heap_setCell _ ⟨w.heap.size,2,none⟩ _ k hq,Below.heap_setCell _ ⟨w.heap.size,1,none⟩ _ k hq,Below.heap_setCell _ ⟨w.heap.size,0,none⟩ _ k hq]⟩
end
section
open Go.Shelf
def sQ:Value:=.agg #[.int .u8 0,.int .u32 0,.int .u8 0,.int .i64 0,.int .i64 0,.slice none 0 0]
end
section
open Go.Shelf
theorem tY (X b cb:Nat) (s:ByteArray) (z args:Value) (al:Int) (cx:Value) (w:World) (hX:X<w.heap.size) (h:w.cell? ⟨X,6,none⟩=some (.map (some b))) (h4:w.cell? ⟨X,4,none⟩=some (.map (some cb))) (h0:0≤al) (h1:al≤65536)
  (hl:(Instr.lookup 89 (.map (some cb)) (.string s) true).run Tryz.prog (w.alloc (.cells #[.int .u8 0,.int .u32 0,.int .u8 0,.int .i64 0,.int .i64 0,.slice none 0 0] 56))=.ok (.tuple #[.agg #[.slice none 0 0,.int .u8 0,.int .i64 0,.int .i64 0],.bool false]) (w.alloc (.cells #[.int .u8 0,.int .u32 0,.int .u8 0,.int .i64 0,.int .i64 0,.slice none 0 0] 56))):
  Calls Tryz.prog 17 #[.pointer (some ⟨X,0,none⟩),.string s,args,.int .i64 al,cx] w fun e w'=>e=.returned (.tuple #[sQ,.int .i64 291])∧Below w.heap.size w w':=by
 have h2:(w.alloc (.cells #[.int .u8 0,.int .u32 0,.int .u8 0,.int .i64 0,.int .i64 0,.slice none 0 0] 56)).cell? ⟨X,6,none⟩=some (.map (some b)):=by
  rw[World.cell?_alloc_past _ _ _ (by simpa using hX)];exact h
 have h3:(w.alloc (.cells #[.int .u8 0,.int .u32 0,.int .u8 0,.int .i64 0,.int .i64 0,.slice none 0 0] 56)).cell? ⟨X,4,none⟩=some (.map (some cb)):=by
  rw[World.cell?_alloc_past _ _ _ (by simpa using hX)];exact h4
 have c:=af (iK X b _ h2);have d1:¬al<0:=by omega
 have d2:¬65536<al:=by omega
 clear h h2 hX h0 h1 h4;go_enter Tryz.func17,Tryz.ntmps17;go_wp2_with fail
 refine c.mono ?_;rintro e w2 ⟨rfl,rfl⟩;go_wp2_with fail
 simp[bodyPost,results,Tryz.results17,go_sem,sQ]
 all_goals (repeat(first|exact Below.refl _ _|refine Below.drew ?_ |refine Below.alloc ?_ (by simp<;>omega) _))
end
section
open Go.Shelf
theorem yM (X b cb:Nat) (s:ByteArray) (pa:Option Addr) (ln pc:Nat) (ty ho fi:Int) (args:Value) (al:Int) (cx:Value) (w:World) (hX:X<w.heap.size) (h:w.cell? ⟨X,6,none⟩=some (.map (some b))) (h4:w.cell? ⟨X,4,none⟩=some (.map (some cb))) (hh:0≤ho) (h0:0≤al) (h1:al≤65536)
  (hl:(Instr.lookup 89 (.map (some cb)) (.string s) true).run Tryz.prog (w.alloc (.cells #[.int .u8 0,.int .u32 0,.int .u8 0,.int .i64 0,.int .i64 0,.slice none 0 0] 56))=.ok (.tuple #[.agg #[.slice pa ln pc,.int .u8 ty,.int .i64 ho,.int .i64 fi],.bool true]) (w.alloc (.cells #[.int .u8 0,.int .u32 0,.int .u8 0,.int .i64 0,.int .i64 0,.slice none 0 0] 56))):
  Calls Tryz.prog 17 #[.pointer (some ⟨X,0,none⟩),.string s,args,.int .i64 al,cx] w fun e w'=>e=.returned (.tuple #[sQ,.int .i64 291])∧Below w.heap.size w w':=by
 have h2:(w.alloc (.cells #[.int .u8 0,.int .u32 0,.int .u8 0,.int .i64 0,.int .i64 0,.slice none 0 0] 56)).cell? ⟨X,6,none⟩=some (.map (some b)):=by
  rw[World.cell?_alloc_past _ _ _ (by simpa using hX)];exact h
 have h3:(w.alloc (.cells #[.int .u8 0,.int .u32 0,.int .u8 0,.int .i64 0,.int .i64 0,.slice none 0 0] 56)).cell? ⟨X,4,none⟩=some (.map (some cb)):=by
  rw[World.cell?_alloc_past _ _ _ (by simpa using hX)];exact h4
 have c:=af (iK X b _ h2);have d1:¬al<0:=by omega
 have d2:¬65536<al:=by omega
 clear h h2 hX h0 h1 h4;go_enter Tryz.func17,Tryz.ntmps17;go_wp2_with fail
 refine c.mono ?_;rintro e w2 ⟨rfl,rfl⟩;go_wp2_with fail
 simp[bodyPost,results,Tryz.results17,go_sem,sQ]
 all_goals (repeat(first|exact Below.refl _ _|refine Below.drew ?_ |refine Below.alloc ?_ (by simp<;>omega) _))
theorem wF (X b cb:Nat) (s:ByteArray) (pa:Option Addr) (ln pc:Nat) (ty ho fi:Int) (aa:Option Addr) (la lc:Nat) (al:Int) (cx:Value) (w:World) (hX:X<w.heap.size) (h:w.cell? ⟨X,6,none⟩=some (.map (some b))) (h4:w.cell? ⟨X,4,none⟩=some (.map (some cb))) (hh:ho<0) (hne:ln≠la) (h0:0≤al) (h1:al≤65536)
  (hl:(Instr.lookup 89 (.map (some cb)) (.string s) true).run Tryz.prog (w.alloc (.cells #[.int .u8 0,.int .u32 0,.int .u8 0,.int .i64 0,.int .i64 0,.slice none 0 0] 56))=.ok (.tuple #[.agg #[.slice pa ln pc,.int .u8 ty,.int .i64 ho,.int .i64 fi],.bool true]) (w.alloc (.cells #[.int .u8 0,.int .u32 0,.int .u8 0,.int .i64 0,.int .i64 0,.slice none 0 0] 56))):
  Calls Tryz.prog 17 #[.pointer (some ⟨X,0,none⟩),.string s,.slice aa la lc,.int .i64 al,cx] w fun e w'=>e=.returned (.tuple #[sQ,.int .i64 293])∧Below w.heap.size w w':=by
 have h2:(w.alloc (.cells #[.int .u8 0,.int .u32 0,.int .u8 0,.int .i64 0,.int .i64 0,.slice none 0 0] 56)).cell? ⟨X,6,none⟩=some (.map (some b)):=by
  rw[World.cell?_alloc_past _ _ _ (by simpa using hX)];exact h
 have h3:(w.alloc (.cells #[.int .u8 0,.int .u32 0,.int .u8 0,.int .i64 0,.int .i64 0,.slice none 0 0] 56)).cell? ⟨X,4,none⟩=some (.map (some cb)):=by
  rw[World.cell?_alloc_past _ _ _ (by simpa using hX)];exact h4
 have c:=af (iK X b _ h2);have d1:¬al<0:=by omega
 have d2:¬65536<al:=by omega
 have d3:¬0≤ho:=by omega
 have d4:((ln:Int)==(la:Int))=false:=by simp;omega
 have d5:¬((ln:Int)=(la:Int)):=by omega
 clear hh h h2 hX h0 h1 h4;go_enter Tryz.func17,Tryz.ntmps17;go_wp2_with fail
 refine c.mono ?_;rintro e w2 ⟨rfl,rfl⟩;go_wp2_with fail
 simp[bodyPost,results,Tryz.results17,go_sem,sQ]
 all_goals (repeat(first|exact Below.refl _ _|refine Below.drew ?_ |refine Below.alloc ?_ (by simp<;>omega) _))
end
end Go.Proofs.YtlabadkfkbenoaaGreatDoor
