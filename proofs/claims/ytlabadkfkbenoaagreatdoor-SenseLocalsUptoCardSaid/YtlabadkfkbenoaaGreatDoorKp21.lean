/- Walks and plain laws, merged: LocM LocR CalQ EvlM EvlN AppA CalV LocQ Frame ArgA. No condition. -/
import Derived.Test.YtlabadkfkbenoaaGreatDoorKp04
import Derived.Test.YtlabadkfkbenoaaGreatDoorKp06
import Derived.Test.YtlabadkfkbenoaaGreatDoorKp10
import Derived.Test.YtlabadkfkbenoaaGreatDoorKp20
import Derived.Test.YtlabadkfkbenoaaGreatDoorKp12
import Derived.Test.YtlabadkfkbenoaaGreatDoorKp08
import Derived.Test.YtlabadkfkbenoaaGreatDoorKp09
import Derived.Test.YtlabadkfkbenoaaGreatDoorKp14
import Derived.Test.YtlabadkfkbenoaaGreatDoorRows
import Derived.ProofKit
import Derived.OpenShut
import Derived.ShutString
import Derived.ChangeOld
import Derived.JoinedCond
import Derived.SizedLaws
import Derived.Test.YtlabadkfkbenoaaGreatDoorKp01
namespace Go.Proofs.YtlabadkfkbenoaaGreatDoor
open Go.RowKit
set_option linter.unusedVariables false
set_option linter.unusedSimpArgs false
set_option maxRecDepth 100000
set_option maxHeartbeats 64000000
section
open Go.Shelf
abbrev jP (g:Nat):Array Value:=#[.slice (some ⟨g,0,none⟩) 1 1,.slice none 0 0,.slice none 0 0]
abbrev tZ (nm:ByteArray):Array Value:=#[.int .i64 0,.string nm,.int .u8 1,.int .u32 0,.int .u32 0]
theorem NN (nm:ByteArray) (g:Nat) (w:World) (h:Bx w g (tZ nm) 105):
  Calls Tryz.prog 49 #[.agg (jP g)] w fun e w'=>e=.returned (.int .i64 0)∧Below w.heap.size w w':=by
 have H:=af h;clear h;have cG:=af (gA.new (Below.refl w.heap.size w) (jP g) 26);have mone:∀a c,(Value.slice a 1 c)=.slice a 1 c:=fun _ _=>rfl
 clear mone;go_enter Tryz.func49,Tryz.ntmps49;go_wp2_with fail
 go_loopw [3,4,5] (fun l ws i wr=>((i=.int .i64 0∧l=.slice none 0 0∧ws=.int .u64 0)∨(i=.int .i64 1∧∃a c,l=.slice a 1 c∧ws=.int .u64 1))∧gA w w.heap.size (jP g) 26 wr) (fun _ _ i _=>1- (intOf i).toNat)
 case atStart=>exact⟨.inl ⟨rfl,rfl,rfl⟩,cG.out⟩
 case round=>
  clear cG;obtain⟨wG,hX⟩:=hrel;have aB:=af hX;have p0:=aB.box.cell 0;have p1:=aB.box.cell 1;have p2:=aB.box.cell 2;simp at p0 p1 p2;clear hX;rcases wG with⟨rfl,rfl,rfl⟩|⟨rfl,a,c,rfl,rfl⟩
  ·have x1:=(H.on (ah aB.below) (by simp)).cell 1;have x3:=(H.on (ah aB.below) (by simp)).cell 3;simp at x1 x3;go_wp2_with (at_builtin;go_must (refine aG rfl _ _ 174 rfl wr.heap.size 9 9 (.string ⟨#[]⟩) 1 16 1 Tryz.underlying174 (by kernel_rfl) rfl (by decide) _ 0 [] [_] (0,0) (World.ownsRow_nil _ _ _ _) rfl (by simp[Value.oneCell']) (by unfold maxLen;omega) (by omega) (by simp) rfl rfl ?_);intro v' w' hA;obtain⟨na,nc,rfl,-⟩:=aP hA.own;have dS:Below wr.heap.size wr w':=(Below.refl wr.heap.size wr).grown hA.grown (Nat.le_refl _) (fun q e=>by cases e);have aL:=af (aB.on dS);have z3:=ag x3 dS;have r0:=aL.box.cell 0;simp at r0;clear hA dS x1 x3 p0)
   go_roundw
   case rel=>exact⟨.inr ⟨rfl,_,_,rfl,rfl⟩,aL.out⟩
   case measure=>simp[intOf]
  ·go_wp2_with fail
   clear p0 p1 p2
   go_loopw [3,6] (fun l i wr=>l=.slice a 1 c∧i=.int .i64 0∧gA w w.heap.size (jP g) 26 wr) (fun _ i _=>1- (intOf i).toNat)
   case atStart=>exact⟨rfl,rfl,aB.out⟩
   case round=>
    clear aB;obtain⟨rfl,rfl,hX⟩:=hrel;have aB:=af hX;have p1:=aB.box.cell 1;simp at p1;clear hX;go_wp2_with fail
    clear p1
    go_loopw [3,7] (fun l i wr=>l=.slice a 1 c∧i=.int .i64 0∧gA w w.heap.size (jP g) 26 wr) (fun _ i _=>1- (intOf i).toNat)
    case atStart=>exact⟨rfl,rfl,aB.out⟩
    case round=>
     clear aB;obtain⟨rfl,rfl,hX⟩:=hrel;have aB:=af hX;have p2:=aB.box.cell 2;simp at p2;clear hX;go_wp2_with fail
     clear p2
     go_loopw [8] (fun i wr=>(i=.int .i64 0∨i=.int .i64 1)∧gA w w.heap.size (jP g) 26 wr) (fun i _=>1- (intOf i).toNat)
     case atStart=>exact⟨.inl rfl,aB.out⟩
     case round=>
      clear aB;obtain⟨wG,hX⟩:=hrel;have aB:=af hX;clear hX;rcases wG with rfl|rfl
      ·go_wp2_with fail
       go_loopw [9] (fun i wr=>i=.int .i64 0∧gA w w.heap.size (jP g) 26 wr) (fun i _=>1- (intOf i).toNat)
       case atStart=>exact⟨rfl,aB.out⟩
       case round=>
        clear aB;obtain⟨rfl,hX⟩:=hrel;have aB:=af hX;clear hX;go_wp2_with fail
        exact⟨⟨.inr rfl,aB.out⟩,by simp[intOf]⟩
      ·have p0:=aB.box.cell 0;have p2:=aB.box.cell 2;simp at p0 p2;go_wp2_with fail
       go_ret;exact⟨rfl,aB.below⟩
theorem NP (g:Nat) (w:World):Calls Tryz.prog 95 #[.agg (jP g)] w fun e w'=>e=.returned (.int .i64 0)∧Below w.heap.size w w':=by
 have cG:=af (gA.new (Below.refl w.heap.size w) (jP g) 26);go_enter Tryz.func95,Tryz.ntmps95;go_wp2_with fail
 go_loopw [3,4] (fun z i wr=>z=.int .i64 0∧i=.int .i64 0∧gA w w.heap.size (jP g) 26 wr) (fun _ i _=>1- (intOf i).toNat)
 case atStart=>exact⟨rfl,rfl,cG.out⟩
 case round=>
  clear cG;obtain⟨rfl,rfl,hX⟩:=hrel;have aB:=af hX;have p2:=aB.box.cell 2;simp at p2;clear hX;go_wp2_with fail
  go_ret;exact⟨rfl,aB.below⟩
theorem NQ (nm:ByteArray) (g:Nat) (w:World) (hn:nm.size≤1048576) (h:Bx w g (tZ nm) 105):
  Calls Tryz.prog 48 #[.agg (jP g)] w fun e w'=>∃c:Int,e=.returned (.int .i64 c)∧(c=0→aS nm=true)∧Below w.heap.size w w':=by
 have H:=af h;have HN:=af hn;clear h hn;have cG:=af (gA.new (Below.refl w.heap.size w) (jP g) 26);go_enter Tryz.func48,Tryz.ntmps48;go_wp2_with fail
 go_loopw [2,3] (fun z i wr=>z=.int .i64 0∧(i=.int .i64 0∨(i=.int .i64 1∧Hid (aS nm=true)))∧gA w w.heap.size (jP g) 26 wr) (fun _ i _=>1- (intOf i).toNat)
 case atStart=>exact⟨rfl,.inl rfl,cG.out⟩
 case round=>
  clear cG;obtain⟨rfl,wG,hX⟩:=hrel;have aB:=af hX;have p0:=aB.box.cell 0;simp at p0;clear hX;rcases wG with rfl|⟨rfl,wO⟩
  ·have b0:=H.on (ah aB.below) (by simp);have x0:=b0.cell 0;have x1:=b0.cell 1;have x2:=b0.cell 2;have x3:=b0.cell 3;have x4:=b0.cell 4;simp at x0 x1 x2 x3 x4;have hY:=af (gA.new aB.below (tZ nm) 105);have Co:=af (aB.on ((Below.refl wr.heap.size wr).alloc (Nat.le_refl _) (.cells (tZ nm) 105)));have hcc:=af (PD nm (wr.alloc (.cells (tZ nm) 105)) HN.out);clear b0;go_wp2_with fail
   refine hcc.mono ?_;rintro e w2 ⟨rfl,hb2⟩;have aL:=af (Co.on hb2);have oF:=af (hY.on hb2);clear hb2 hcc Co hY p0 x0 x1 x2 x3 x4;have q2:=oF.box.cell 2;have q3:=oF.box.cell 3;have q4:=oF.box.cell 4;simp at q2 q3 q4;cases h1:aS nm
   ·go_wp2_with fail
    go_ret;exact⟨284,rfl,fun c=>absurd c (by decide),aL.below⟩
   have hcc:=af (DO 1 w2);have htb:fh 1=true:=rfl;rw[htb] at hcc;have H1:=af h1;clear h1 htb;go_wp2_with fail
   refine hcc.mono ?_;rintro e w3 ⟨rfl,hw⟩;subst w3;clear hcc;go_wp2_with fail
   exact⟨⟨rfl,.inr ⟨rfl,H1⟩,aL.out⟩,by simp[intOf]⟩
  ·have HOK:=af wO.out;clear wO;go_wp2_with fail
   clear p0
   go_loopw [2,5] (fun z i wr=>z=.int .i64 0∧i=.int .i64 0∧gA w w.heap.size (jP g) 26 wr) (fun _ i _=>1- (intOf i).toNat)
   case atStart=>exact⟨rfl,rfl,aB.out⟩
   case round=>
    clear aB;obtain⟨rfl,rfl,hX⟩:=hrel;have aB:=af hX;have p1:=aB.box.cell 1;simp at p1;clear hX;go_wp2_with fail
    clear p1
    go_loopw [2,7] (fun z i wr=>z=.int .i64 0∧i=.int .i64 0∧gA w w.heap.size (jP g) 26 wr) (fun _ i _=>1- (intOf i).toNat)
    case atStart=>exact⟨rfl,rfl,aB.out⟩
    case round=>
     clear aB;obtain⟨rfl,rfl,hX⟩:=hrel;have aB:=af hX;have p2:=aB.box.cell 2;simp at p2;clear hX;go_wp2_with fail
     clear p2
     go_loopw [2,9] (fun z i wr=>z=.int .i64 0∧i=.int .i64 0∧gA w w.heap.size (jP g) 26 wr) (fun _ i _=>1- (intOf i).toNat)
     case atStart=>exact⟨rfl,rfl,aB.out⟩
     case round=>
      clear aB;obtain⟨rfl,rfl,hX⟩:=hrel;have aB:=af hX;have p0:=aB.box.cell 0;have p1:=aB.box.cell 1;have p2:=aB.box.cell 2;simp at p0 p1 p2;have cp:=af (NP g wr);clear hX;go_wp2_with fail
      refine cp.mono ?_;rintro e w2 ⟨rfl,hb2⟩;have aL:=af (aB.on hb2);clear hb2 cp p0 p1 p2;go_wp2_with fail
      go_ret;exact⟨0,rfl,fun _=>HOK.out,aL.below⟩
theorem NR (nm:ByteArray) (g:Nat) (w:World) (hn:nm.size≤1048576) (h:Bx w g (tZ nm) 105):
  Calls Tryz.prog 24 #[.agg (jP g)] w fun e w'=>∃c a b:Int,e=.returned (.agg #[.int .i64 c,.int .i64 a,.int .i64 b])∧(c=0→aS nm=true)∧Below w.heap.size w w':=by
 have H:=af h;clear h;obtain⟨W1,hW1⟩:∃x:World,x=(w.alloc (.cells (jP g) 26)).alloc (.cells #[.int .i64 0,.int .i64 0,.int .i64 0] 34):=⟨_,rfl⟩;have b1:=af (show Bx W1 w.heap.size (jP g) 26 by rw[hW1];exact(Bx.new w _ 26).al _);have b2:=af (show Bx W1 (w.heap.size+1) #[.int .i64 0,.int .i64 0,.int .i64 0] 34 by rw[hW1];simpa using Bx.new (w.alloc (.cells (jP g) 26)) #[.int .i64 0,.int .i64 0,.int .i64 0] 34);have hB:=af (show Below w.heap.size w W1 by rw[hW1];(repeat(first|exact Below.refl _ _|refine Below.drew ?_ |refine Below.alloc ?_ (by simp<;>omega) _)));have G1:=af (H.on (ah hB.out) (by simp));have cc:=af (NQ nm g W1 hn G1.out);have p0:=b1.cell 0;have p1:=b1.cell 1;have p2:=b1.cell 2;simp at p0 p1 p2;clear hn;go_enter Tryz.func24,Tryz.ntmps24;go_wp2_with fail
 rw[←hW1];clear hW1;refine cc.mono ?_;rintro e w2 ⟨cu,rfl,XS,hb2⟩;have Zs:=af XS;clear XS;have B1:=af (b1.on (ah hb2) (by simp));have B2:=af (b2.on (ah hb2) (by simp));have aQ:=af (hB.trans (hb2.mono hB.size));have G2:=af (G1.on (ah hb2) (by simp));clear hb2 cc b1 b2 hB G1 p0 p1 p2;have p0:=B1.cell 0;have p1:=B1.cell 1;have p2:=B1.cell 2;simp at p0 p1 p2;by_cases h0:cu=0
 ·subst h0;have cn:=af (NN nm g w2 G2.out);go_wp2_with fail
  refine cn.mono ?_;rintro e w3 ⟨rfl,hb3⟩;have C1:=af (B1.on (ah hb3) (by simp));have C2:=af (B2.on (ah hb3) (by simp));have gQ:=af (aQ.trans (hb3.mono aQ.size));clear hb3 cn B1 B2 aQ G2 p0 p1 p2;go_wp2_with fail
  go_loopw [4] (fun i wr=>i=.int .i64 0∧wr=w3) (fun i _=>1- (intOf i).toNat)
  case atStart=>exact⟨rfl,rfl⟩
  case round=>
   obtain⟨rfl,rfl⟩:=hrel;have p2:=C1.cell 2;have y0:=C2.cell 0;have y1:=C2.cell 1;have y2:=C2.cell 2;have f0:=C2.free 0;have f1:=C2.free 1;have f2:=C2.free 2;simp at p2 y0 y1 y2;have lA:=af (((C2.set 0 (.int .i64 0)).set 1 (.int .i64 0)).set 2 (.int .i64 0));simp at lA;have nL:=af (((gQ.setCell (p:=⟨w.heap.size+1,0,none⟩) (by simp) (.int .i64 0)).setCell (p:=⟨w.heap.size+1,1,none⟩) (by simp) (.int .i64 0)).setCell (p:=⟨w.heap.size+1,2,none⟩) (by simp) (.int .i64 0));have jx:=C2.lt;go_wp2_with fail
   refine bodyPost_ret (v:=.agg #[.int .i64 0,.int .i64 0,.int .i64 0]) (results_cell_row rfl _ _ (w.heap.size+1) _ _ _ _ rfl lA.out Tryz.underlying34 rfl (by kernel_rfl)) rfl ?_;exact⟨_,_,_,rfl,fun _=>Zs.out trivial,nL.out⟩
 ·have h1:(cu==0)=false:=by simpa using h0
  have h2:(cu !=0)=true:=by simpa using h0
  have y0:=B2.cell 0;have y1:=B2.cell 1;have y2:=B2.cell 2;have f0:=B2.free 0;have f1:=B2.free 1;have f2:=B2.free 2;simp at y0 y1 y2;have lA:=af (((B2.set 0 (.int .i64 cu)).set 1 (.int .i64 (-1))).set 2 (.int .i64 (-1)));simp at lA;have nL:=af (((aQ.setCell (p:=⟨w.heap.size+1,0,none⟩) (by simp) (.int .i64 cu)).setCell (p:=⟨w.heap.size+1,1,none⟩) (by simp) (.int .i64 (-1))).setCell (p:=⟨w.heap.size+1,2,none⟩) (by simp) (.int .i64 (-1)));have jx:=B2.lt;go_wp2_with fail
  refine bodyPost_ret (v:=.agg #[.int .i64 cu,.int .i64 (-1),.int .i64 (-1)]) (results_cell_row rfl _ _ (w.heap.size+1) _ _ _ _ rfl lA.out Tryz.underlying34 rfl (by kernel_rfl)) rfl ?_;exact⟨_,_,_,rfl,Zs.out,nL.out⟩
end
section
open Go.Shelf
def mD (u:UT) (nm:ByteArray) (w:World) (e:Ending) (w':World):Prop:=∃b,e=.returned (.bool b)∧(b=true→sR u nm=true∧aS nm=true)∧Below w.heap.size w w'
theorem mD.no {u:UT} {nm:ByteArray} {w w':World} (hb:Below w.heap.size w w'):mD u nm w (.returned (.bool false)) w':=⟨false,rfl,(fun h=>by cases h),hb⟩
theorem Si (u:UT) (v:Value) (nm:ByteArray) (w:World) (ok:u.Ok) (hn:nm.size≤1048576) (hv:jR w false none u v):Calls Tryz.prog 14 #[v,.string nm] w (mD u nm w):=by
 obtain⟨vg,vh,vf,rfl,hg,hh,hf⟩:=hv;obtain⟨ga,gb,go,gc,rfl,oH,tC⟩:=ei.open hg;obtain⟨ha,Ad,ho,hc,rfl,ig,vD⟩:=ei.open hh;obtain⟨fa,fb,fo,fc,rfl,mL,pN⟩:=ei.open hf;have hG:=af tC;have hH:=af vD;have hF:=af pN;have OK:=af ok;have HN:=af hn;have g1:=ok.g;have g2:=ok.h;have g3:=ok.f;obtain⟨mg,iY⟩:∃m,m=u.gs.length:=⟨_,rfl⟩;obtain⟨mh,j1⟩:∃m,m=u.hs.length:=⟨_,rfl⟩;obtain⟨mf,iw⟩:∃m,m=u.fs.length:=⟨_,rfl⟩;rw[←iY] at oH g1⊢;rw[←j1] at ig g2⊢;rw[←iw] at mL g3⊢;have xJ:=af iY;have xK:=af j1;have pO:=af iw;clear hg hh hf tC vD pN ok iY j1 iw hn;have cG:=af (gA.new (Below.refl w.heap.size w) #[.slice ga mg gc,.slice ha mh hc,.slice fa mf fc] 26);obtain⟨R,hR⟩:∃R:Ending→World→Prop,R=mD u nm w:=⟨_,rfl⟩;rw[←hR];have HR:=af hR;clear hR;go_enter Tryz.func14,Tryz.ntmps14;go_wp2_with fail
 go_loopw [4,5] (fun z i wr=>∃k:Nat,z=.bool false∧k≤mg∧i=.int .i64 k∧u.gs.any (fun g=>g.name==nm)=(u.gs.drop k).any (fun g=>g.name==nm)∧gA w w.heap.size #[.slice ga mg gc,.slice ha mh hc,.slice fa mf fc] 26 wr) (fun _ i _=>mg- (intOf i).toNat)
 case atStart=>exact⟨0,rfl,Nat.zero_le _,rfl,rfl,cG.out⟩
 case round =>
  clear cG;obtain⟨k,rfl,hk,rfl,dU,hX⟩:=hrel;have hA:=af dU;have aB:=af hX;have p0:=aB.box.cell 0;have p1:=aB.box.cell 1;have p2:=aB.box.cell 2;simp at p0 p1 p2;clear dU hX;by_cases hlt:k<mg
  ·have bH:k<u.gs.length:=by have:=xJ.out;omega
   obtain⟨-,y1,-,-,-⟩:=hG.out k bH;have x1:=ag y1 aB.below;have bG:ga=some ⟨gb,go,none⟩:=by rcases oH with q|q;(·omega);(·exact q)
   subst bG;have hat:=af (show(u.gs.drop k).any (fun g=>g.name==nm)=((u.gs[k].name.toList==nm.toList)||(u.gs.drop (k+1)).any (fun g=>g.name==nm)) by rw[List.drop_eq_getElem_cons bH,List.any_cons,yR]);generalize u.gs[k]=a at*;obtain⟨a0,an,a2,a3,a4⟩:=a;simp only[] at x1 hat;clear y1;cases hq:(an.toList==nm.toList) with
   |true=>
    clear p1 p2;go_wp2_with fail
    rw[HR.out];exact mD.no aB.below
   |false=>
    have C8:=af (show u.gs.any (fun g=>g.name==nm)=(u.gs.drop (k+1)).any (fun g=>g.name==nm) by rw[hA.out,hat.out,hq];rfl);clear hat hA p1 p2;go_wp2_with fail
    go_roundw
    case rel=>exact⟨k+1,rfl,by omega,by go_num,C8.out,aB.out⟩
    case measure=>simp[intOf];omega
  ·have hk2 :k=mg:=by omega
   subst k;have C8:=af (show u.gs.any (fun g=>g.name==nm)=false by rw[hA.out,List.drop_of_length_le (by have:=xJ.out;omega)];rfl);clear hA hG oH hlt;have XU:=aB;go_wp2_with fail
   clear p0 p1 p2 aB
   go_loopw [4,6] (fun z i wr=>∃k:Nat,z=.bool false∧k≤mh∧i=.int .i64 k∧u.hs.any (fun g=>g.name==nm)=(u.hs.drop k).any (fun g=>g.name==nm)∧gA w w.heap.size #[.slice ga mg gc,.slice ha mh hc,.slice fa mf fc] 26 wr) (fun _ i _=>mh- (intOf i).toNat)
   case atStart=>exact⟨0,rfl,Nat.zero_le _,rfl,rfl,XU.out⟩
   case round=>
    clear XU;obtain⟨k,rfl,hk,rfl,dU,hX⟩:=hrel;have hA:=af dU;have aB:=af hX;have p0:=aB.box.cell 0;have p1:=aB.box.cell 1;have p2:=aB.box.cell 2;simp at p0 p1 p2;clear dU hX;by_cases hlt:k<mh
    ·have bH:k<u.hs.length:=by have:=xK.out;omega
     obtain⟨-,y1,-,-,-⟩:=hH.out k bH;have x1:=ag y1 aB.below;have bG:ha=some ⟨Ad,ho,none⟩:=by rcases ig with q|q;(·omega);(·exact q)
     subst bG;have hat:=af (show(u.hs.drop k).any (fun g=>g.name==nm)=((u.hs[k].name.toList==nm.toList)||(u.hs.drop (k+1)).any (fun g=>g.name==nm)) by rw[List.drop_eq_getElem_cons bH,List.any_cons,yR]);generalize u.hs[k]=a at*;obtain⟨a0,an,a2,a3,a4⟩:=a;simp only[] at x1 hat;clear y1;cases hq:(an.toList==nm.toList) with
     |true=>
      clear p0 p2;go_wp2_with fail
      rw[HR.out];exact mD.no aB.below
     |false=>
      have RL:=af (show u.hs.any (fun g=>g.name==nm)=(u.hs.drop (k+1)).any (fun g=>g.name==nm) by rw[hA.out,hat.out,hq];rfl);clear hat hA p0 p2;go_wp2_with fail
      go_roundw
      case rel=>exact⟨k+1,rfl,by omega,by go_num,RL.out,aB.out⟩
      case measure=>simp[intOf];omega
    ·have hk2:k=mh:=by omega
     subst k;have RL:=af (show u.hs.any (fun g=>g.name==nm)=false by rw[hA.out,List.drop_of_length_le (by have:=xK.out;omega)];rfl);clear hA hH ig hlt;have XU:=aB;go_wp2_with fail
     clear p0 p1 p2 aB
     go_loopw [4,7] (fun z i wr=>∃k:Nat,z=.bool false∧k≤mf∧i=.int .i64 k∧u.fs.any (fun f=>f.name==nm||(eG nm f.body||f.params.any fun a=>a.1==nm))=(u.fs.drop k).any (fun f=>f.name==nm||(eG nm f.body||f.params.any fun a=>a.1==nm))∧gA w w.heap.size #[.slice ga mg gc,.slice ha mh hc,.slice fa mf fc] 26 wr) (fun _ i _=>mf- (intOf i).toNat)
     case atStart=>exact⟨0,rfl,Nat.zero_le _,rfl,rfl,XU.out⟩
     case round=>
      clear XU;obtain⟨k,rfl,hk,rfl,dU,hX⟩:=hrel;have hA:=af dU;have aB:=af hX;have p0:=aB.box.cell 0;have p1:=aB.box.cell 1;have p2:=aB.box.cell 2;simp at p0 p1 p2;clear dU hX;by_cases hlt:k<mf
      ·have bH:k<u.fs.length:=by have:=pO.out;omega
       obtain⟨⟨t,y0,_⟩,y1,⟨pv,y2,lj⟩,y3,y4,⟨bv,y5,rj⟩⟩:=hF.out k bH;have x0:=ag y0 aB.below;have x1:=ag y1 aB.below;have x2:=ag y2 aB.below;have x3:=ag y3 aB.below;have x4:=ag y4 aB.below;have x5:=ag y5 aB.below;have bG:fa=some ⟨fb,fo,none⟩:=by rcases mL with q|q;(·omega);(·exact q)
       subst bG;have hat:=af (show(u.fs.drop k).any (fun f=>f.name==nm||(eG nm f.body||f.params.any fun a=>a.1==nm))=((u.fs[k].name.toList==nm.toList)||(eG nm u.fs[k].body||u.fs[k].params.any fun a=>a.1==nm)||(u.fs.drop (k+1)).any (fun f=>f.name==nm||(eG nm f.body||f.params.any fun a=>a.1==nm))) by rw[List.drop_eq_getElem_cons bH,List.any_cons,yR]);have hb1:=OK.fb _ (List.getElem_mem bH);have Pj:=OK.fp _ (List.getElem_mem bH);generalize u.fs[k]=a at*;obtain⟨a0,an,ps,a3,a4,bd⟩:=a;simp only[] at x1 x2 x3 x4 x5 hat lj rj hb1 Pj;obtain⟨va,vc,rfl⟩:=lj.ay;obtain⟨ba,bc,rfl⟩:=rj.ay;have Ak:=af lj.plain;have Eb:=af rj;have hBs:=af hb1;obtain⟨np,hnp⟩:∃m,m=ps.length:=⟨_,rfl⟩;rw[←hnp] at Pj x2;have HNP:=af hnp;have hY:=af (gA.new aB.below #[.int .i64 t,.string an,.slice va np vc,.int .u8 a3,.bool a4,.slice ba bd.len bc] 43);have Co:=af (aB.on ((Below.refl wr.heap.size wr).alloc (Nat.le_refl _) (.cells #[.int .i64 t,.string an,.slice va np vc,.int .u8 a3,.bool a4,.slice ba bd.len bc] 43)));clear y0 y1 y2 y3 y4 y5 lj rj hb1 hnp p0 p1;cases hq:(an.toList==nm.toList) with
       |true=>
        go_wp2_with fail
        rw[HR.out];exact mD.no hY.below
       | false=>
        have au:=af (Xu nm (bd.sz+1) bd (.slice ba bd.len bc) (wr.alloc (.cells #[.int .i64 t,.string an,.slice va np vc,.int .u8 a3,.bool a4,.slice ba bd.len bc] 43)) (by omega) (by have:=hBs.out;omega) (Eb.mono hY.below));cases hh:eG nm bd with
        |true=>
         rw[hh] at au;go_wp2_with fail
         refine au.mono ?_;rintro e w2 ⟨rfl,hb2⟩;have aQ:=af (hY.on hb2);clear hb2 au;go_wp2_with fail
         rw[HR.out];exact mD.no aQ.below
        | false=>
         rw[hh] at au;have hE3:=af (show u.fs.any (fun f=>f.name==nm||(eG nm f.body||f.params.any fun a=>a.1==nm))=((ps.any fun a=>a.1==nm)||(u.fs.drop (k+1)).any (fun f=>f.name==nm||(eG nm f.body||f.params.any fun a=>a.1==nm))) by rw[hA.out,hat.out,hq,hh];rfl);clear hat hA;go_wp2_with fail
         refine au.mono ?_;rintro e w2 ⟨rfl,hb2⟩;have oF:=af (hY.on hb2);have aL:=af (Co.on hb2);obtain⟨q,hq9⟩:∃q,q=wr.heap.size:=⟨_,rfl⟩;rw[←hq9] at oF;clear hb2 au hY Co aB x0 x1 x2 x3 x4 x5 p2 hq hh;rw[←hq9];clear hq9;obtain⟨pa,pb,po,pc,hpe,xF,Kn⟩:=Ak.out;cases hpe;have hPI:=af Kn;rw[←HNP.out] at xF;clear Kn;go_wp2_with fail
         go_loopw [4,9] (fun z i wr=>∃i0:Nat,z=.bool false∧i0≤np∧i=.int .i64 i0∧(ps.any fun a=>a.1==nm)=(ps.drop i0).any (fun a=>a.1==nm)∧gA w q #[.int .i64 t,.string an,.slice va np vc,.int .u8 a3,.bool a4,.slice ba bd.len bc] 43 wr∧gA w w.heap.size #[.slice ga mg gc,.slice ha mh hc,.slice (some ⟨fb,fo,none⟩) mf fc] 26 wr) (fun _ i _=>np- (intOf i).toNat)
         case atStart=>exact⟨0,rfl,Nat.zero_le _,rfl,rfl,oF.out,aL.out⟩
         case round=>
          clear oF aL;obtain⟨i0,rfl,hi0,rfl,dU,hY,hX⟩:=hrel;have hA:=af dU;have Og:=af hY;have aB:=af hX;have p2:=Og.box.cell 2;simp at p2;clear dU hX hY;by_cases lQ:i0<np
          ·have Sj:i0<ps.length:=by have:=HNP.out;omega
           have hat:=af (Dk nm ps i0 Sj);obtain⟨y0,y1⟩:=hPI.out i0 Sj;have x0:=ag y0 aB.below;have bG:va=some ⟨pb,po,none⟩:=by rcases xF with q|q;(·omega);(·exact q)
           subst bG;generalize ps[i0]'Sj=a at*;obtain⟨a7,a8⟩:=a;simp only[] at x0 hat;clear y0 y1;cases hq:(a7.toList==nm.toList) with
           |true=>
            go_wp2_with fail
            rw[HR.out];exact mD.no aB.below
           |false=>
            have C8:=af (show(ps.any fun a=>a.1==nm)=(ps.drop (i0+1)).any (fun a=>a.1==nm) by rw[hA.out,hat.out,hq];rfl);clear hat hA;go_wp2_with fail
            go_roundw
            case rel=>exact⟨i0+1,rfl,by omega,by go_num,C8.out,Og.out,aB.out⟩
            case measure=>simp[intOf];omega
          ·have hk2:i0=np:=by omega
           subst i0;have hE4:=af (show u.fs.any (fun f=>f.name==nm||(eG nm f.body||f.params.any fun a=>a.1==nm))=(u.fs.drop (k+1)).any (fun f=>f.name==nm||(eG nm f.body||f.params.any fun a=>a.1==nm)) by rw[hE3.out,hA.out,List.drop_of_length_le (by have:=HNP.out;omega)];rfl);clear hA;go_wp2_with fail
           exact⟨⟨k+1,rfl,by omega,by go_num,hE4.out,aB.out⟩,by simp only[intOf];omega⟩
      ·have hk2:k=mf:=by omega
       subst k;have hE3:=af (show u.fs.any (fun f=>f.name==nm||(eG nm f.body||f.params.any fun a=>a.1==nm))=false by rw[hA.out,List.drop_of_length_le (by have:=pO.out;omega)];rfl);clear hA hF mL hlt p0 p1;have hg0:Hid (Bx (wr.alloc (.cells (tZ nm) 105)) wr.heap.size (tZ nm) 105):=af (Bx.new _ _ _);have cF:=af (aB.on ((Below.refl wr.heap.size wr).alloc (Nat.le_refl _) (.cells (tZ nm) 105)));have XV:=af (NR nm wr.heap.size (wr.alloc (.cells (tZ nm) 105)) HN.out hg0.out);go_wp2_with fail
       refine XV.mono ?_;rintro e w2 ⟨cu,a,b,rfl,XS,hb2⟩;have aQ:=af (cF.on hb2);clear hb2 XV hg0 cF aB p2;have Zs:=af XS;clear XS;by_cases h0:cu=0
       ·subst h0;have IX:=oy 0 a b w2;go_wp2_with fail
        rw[HR.out];exact⟨true,rfl,fun _=>⟨by unfold sR;rw[C8.out,RL.out,hE3.out];rfl,Zs.out (by simp)⟩,aQ.below⟩
       ·have h1:(cu==0)=false:=by simpa using h0
        have IX:=oy cu a b w2;go_wp2_with fail
        rw[HR.out];exact mD.no aQ.below
end
section
open Go.Shelf
theorem dO.low {w:World} {B B':Nat} {hd:HD} {xs:List Value} {v:Value} (h:dO w B hd xs v) (hB:B'≤B):dO w B' hd xs v:=
 ⟨h.len,wJ h.row hB,fun i h1 h2=>wJ (h.rows i h1 h2) hB,h.pos,h.nd⟩
end
section
def Rm {α:Type}:Out α→Out α→Prop
 | .ok a m,o=>o=.ok a m∨o=.lost
 | .stop k x m,o=>if k=3∨k=4 then o.from m else o=.stop k x m∨o=.lost
 | .lost,_=>True
theorem Rm.tu {α:Type} (k x:Int) (m:MS) (o:Out α):Rm (.stop k x m) o=(if k=3∨k=4 then o.from m else o=.stop k x m∨o=.lost):=rfl
theorem Rm.refl {α:Type} (a:α) (m:MS):Rm (.ok a m) (.ok a m):=.inl rfl
theorem Rm.stop {α:Type} (k x:Int) (m:MS) (h:¬(k=3∨k=4)):Rm (.stop k x m:Out α) (.stop k x m):=by
 rw[Rm.tu,if_neg h];exact .inl rfl
theorem Rm.any {α:Type} (o:Out α):Rm o .lost:=by
 cases o with
 |ok a m=>exact .inr rfl
 |stop k x m=>
  rw[Rm.tu];by_cases h:k=3∨k=4
  ·rw[if_pos h];trivial
  ·rw[if_neg h];exact .inr rfl
 |lost=>trivial
theorem Out.NS {α:Type} {m m':MS} {o:Out α} (h:o.from m') (hm:MS.le m m'):o.from m:=by
 cases o with
 |ok a m2=>exact MS.le_trans hm h
 |stop k x m2=>exact MS.le_trans hm h
 |lost=>trivial
theorem Rm.bind {α β:Type} {o o':Out α} {f f':α→MS→Out β} (h:Rm o o') (hf:∀a m,Rm (f a m) (f' a m)) (hg:∀a m,(f' a m).from m):Rm (o.bind f) (o'.bind f'):=by
 cases o with
 |ok a m=>
  rcases h with rfl|rfl
  ·exact hf a m
  ·exact Rm.any _
 | stop k x m=>
  show Rm (.stop k x m) (o'.bind f')
  rw[Rm.tu] at h⊢;by_cases hk:k=3∨k=4
  ·rw[if_pos hk] at h⊢;cases o' with
   |ok a m'=>exact Out.NS (hg a m') h
   |stop k' x' m'=>exact h
   |lost=>trivial
  ·rw[if_neg hk] at h⊢;rcases h with rfl|rfl
   ·exact .inl rfl
   ·exact .inr rfl
 |lost=>trivial
structure Cf.More (cf fw:Cf):Prop where
 vs:fw.vs=cf.vs
 cs:fw.cs=cf.cs
 pl:fw.pl=cf.pl
 hs:fw.hs=cf.hs
 fs:fw.fs=cf.fs
 jd:fw.jd=cf.jd
 allowed:cf.allowed≤fw.allowed
 values:∃l,fw.values=cf.values++l
structure ic.Rel (ev o8:ic):Prop where
 E:∀d fr h k m,Rm (ev.E d fr h k m) (o8.E d fr h k m)
 L:∀d fr l m,Rm (ev.L d fr l m) (o8.L d fr l m)
 W:∀d fr h k b m,Rm (ev.W d fr h k b m) (o8.W d fr h k b m)
 F:∀d g l m,Rm (ev.F d g l m) (o8.F d g l m)
section
variable {cf fw:Cf} {ev o8:ic} (hc:cf.More fw) (hr:ev.Rel o8) (hg:o8.Good)
include hc
include hr hg
end
end
section
open Go.Shelf
end
section
open Go.Shelf
end
section
open Go.Shelf
theorem uA.kpt {w w':World} {n:Nat} {evs:List Ev} {eZ:List Value} {ats:List j4} {ve:Value} (h:uA w n evs eZ ats ve) {T:Nat→Prop} (hk:aU T w.heap.size w w') (hT:∀b,n≤b→¬T b):uA w' n evs eZ ats ve:=
 ⟨h.len,h.at_,hk.own h.row fun b hb=>⟨(h.row.lt b hb).2,hT b (gT h.row hb)⟩,fun i h1 h2=>hk.own (h.args i h1 h2) fun b hb=>⟨((h.args i h1 h2).lt b hb).2,hT b (gT (h.args i h1 h2) hb)⟩⟩
theorem uA.below {w w':World} {n:Nat} {evs:List Ev} {eZ:List Value} {ats:List j4} {ve:Value} (h:uA w n evs eZ ats ve) (hb:Below w.heap.size w w'):uA w' n evs eZ ats ve:=
 ⟨h.len,h.at_,aC h.row hb,fun i h1 h2=>aC (h.args i h1 h2) hb⟩
section
variable {w w':World} {B:Nat} {u:UT} {vs:VS} {cs:dM} {pl:List (ByteArray×Int)} {hd:HD} {xs:List Value} {X vb cb pb:Nat} {vg vh vf hv:Value}
theorem ik.other (h:ik w B u vs cs pl hd xs X vb cb pb vg vh vf hv) {hd2:HD} {ys:List Value} {X2:Nat} {hv2:Value} (h2:ik w B u vs cs pl hd2 ys X2 vb cb pb vg vh vf hv2) (hk:aU (dV ys) w.heap.size w w') (hd0:∀b,dV xs b→¬dV ys b):ik w' B u vs cs pl hd xs X vb cb pb vg vh vf hv:=by
 have h3:=h.CO (w':=w') (held:=hd.map (·.2)) hk (fun b hb=>h2.old hb) (fun⟨x,hx,hq⟩=>(h2.held.box h.box (by decide) (by decide)).2 x hx hq.symm) (fun b hb=>h.sx h2.held hb) (by simp) (fun i h1 h2=>by
  rw[om];have hr:=h.held.rows i h1 (by simpa using h2);exact hk.own hr fun b hb=>⟨(hr.lt b hb).2,hd0 b ⟨_,List.getElem_mem h1,hb⟩⟩) (fun q hq=>by
  obtain⟨a,ha,rfl⟩:=List.mem_map.1 hq;obtain⟨i,hi,rfl⟩:=List.getElem_of_mem ha;exact h.held.pos i hi)
 rwa[gG] at h3
end
theorem uA.small {w:World} {n:Nat} {evs:List Ev} {eZ:List Value} {ats:List j4} {ve:Value} (h:uA w n evs eZ ats ve):∀e∈evs,e.args.length≤9223372036854775807:=by
 intro e he;obtain⟨i,hi,rfl⟩:=List.getElem_of_mem he;rcases(h.args i (by have:=h.len;omega) hi).2 with⟨q,h0⟩|⟨g,cap,cur,q,_,_,h1,h2,_⟩
 ·omega
 ·unfold maxLen at h2;omega
end
section
open Go.Shelf
theorem JV {w:World} {g cap:Nat} {D R:List PW} {c1 c3:List (List Value)} {c:List Value} {b1 ba b3:List Nat} {o n:ByteArray} {a:PW} (h:Sp tF 2 46 w g D R c1 c c3 b1 ba b3) (hd:(g::(b1++(ba++b3))).Nodup) (hE:tF w a c ba) (hq:(a.1.toList==o.toList)=false):
  Rv tF 2 46 w (some ⟨g,0,none⟩) cap (D++[oK (eY o n) a]) R (g::(b1++(ba++b3))):=by
 have e:oK (eY o n) a=a:=by unfold oK;rw[Bz hq]
 rw[e];exact h.next lg hd (Ch.refl _ _) hE
theorem NT {w:World} {g cap:Nat} {D R:List PW} {c1 c3:List (List Value)} {c:List Value} {b1 ba b3:List Nat} {o n:ByteArray} {a:PW} (h:Sp tF 2 46 w g D R c1 c c3 b1 ba b3) (hd:(g::(b1++(ba++b3))).Nodup) (hE:tF w a c ba) (hq:(a.1.toList==o.toList)=true) {k:Nat} (hk:D.length=k):
  Rv tF 2 46 (w.setCell ⟨g,k*2,none⟩ (.string n)) (some ⟨g,0,none⟩) cap (D++[oK (eY o n) a]) R (g::(b1++(ba++b3))):=by
 obtain⟨rfl,rfl⟩:=hE;have h2:=h.set lg hd hk 0 (by simp) (.string n);rw[Nat.add_zero] at h2;have e:oK (eY o n) a=(n,a.2):=by unfold oK;rw[qW hq]
 rw[e];exact h2.next lg hd (Ch.refl _ _) ⟨rfl,rfl⟩
theorem Bx.ch {bs:List Nat} {w w':World} {q:Nat} {cs:Array Value} {t:TypeId} (h:Bx w q cs t) (hc:Ch bs w w') (hq:q∉bs):Bx w' q cs t:=(hc.2.2 q hq).trans h
theorem NU (u:UT) (v:Value) (fi:Int) (o n nm:ByteArray) (args values later:List Int) (YV vv0 vl0:Value) (st mo:Int) (w:World) (ok:u.Ok) (wf:u.Wf) (vH:Hid (∀x∈u.gs,0≤x.len∧x.len<4294967296)) (hu:jR w true none u v) (Yw:n.size≤1048576)
  (nJ:eN w args YV) (Bi:eN w values vv0) (hrl:eN w later vl0) (hU:Hid (∀x∈args,U x)) (hV:Hid (∀x∈values,U x)) (Aj:values.length≤10000000):
  Calls Tryz.prog 3 #[v,.int .i64 fi,.string o,.string n,.agg #[.string nm,YV,.int .i64 st,.int .i64 mo,vv0,vl0]] w fun e w'=>e=.returned (.bool true)∧Below w.heap.size w w':=by
 have HU:=af hu;have XW:=af hu.any;have OK:=af ok;have WF:=af wf;have HON:=af Yw;obtain⟨Kf,hKf⟩:=Fc;have HKf:=af hKf;obtain⟨al,dU⟩:∃al:Nat,mA st=(al:Int):=⟨(mA st).toNat,by have:=y8 st;omega⟩;have al2:al<4000:=by have:=y8 st;omega
 have Rp:=af dU;obtain⟨vg,vh,vf,rfl,hg,hh,hf⟩:=hu;obtain⟨ga,gc,rfl⟩:=hg.shape;obtain⟨ha,hc,rfl⟩:=hh.shape;obtain⟨fa,fb,fo,fc,rfl,mL,pN⟩:=ei.open hf;have HFI:=af pN;have HRA:=af nJ;have HRV:=af Bi;obtain⟨aa,ab,ao,ac,rfl,-,-⟩:=nJ;obtain⟨ba0,bb0,bo0,bc0,rfl,-,-⟩:=Bi;obtain⟨ca0,cb0,co0,cc0,rfl,-,-⟩:=hrl;have g3:=ok.f;obtain⟨mg,iY⟩:∃m,m=u.gs.length:=⟨_,rfl⟩;obtain⟨mh,j1⟩:∃m,m=u.hs.length:=⟨_,rfl⟩;obtain⟨mf,iw⟩:∃m,m=u.fs.length:=⟨_,rfl⟩;obtain⟨la,hla⟩:∃m,m=args.length:=⟨_,rfl⟩;obtain⟨lv,hlv⟩:∃m,m=values.length:=⟨_,rfl⟩;obtain⟨ll,XX⟩:∃m,m=later.length:=⟨_,rfl⟩;rw[←iY,←j1,←iw] at HU XW⊢;rw[←iw] at mL g3;rw[←hla] at HRA⊢;rw[←hlv] at HRV Aj⊢;rw[←XX];have HMF:=af iw;have HFA:=af mL;have HLA:=af hla;have HLV:=af hlv;obtain⟨W1,hW1⟩:∃x:World,x=(w.alloc (.cells #[.slice ga mg gc,.slice ha mh hc,.slice fa mf fc] 26)).alloc (.cells #[.string nm,.slice aa la ac,.int .i64 st,.int .i64 mo,.slice ba0 lv bc0,.slice ca0 ll cc0] 29):=⟨_,rfl⟩;have A1:=af (show A4 w w.heap.size #[.slice ga mg gc,.slice ha mh hc,.slice fa mf fc] #[.string nm,.slice aa la ac,.int .i64 st,.int .i64 mo,.slice ba0 lv bc0,.slice ca0 ll cc0] W1 by rw[hW1];exact A4.start _ _ _);have c1:=af (Sb W1);clear hg hh hf ok wf hKf dU iY j1 iw hla hlv XX pN mL Yw;go_enter Tryz.func3,Tryz.ntmps3;go_wp2_with fail
 rw[←hW1];clear hW1;refine c1.mono ?_;rintro e w2 ⟨rfl,hb2⟩;have A2:=af (A1.on hb2);have c2:=af (R7 u (.agg #[.slice ga mg gc,.slice ha mh hc,.slice fa mf fc]) w2 OK.out (XW.mono A2.below));have p0:=A2.b1.cell 0;have p1:=A2.b1.cell 1;have p2:=A2.b1.cell 2;simp at p0 p1 p2;clear c1 hb2;go_wp2_with fail
 refine c2.mono ?_;rintro e w3 ⟨⟨b,rfl⟩,hb3⟩;have A3:=af (A2.on hb3);clear c2 hb3 p0 p1 p2;cases b with
 |true=>
  go_wp2_with fail
  go_ret;exact⟨rfl,A3.below⟩
 | false=>
  have p0:=A3.b1.cell 0;have p1:=A3.b1.cell 1;have p2:=A3.b1.cell 2;simp at p0 p1 p2;by_cases pd:mf=0
  ·have Rj:=af pd;have fH:((mf:Int)==0)=true:=by simpa using pd
   clear pd;go_wp2_with fail
   go_ret;exact⟨rfl,A3.below⟩
  have Rj:=af (show 0<mf by omega);have fH:((mf:Int)==0)=false:=by simpa using pd
  have dX:¬(mf:Int)=0:=by omega
  clear pd;have c3:=af (vU u (.agg #[.slice ga mg gc,.slice ha mh hc,.slice fa mf fc]) w3 OK.out WF.out vH (XW.mono A3.below));go_wp2_with fail
  refine c3.mono ?_;rintro e w4 ⟨⟨f9,s9,rfl⟩,hb4⟩;have Sk:=af (A3.on hb4);clear c3 hb4 p0 p1 p2 fH dX;by_cases hs:aW u=0;rotate_left
  ·generalize aW u=ck at hs⊢;have kq:(ck==0)=false:=by simpa using hs
   have jI:(ck !=0)=true:=by simpa using hs
   have IX:=oy ck f9 s9 w4;go_wp2_with fail
   go_ret;exact⟨rfl,Sk.below⟩
  have HS:=af hs;rw[hs];clear hs;have IX:=oy 0 f9 s9 w4;have p0:=Sk.b1.cell 0;have p1:=Sk.b1.cell 1;have p2:=Sk.b1.cell 2;simp at p0 p1 p2;obtain⟨j,hj⟩:∃j:Nat,mB fi mf=(j:Int):=⟨(mB fi mf).toNat,by have:=y9 fi (m:=mf) (by have:=Rj.out;omega);omega⟩;have hjm:j<mf:=by have:=y9 fi (m:=mf) (by have:=Rj.out;omega);omega
  have hjf:j<u.fs.length:=by have:=HMF.out;omega
  have HJ:=af hj;have TF:=af hjf;clear hj hjf;have c4:=af (RX u (.agg #[.slice ga mg gc,.slice ha mh hc,.slice fa mf fc]) w4 OK.out (HU.mono Sk.below));go_wp2_with fail
  refine c4.mono ?_;rintro e w5 ⟨v5,rfl,Hc,Rs⟩;obtain⟨vg1,vh1,g,cap,vp,vb,bg,bh,b1,bp,bb,b3,k1,k3,rfl,hF⟩:=Hc.opened TF.out;rw[←HMF.out];obtain⟨Zt,Zu,rfl⟩:=hF.vg.shape;obtain⟨ha1,hc1,rfl⟩:=hF.vh.shape;obtain⟨pa,Sl,rfl⟩:=hF.ps.shape;obtain⟨ba,bcap,rfl⟩:=hF.body.shape;have Nl:=List.getElem_mem TF.out;obtain⟨f,hfj⟩:∃f,f=u.fs[j]'TF.out:=⟨_,rfl⟩;rw[←hfj] at hF Nl;have HFJ:=af hfj;have FP:=af (And.intro (OK.fp f Nl) (OK.fb f Nl));obtain⟨Zv,XY⟩:∃m,m=u.gs.length:=⟨_,rfl⟩;obtain⟨Zw,XZ⟩:∃m,m=u.hs.length:=⟨_,rfl⟩;rw[←XY,←XZ] at hF⊢;have A5:=af (Sk.on Rs);have S45:=af Rs.size;have F5:=af hF;have L5:=af hF.low;have bA:Below w5.heap.size w5 (w5.alloc (.cells #[.slice Zt Zv Zu,.slice ha1 Zw hc1,.slice (some ⟨g,0,none⟩) mf cap] 26)):=by(repeat(first|exact Below.refl _ _|refine Below.drew ?_ |refine Below.alloc ?_ (by simp<;>omega) _))
  have X6:=af (Bx.new w5 #[.slice Zt Zv Zu,.slice ha1 Zw hc1,.slice (some ⟨g,0,none⟩) mf cap] 26);have A6:=af (A5.on bA);have F6:=af (F5.keep bA);have l0:=A5.b1.lt;have l1:=A5.b2.lt;have p0:=A5.b1.cell 0;have p1:=A5.b1.cell 1;have p2:=A5.b1.cell 2;simp at p0 p1 p2;clear c4 Rs Hc hF bA hfj Nl IX XY XZ;go_wp2_with fail
  generalize w5.alloc (.cells #[.slice Zt Zv Zu,.slice ha1 Zw hc1,.slice (some ⟨g,0,none⟩) mf cap] 26)=w6 at A6 F6 X6⊢;generalize w5.heap.size=q5 at L5 S45 X6⊢;clear p0 p1 p2 l0 l1 A5 F5;have cp:=NI fi mf Rj.out g3 w6;rw[HJ.out] at cp;refine cp.mono ?_;rintro e w6x ⟨rfl,rfl⟩;clear cp;obtain⟨pv,bv,y0,y1,y2,y3,y4,y5,tS,tD⟩:=yV (HFI.out j TF.out);rw[←HFJ.out] at y0 y1 y3 y4 tS tD;obtain⟨pa2,pc2,rfl⟩:=tS.ay;obtain⟨ba2,bc2,rfl⟩:=tD.ay;have x0:=ag y0 A6.below;have x1:=ag y1 A6.below;have x2:=ag y2 A6.below;have x3:=ag y3 A6.below;have x4:=ag y4 A6.below;have x5:=ag y5 A6.below;have p2:=A6.b1.cell 2;simp at p2;obtain⟨rfl⟩:fa=some ⟨fb,fo,none⟩:=by rcases HFA.out with q|q;(·have:=Rj.out;omega);(·exact q)
  have c6:=af (NK f f.at_ (.slice pa2 f.params.length pc2) (.slice ba2 f.body.len bc2) o w6x (tS.plain.mono A6.below) (tD.any.mono A6.below) FP.1 FP.2);clear y0 y1 y2 y3 y4 y5 tS tD;go_wp2_with fail
  refine c6.mono ?_;rintro e w7 ⟨rfl,Zx⟩;have A7:=af (A6.on Zx);have F7:=af (F6.keep Zx);have X7:=af (X6.on (ah Zx) (by simp));clear c6 Zx x0 x1 x2 x3 x4 x5 p2 A6 F6 X6;cases hl:mW f o with
  |false=>
   go_wp2_with fail
   go_ret;exact⟨rfl,A7.below⟩
  | true=>
   have HL:=af hl;clear hl;have p0:=A7.b1.cell 0;have p1:=A7.b1.cell 1;have p2:=A7.b1.cell 2;simp at p0 p1 p2;have c7:=af (Si u (.agg #[.slice ga mg gc,.slice ha mh hc,.slice (some ⟨fb,fo,none⟩) mf fc]) n w7 OK.out HON.out (XW.mono A7.below));go_wp2_with fail
   refine c7.mono ?_;rintro e w8 ⟨b8,rfl,zv,Zy⟩;have A8:=af (A7.on Zy);have F8:=af (F7.keep Zy);have X8:=af (X7.on (ah Zy) (by simp));have HFR:=af zv;clear c7 Zy p0 p1 p2 A7 F7 X7 zv;cases b8 with
   |false=>
    go_wp2_with fail
    go_ret;exact⟨rfl,A8.below⟩
   | true=>
    obtain⟨pa',pcap',he,Bi⟩:=F8.ps.rv;cases he;have RV:=af Bi;have ND:=af F8.nds;have CE:=af (F8.cells (by have:=TF.out;omega));obtain⟨lp,LD⟩:∃m,m=f.params.length:=⟨_,rfl⟩;have hlp2:lp≤100000000:=by rw[LD];exact FP.1
    have LP:=af LD;clear Bi LD;go_wp2_with fail
    go_loopw [13] (fun i wr=>∃k:Nat,k≤lp∧i=.int .i64 k∧Rv tF 2 46 wr pa Sl ((f.params.map (oK (eY o n))).take k) (f.params.drop k) bp∧Ch bp w8 wr) (fun i _=>lp- (intOf i).toNat)
    case atStart=>exact⟨0,Nat.zero_le _,rfl,RV.out,Ch.refl _ _⟩
    case round=>
     clear RV;obtain⟨k,hk,rfl,hr,hch⟩:=hrel;have X9:=af (X8.ch hch (fun q=>by have:=(L5.1 q5 (by simp[q])).2;omega));have e2:=hch.cell CE.1 (fun q=>ND.2.2.2.2.2.2 (by simp[show g∈bp from q]));have e5:=hch.cell CE.2 (fun q=>ND.2.2.2.2.2.2 (by simp[show g∈bp from q]));rw[←LP.out] at e2;have q2:=X9.cell 2;simp at q2;have Ya:=af hch;clear hch;by_cases hlt:k<lp
     ·have gR:k<f.params.length:=by have:=LP.out;omega
      have wU:(f.params.map (oK (eY o n))).take (k+1)=(f.params.map (oK (eY o n))).take k++[oK (eY o n) (f.params[k]'gR)]:=by
       rw[fA _ k (by simpa using gR)];simp
      have bq:((f.params.map (oK (eY o n))).take k).length=k:=by simp;omega
      rw[List.drop_eq_getElem_cons gR] at hr;generalize f.params[k]'gR=a at*;generalize (f.params.map (oK (eY o n))).take k=D at*;obtain⟨gp,d1,d,d3,e1,ea,e3,xF,TG,hsp,zA⟩:=hr.at_;have z0:=hsp.cell bq 0 (by rw[zA.1];simp);rw[zA.1] at z0;have Kz:=hsp.row.free (k*2);simp only[Nat.add_zero,List.getElem?_cons_zero] at z0;have pE:(gp::(e1++(ea++e3))).Nodup:=by rw[←TG];exact ND.1
      cases hq:(a.1.toList==o.toList) with
      | true=>
       have zN:=af (NT (cap:=Sl) (n:=n) hsp pE zA hq bq);have tE:=af (Ya.trans ((Ch.set wr gp (k*2) (.string n)).sub fun x hx=>by rw[TG];simp at hx;simp[hx]));have HBP:=af TG;have HTK:=af wU;subst xF;clear hr hsp zA pE TG wU bq e5;go_wp2_with fail
       go_roundw
       case rel=>
        refine⟨k+1,by omega,by go_num,?_,tE.out⟩;rw[HTK.out,HBP.out];exact zN.out
       case measure=>simp[intOf];omega
      | false=>
       have zN:=af (JV (cap:=Sl) (n:=n) hsp pE zA hq);have HBP:=af TG;have HTK:=af wU;subst xF;clear hr hsp zA pE TG wU bq e5;go_wp2_with fail
       go_roundw
       case rel=>
        refine⟨k+1,by omega,by go_num,?_,Ya.out⟩;rw[HTK.out,HBP.out];exact zN.out
       case measure=>simp[intOf];omega
     ·obtain rfl:k=lp:=by omega
      rw[List.take_of_length_le (by have:=LP.out;simp;omega),List.drop_of_length_le (by have:=LP.out;omega)] at hr;have hdn:=hr.dn;rw[List.length_map] at hdn;have c9:=af (Nz o n (f.body.sz+1) f.body (.slice ba f.body.len bcap) bb wr (by omega) FP.2 (F8.body.keep (Ya.kb fun x hx c=>ND.2.2.1 x c hx)) ND.2.1);have HDN:=af hdn;clear hr hdn hlt;go_wp2_with fail
      refine c9.mono ?_;rintro e w9 ⟨⟨r9,rfl⟩,ht9,hc9⟩;have NV:Ch (bp++bb) w8 w9:=(Ya.sub fun x hx=>by simp[hx]).trans (hc9.sub fun x hx=>by simp[hx]);have Sm:=F8.turned HFJ.symm NV (HDN.keep lg (hc9.kb fun x hx c=>ND.2.2.1 x hx c)) ht9;rw[←HMF.out] at Sm;have UO:=af Sm.tree.any;have A9:=af (A8.far (NV.below (B:=w4.heap.size) fun x hx=>(L5.1 x hx).1) Sk.b2.lt);have X9b:=af (X8.ch NV (fun q=>by have:=(L5.1 q5 q).2;omega));clear c9 ht9 hc9 NV Sm X9 e2 e5 q2 HDN Ya A8 X8 F8 CE;have FR:=af (HFR.out (by simp));have p0:=A9.b1.cell 0;have p1:=A9.b1.cell 1;have p2:=A9.b1.cell 2;simp at p0 p1 p2;have c10:=af (OM u (.agg #[.slice ga mg gc,.slice ha mh hc,.slice (some ⟨fb,fo,none⟩) mf fc]) w9 OK.out WF.out vH (XW.mono A9.below));go_wp2_with fail
      refine c10.mono ?_;intro e zw hp;obtain⟨qA,wG⟩:=hp;have A10:=af (A9.on qA);have Zz:=af (X9b.on (ah qA) (by simp));have U10:=af (UO.mono qA);clear c10 qA p0 p1 p2 UO X9b;rcases wG with⟨hs,rfl⟩|⟨-,B,vs,cs,X,vb,cb,pb,vg',vh',vf',hv,xs,rfl,zr,hB,hX,hW⟩
      ·exact absurd HS.out hs
      obtain⟨hs2,cs',hg2,hres⟩:=ze HS.out zr (j:=j) (f:=f) (by rw[List.getElem?_eq_getElem TF.out,HFJ.out]) HL.out FR.1 FR.2;have HG:=af zr;have RQ:=af hs2;have FU:=af hg2;have HRES:=af hres;have ZA:=af (UT.mC (j:=j) (r:=eY o n) (fun s h=>Sh HON.out h) WF.out);have nB:=af (show w.heap.size+2≤B by have:=A9.b2.lt;omega);have FX:=af (fun b (hb:dV xs b)=>hW.Pm hb);have LW:=af (And.intro hW.lX (And.intro hW.lB (fun b hb=>(hW.held.row.lt b hb).2)));have W10:=af hW;have IO:=af (ju.init WF.out HS.out);have IO2:=af (show ju (mU j (eY o n) u) (ep u.gs) from ju.init ZA.out RQ.out);have H256:=af (show u.gs.length≤256 by obtain⟨_,_,_,_,UX,_⟩:=fI HS.out;exact UX);have q0:=Zz.cell 0;have q1:=Zz.cell 1;have q2:=Zz.cell 2;simp at q0 q1 q2;have c11:=af (Ig (mU j (eY o n) u) (.agg #[.slice Zt Zv Zu,.slice ha1 Zw hc1,.slice (some ⟨g,0,none⟩) mf cap]) zw (UT.XR OK.out) ZA.out vH U10.out);clear hs2 hg2 hres zr hB hX hW A9 HFR FR;go_wp2_with fail
      refine c11.mono ?_;intro e w11 hp;obtain⟨NW,wG⟩:=hp;have Pn:=af (A10.on NW);have W11:=af (W10.on NW);have SZ:=af NW.size;clear c11 NW q0 q1 q2 U10 Zz W10 A10;rcases wG with⟨hs,rfl⟩|⟨-,B2,vs2,lq,X2,vb2,cb2,pb2,vg2,vh2,vf2,hv2,ys,rfl,zr,hB,hX,hV,hO⟩
      ·exact absurd RQ.out hs
      rw[FU.out] at zr;cases zr;have V11:=af (show ik w11 B2 (mU j (eY o n) u) vs cs' (pW (mU j (eY o n) u).gs 0 []) (ep u.gs) ys X2 vb2 cb2 pb2 vg2 vh2 vf2 hv2 from hV);have O11:=af hO;have N2:=af (And.intro hB hX);have FY:=af (fun b (hb:dV ys b)=>hV.Pm hb);clear hB hX hV hO;have cp:=R8 st w11;rw[Rp.out] at cp;have q2:=Pn.b2.cell 2;simp at q2;go_wp2_with fail
      refine cp.mono ?_;rintro e w11x ⟨rfl,rfl⟩;clear cp q2;have q0:=Pn.b2.cell 0;have q1:=Pn.b2.cell 1;have q4:=Pn.b2.cell 4;simp at q0 q1 q4;obtain⟨r,hr⟩:∃r,r=BP u vs cs al values Kf nm args (ep u.gs):=⟨_,rfl⟩;have c17:=af (tq (s:=nm) (k:=Kf) W11.out WF.out HS.out HG.out IO.out hU.out (HRA.below Pn.below) (al:=al) (by omega) hV.out (HRV.XQ Pn.below (fun b hb=>by have:=(FX.out b hb).1;have:=nB.out;omega)) (by have:=HLV.out;omega) (fun g q1 q2 q3=>HKf.out u vs cs al values nm g args _ WF.out HS.out HG.out (by omega) hV.out q1 q2 q3));rw[←hr] at c17;have HR:=af hr;clear hr;go_wp2_with fail
      refine c17.mono ?_;rintro e Kv ⟨vas1,ats1,aR,rfl,Yb,NY,Sn,Yc,Yd⟩;have Sr:=af (Pn.far (W11.far (Nat.le_refl _) NY) nB.out);have V12:=af (V11.aside O11.out NY (fun b hb=>(FX.out b hb).2) N2.2 N2.1);have W12:=af Yb;have E12:=af Sn;have HO:=af Yc;have YT:=af Yd;obtain⟨Ye,Yf,Ss,-⟩:=aP Sn.row;rw[Ss];have HEV1:=af Ss;have bA:Below Kv.heap.size Kv (Kv.alloc (.cells #[.int .u8 r.en,.int .u32 r.x,.int .u8 r.fa,.int .i64 r.st,.int .i64 r.rp,.slice Ye r.evs.length Yf] 56)):=by(repeat(first|exact Below.refl _ _|refine Below.drew ?_ |refine Below.alloc ?_ (by simp<;>omega) _))
      have Yg:=af (Sr.on bA);have ZC:=af (V12.on bA);have W13:=af (W12.on bA);have E13:=af (E12.below bA);have Yh:=af (Bx.new Kv #[.int .u8 r.en,.int .u32 r.x,.int .u8 r.fa,.int .i64 r.st,.int .i64 r.rp,.slice Ye r.evs.length Yf] 56);have s12:=af (show w11x.heap.size≤Kv.heap.size∧Kv.heap.size<(Kv.alloc (.cells #[.int .u8 r.en,.int .u32 r.x,.int .u8 r.fa,.int .i64 r.st,.int .i64 r.rp,.slice Ye r.evs.length Yf] 56)).heap.size from⟨NY.size,by simp⟩);have l0:=Sr.b1.lt;have l1:=Sr.b2.lt;clear c17 Yb NY Sn Yc Yd Ss bA q0 q1 q4 Pn W11 V11 O11 V12 W12 E12;have q0:=Sr.b2.cell 0;have q1:=Sr.b2.cell 1;have q4:=Sr.b2.cell 4;simp at q0 q1 q4;go_wp2_with fail
      clear q0 q1 q4 l0 l1 Sr;generalize Kv.alloc (.cells #[.int .u8 r.en,.int .u32 r.x,.int .u8 r.fa,.int .i64 r.st,.int .i64 r.rp,.slice Ye r.evs.length Yf] 56)=w13 at Yg ZC W13 E13 Yh s12⊢;generalize Kv.heap.size=YR at Yh s12⊢;have c18:=af (tq (s:=nm) (k:=Kf) ZC.out ZA.out RQ.out FU.out IO2.out hU.out (HRA.below Yg.below) (al:=al) (by omega) hV.out (HRV.XQ Yg.below (fun b hb=>by have:=(FY.out b hb).1;have:=nB.out;have:=N2.1;have:=LW.2.1;omega)) (by have:=HLV.out;omega) (fun g q1 q2 q3=>HKf.out (mU j (eY o n) u) vs cs' al values nm g args _ ZA.out RQ.out FU.out (by omega) hV.out q1 q2 q3));rw[HRES.out,←HR.out] at c18;refine c18.mono ?_;rintro e VK ⟨vas2,ats2,eI,rfl,Yi,JW,Sv,hO14,hl14⟩;have A14:=af (Yg.far (ZC.far (Nat.le_refl _) JW) (by have:=nB.out;have:=N2.1;have:=LW.2.1;omega));have W14:=af (W13.ahead (n:=zw.heap.size) JW (fun b hb=>by have:=(FY.out b hb).1;have:=N2.1;omega) LW.1 LW.2.1 LW.2.2 (fun b hb=>(FX.out b hb).2));have V14:=af Yi;have E14:=af (E13.kpt JW (fun b hb hy=>by have:=(FY.out b hy).2;omega));have X14:=af (JW.box Yh.out Yh.lt (fun hy=>by have:=(FY.out _ hy).2;have:=s12.1;omega));have F14:=af Sv;obtain⟨e2a,e2c,Sw,-⟩:=aP Sv.row;rw[Sw];have HEV2:=af Sw;have bB:Below VK.heap.size VK (VK.alloc (.cells #[.int .u8 r.en,.int .u32 r.x,.int .u8 r.fa,.int .i64 r.st,.int .i64 r.rp,.slice e2a r.evs.length e2c] 56)):=by(repeat(first|exact Below.refl _ _|refine Below.drew ?_ |refine Below.alloc ?_ (by simp<;>omega) _))
      have A15:=af (A14.on bB);have V15:=af (V14.on bB);have W15:=af (W14.on bB);have E15:=af (E14.below bB);have F15:=af (F14.below bB);have Sx:=af (X14.on (ah bB) (by simp));have Sz:=af (Bx.new VK #[.int .u8 r.en,.int .u32 r.x,.int .u8 r.fa,.int .i64 r.st,.int .i64 r.rp,.slice e2a r.evs.length e2c] 56);have z0:=Sx.cell 0;have z1:=Sx.cell 1;have z2:=Sx.cell 2;have z3:=Sx.cell 3;have z4:=Sx.cell 4;have z5:=Sx.cell 5;have y0:=Sz.cell 0;have y1:=Sz.cell 1;have y2:=Sz.cell 2;have y3:=Sz.cell 3;have y4:=Sz.cell 4;have y5:=Sz.cell 5;simp at z0 z1 z2 z3 z4 z5 y0 y1 y2 y3 y4 y5;have EC1:=af (show Fi _ r.evs (.slice Ye r.evs.length Yf) by have h:=E15.reads;rwa[HEV1.out] at h);have WB:=af (show Fi _ r.evs (.slice e2a r.evs.length e2c) by have h:=F15.reads;rwa[HEV2.out] at h);have c19:=af (yZ r.evs _ _ r.en r.x r.fa r.st r.rp _ EC1.out WB.out (by have h2:=YT.out;have h3:=HLV.out;omega) (af (E15.small)));clear c18 Yi JW Sv hO14 hl14 Sw bB Yg W13 ZC E13 Yh A14 W14 V14 E14 F14 X14;go_wp2_with fail
      refine c19.mono ?_;rintro e QU ⟨rfl,NZ⟩;have A16:=af (A15.on NZ);have V16:=af (V15.on NZ);have W16:=af (W15.on NZ);clear c19 NZ z0 z1 z2 z3 z4 z5 y0 y1 y2 y3 y4 y5 A15 V15 W15 E15 F15 EC1 WB Sx Sz;have LL:=af (show Hid (∀a∈iR (ep u.gs) r.held,a.2.length≤4096) from af fun a ha=>(HO.pos WF.out HS.out a.2 (List.mem_map.2 ⟨a,ha,rfl⟩)).2);have LN:=af (show(iR (ep u.gs) r.held).length≤1000 by have:=HO.len;have:=H256.out;omega);have c20:=af (JQ B u vs cs _ _ xs X vb cb pb vg' vh' vf' hv QU W16.out LN.out LL.out);go_wp2_with fail
      refine c20.mono ?_;rintro e w17 ⟨v17,zs,rfl,SA,SC⟩;have A17:=af (A16.on SA);have V17:=af (V16.on SA);have H17:=af SC;obtain⟨a17,k17,rfl,-⟩:=aP SC.row;clear c20 SA SC A16 V16 W16;have c21:=af (JQ B2 (mU j (eY o n) u) vs cs' _ _ ys X2 vb2 cb2 pb2 vg2 vh2 vf2 hv2 w17 V17.out LN.out LL.out);go_wp2_with fail
      refine c21.mono ?_;rintro e w18 ⟨v18,zs2,rfl,SD,SE⟩;have A18:=af (A17.on SD);have c22:=af (BL _ _ v18 w18 (H17.mono SD).reads SE.reads (by have:=LN.out;omega) (af fun a ha=>by have:=LL.out a ha;omega));obtain⟨a18,k18,rfl,-⟩:=aP SE.row;clear c21 SD SE A17 V17 H17;go_wp2_with fail
      refine c22.mono ?_;rintro e w19 ⟨rfl,Yj⟩;have A19:=af (A18.on Yj);clear c22 Yj A18;go_wp2_with fail
      go_ret;exact⟨rfl,A19.below⟩
end
section
open Go.ChangeShapes Go.WideShapes Go.ChangeAt Go.RowKit
open Go.ChangeMaps (open_string shut_string)
theorem JX {H:Type} (d:DataW H):1≤Rows.uptoBulk d:=by
 cases d with
 |lit l=>cases l<;>simp[Rows.uptoBulk]
 |nil=>simp[Rows.uptoBulk]
 |ptr d=>simp[Rows.uptoBulk]
 |slice elems spare=>simp[Rows.uptoBulk]
 |agg parts=>simp[Rows.uptoBulk]
 |iface t d=>simp[Rows.uptoBulk]
 |map entries=>simp[Rows.uptoBulk]
 |held h=>simp[Rows.uptoBulk]
theorem BQ {H:Type} {l:List (DataW H)} (hk:Rows.uptoSmall H l=true):Rows.uptoBulkAll l≤1048576:=by
 have h:=of_decide_eq_true hk;exact h
section
variable {H:Type} {enc:TypeId×Value→H} {P:Program} {w:World}
end
theorem own:ownKnob Tryz.prog.godebug=none:=by kernel_rfl
theorem laidOut:laidOutB Tryz.prog=true:=by kernel_rfl
end
section
open Go.ChangeShapes Go.WideShapes Go.ChangeAt
/-! ### the arguments opened -/
section
variable {H:Type} {enc:TypeId×Value→H} {w:World}
theorem Fl {base:Nat} {a:Addr} {n:Nat} {cs:List Value} (h:w.cells? base a n=some cs):cs.length=n∧∀j,j<n→w.cell? (a.add j)=cs[j]? :=by
 unfold World.cells? at h;split at h
 ·have hl:=mapM_some_length h;rw[List.length_range] at hl;refine⟨hl,fun j hj=>?_⟩;have:=mapM_some_get h j j (by simp[hj]);exact this
 ·simp at h
theorem tv (b o j:Nat):(⟨b,o,none⟩:Addr).add j=⟨b,o+j,none⟩:=by
 unfold Addr.add;split
 ·rename_i h;subst h;rfl
 ·rfl
theorem Fm {P:Program} {t e:TypeId} {c fuel:Nat} {v:Value} {y:DataW H×List MemPlace} (ht:P.underlying t=some (.slice e)) (hc:P.cellsOf e=c) (tX:0<c)
  (h:DataW.trod enc P w 0 (fun _=>true) true fuel t [v]=some y):
  ∃(a:Option Addr) (b off n cap:Nat) (elems:List (DataW H×List MemPlace)),v=.slice a elems.length cap∧(elems.length=0∨a=some ⟨b,off,none⟩)∧n<fuel∧Rows.uptoBulkAll (elems.map (·.1))+1≤Rows.uptoBulk y.1∧
   ∀i (hi:i<elems.length),∃cs:List Value,cs.length=c∧(∀j,j<c→w.cell? ⟨b,off+i*c+j,none⟩=cs[j]?)∧DataW.trod enc P w 0 (fun _=>true) true n e cs=some elems[i]:=by
 have hf0:0<fuel:=by
  rcases Nat.eq_zero_or_pos fuel with rfl|q
  ·simp[DataW.trod] at h
  ·exact q
 rcases DataW.trod_slice ht h with⟨hcs,hx⟩|⟨x,l,c',elems,rest,n,hfu,hcs,hx,_,hl,hm,YG,Yk,hsp,_⟩
 ·simp only[List.cons.injEq,and_true] at hcs;subst hcs;refine⟨none,0,0,0,0,[],rfl,.inl rfl,hf0,?_,fun i hi=>by simp at hi⟩;rw[hx];simp[Rows.uptoBulk,Rows.uptoBulkAll]
 ·simp only[List.cons.injEq,and_true] at hcs;subst hcs;have hb:Rows.uptoBulkAll (elems.map (·.1))+1≤Rows.uptoBulk y.1:=by rw[hx];simp only[Rows.uptoBulk];omega
  have each:∀i (hi:i<elems.length),∃cs:List Value,cs.length=c∧(∀j,j<c→w.cell? ((x.add (i*c)).add j)=cs[j]?)∧DataW.trod enc P w 0 (fun _=>true) true n e cs=some elems[i]:=by
   intro i hi;have h1:=Yk i (by omega);rw[List.getElem?_eq_getElem hi,Option.bind_eq_some_iff] at h1;obtain⟨cs,h2,h3⟩:=h1;rw[hc] at h2;obtain⟨h4,h5⟩:=Fl h2;exact⟨cs,h4,h5,h3⟩
  by_cases h0:elems.length=0
  ·exact⟨some x,0,0,n,c',elems,by rw[YG],.inl h0,by omega,hb,fun i hi=>by omega⟩
  ·obtain⟨b,off,spot⟩:=x;have hspot:spot=none:=by
    obtain⟨cs,h1,h2,_⟩:=each 0 (by omega);have:=h2 0 tX;rw[List.getElem?_eq_getElem (by omega)] at this;simpa[Addr.add] using World.cell?_spot this
   subst hspot;refine⟨some ⟨b,off,none⟩,b,off,n,c',elems,by rw[YG],.inr rfl,by omega,hb,fun i hi=>?_⟩;obtain⟨cs,h1,h2,h3⟩:=each i hi;refine⟨cs,h1,fun j hj=>?_,h3⟩;have:=h2 j hj;rwa[tv,tv] at this
theorem zf {α β:Type} (Q:Nat→α→Prop) (μ:α→Nat) (ν:β→Nat):∀(es:List β) (k:Nat),(∀i (h:i<es.length),∃r,Q (k+i) r∧μ r+1≤ν es[i])→∃l:List α,l.length=es.length∧(∀i (h:i<l.length),Q (k+i) l[i])∧(l.map (fun a=>μ a+1)).sum≤(es.map ν).sum
 |[],k,_=>⟨[],rfl,fun i h=>by simp at h,Nat.le_refl _⟩
 | e::es,k,h=>by
  obtain⟨r,h1,h2⟩:=h 0 (by simp);obtain⟨l,h3,h4,h5⟩:=zf Q μ ν es (k+1) (fun i hi=>by
   have:=h (i+1) (by simpa using hi);rw[show k+ (i+1)=k+1+i by omega] at this;exact this)
  refine⟨r::l,by simp[h3],fun i hi=>?_,by simp only[List.map_cons,List.sum_cons];simp only[List.getElem_cons_zero] at h2;omega⟩;cases i with
  |zero=>exact h1
  |succ i=>
   have:=h4 i (by simpa using hi);rw[show k+1+i=k+ (i+1) by omega] at this;exact this
theorem zg:∀l:List (DataW H),Rows.uptoBulkAll l=(l.map Rows.uptoBulk).sum
 |[]=>rfl
 |d::l=>by simp only[Rows.uptoBulkAll,List.map_cons,List.sum_cons,zg l]
theorem gH {P:Program} {α:Type} {t e:TypeId} {c fuel:Nat} {v:Value} {y:DataW H×List MemPlace} (ht:P.underlying t=some (.slice e)) (hc:P.cellsOf e=c) (tX:0<c) (R:α→Nat→Nat→Prop) (μ:α→Nat)
  (each:∀(n:Nat) (cs:List Value) (z:DataW H×List MemPlace) (b q:Nat),n<fuel→cs.length=c→(∀j,j<c→w.cell? ⟨b,q+j,none⟩=cs[j]?)→DataW.trod enc P w 0 (fun _=>true) true n e cs=some z→∃a,R a b q∧μ a+1≤Rows.uptoBulk z.1)
  (h:DataW.trod enc P w 0 (fun _=>true) true fuel t [v]=some y):∃l:List α,ei w none e c R l v∧(l.map (fun a=>μ a+1)).sum+1≤Rows.uptoBulk y.1:=by
 obtain⟨a,b,off,n,cap,elems,rfl,ha,hn,hb,hE⟩:=Fm ht hc tX h;obtain⟨l,h1,h2,h3⟩:=zf (fun i r=>R r b (off+i*c)) μ (fun z:DataW H×List MemPlace=>Rows.uptoBulk z.1) elems 0 (fun i hi=>by
  obtain⟨cs,e1,e2,e3⟩:=hE i hi;obtain⟨r,e4,e5⟩:=each n cs _ b (off+i*c) hn e1 e2 e3;exact⟨r,by rw[Nat.zero_add];exact e4,e5⟩)
 refine⟨l,⟨a,b,off,cap,by rw[h1],by rw[h1];exact ha.imp (fun q=>⟨q,rfl⟩) (fun q=>⟨q,eP.any⟩),fun i hi=>by have:=h2 i hi;rwa[Nat.zero_add] at this⟩,?_⟩;rw[zg,List.map_map] at hb;have:(elems.map (Rows.uptoBulk∘fun x=>x.1)).sum=(elems.map (fun z:DataW H×List MemPlace=>Rows.uptoBulk z.1)).sum:=rfl;omega
theorem cY {P:Program} {k:IntKind} {t:TypeId} {n:Nat} {v:Value} {y:DataW H×List MemPlace} (ht:P.underlying t=some (.int k)) (h:DataW.trod enc P w 0 (fun _=>true) true n t [v]=some y):
  ∃x,v=.int k x∧(Lit.int k x).wf=true:=by
 obtain⟨x,h1,h2,h3⟩:=DataW.trod_int ht h;simp only[List.cons.injEq,and_true] at h1;exact⟨x,h1,h3⟩
theorem JY {P:Program} {t:TypeId} {n:Nat} {v:Value} {y:DataW H×List MemPlace} (ht:P.underlying t=some .bool) (h:DataW.trod enc P w 0 (fun _=>true) true n t [v]=some y):
  ∃x,v=.bool x:=by
 obtain⟨x,h1,_⟩:=DataW.trod_bool ht h;simp only[List.cons.injEq,and_true] at h1;exact⟨x,h1⟩
theorem iq {P:Program} {t:TypeId} {n:Nat} {v:Value} {y:DataW H×List MemPlace} (ht:P.underlying t=some .string) (h:DataW.trod enc P w 0 (fun _=>true) true n t [v]=some y):
  ∃x,v=.string x∧x.size+1=Rows.uptoBulk y.1:=by
 obtain⟨x,h1,h2,h3⟩:=DataW.trod_string ht h;simp only[List.cons.injEq,and_true] at h1;refine⟨x,h1,?_⟩;rw[h2];simp[Rows.uptoBulk]
theorem jA {P:Program} {fs:Array Field} {cs:List Value} {xs:List (DataW H×List MemPlace)} {n:Nat}
  (hf:∀(i:Nat) (f:Field),fs[i]? =some f→DataW.trod enc P w 0 (fun _=>true) true n f.type ((cs.drop f.offset).take (P.cellsOf f.type))=xs[i]?)
  (i:Nat) (f:Field) (hi:fs[i]? =some f) (l:List Value) (hl:(cs.drop f.offset).take (P.cellsOf f.type)=l) (T:TypeId) (hT:f.type=T) (y:DataW H×List MemPlace) (hy:xs[i]? =some y):
  DataW.trod enc P w 0 (fun _=>true) true n T l=some y:=by
 have h:=hf i f hi;rw[hl,hT,hy] at h;exact h
end
theorem JZ:Tryz.prog.cellsOf 134=7:=by kernel_rfl
theorem J0:Tryz.prog.cellsOf 109=8:=by kernel_rfl
theorem N0:Tryz.prog.cellsOf 46=2:=by kernel_rfl
theorem J1:Tryz.prog.cellsOf 105=5:=by kernel_rfl
theorem J2:Tryz.prog.cellsOf 101=5:=by kernel_rfl
theorem N3:Tryz.prog.cellsOf 52=1:=by kernel_rfl
theorem N4:Tryz.prog.cellsOf 43=6:=by kernel_rfl
def Dl (x:Int):Prop:=0≤x∧x<4294967296
theorem wL {x:Int} (h:(Lit.int .u32 x).wf=true):Dl x:=by
 have:=wf_u32.1 h;unfold Dl;omega
def az.wt:az→Nat
 | .nil=>0
 | .cons h k r=>h.name.size+h.sign.size+k.wt+r.wt+1
def az.Rg:az→Prop
 | .nil=>True
 | .cons h k r=>Dl h.word∧k.Rg∧r.Rg
def aH.wt:aH→Nat
 | .nil=>0
 | .cons h x b e r=>h.name.size+h.sign.size+x.wt+b.wt+e.wt+r.wt+1
def aH.Rg:aH→Prop
 | .nil=>True
 | .cons _ x b e r=>x.Rg∧b.Rg∧e.Rg∧r.Rg
theorem az.qj:∀l:az,l.sz≤l.wt
 | .nil=>Nat.le_refl _
 | .cons h k r=>by have:=az.qj k;have:=az.qj r;simp only[az.sz,az.wt];omega
theorem aH.qj:∀l:aH,l.sz≤l.wt
 | .nil=>Nat.le_refl _
 | .cons h x b e r=>by have:=az.qj x;have:=aH.qj b;have:=aH.qj e;have:=aH.qj r;simp only[aH.sz,aH.wt];omega
theorem az.qm:∀l:az,l.wt≤1048576→l.Rg→l.Wf
 | .nil,_,_=>trivial
 | .cons h k r,hw,hr=>by
  simp only[az.wt] at hw;exact⟨⟨hr.1,by omega,by omega⟩,az.qm k (by omega) hr.2.1,az.qm r (by omega) hr.2.2⟩
theorem aH.qm:∀l:aH,l.wt≤1048576→l.Rg→l.Wf
 | .nil,_,_=>trivial
 | .cons h x b e r,hw,hr=>by
  simp only[aH.wt] at hw;exact⟨⟨by omega,by omega⟩,az.qm x (by omega) hr.1,aH.qm b (by omega) hr.2.1,aH.qm e (by omega) hr.2.2.1,aH.qm r (by omega) hr.2.2.2⟩
def az.BR:List (EH×az)→az
 |[]=>.nil
 |a::l=>.cons a.1 a.2 (az.BR l)
theorem az.zh:∀l,(az.BR l).bu=l
 |[]=>rfl
 |a::l=>by simp[az.BR,az.bu,az.zh l]
theorem az.zi:∀l,(az.BR l).wt=(l.map (fun a:EH×az=>(a.1.name.size+a.1.sign.size+a.2.wt)+1)).sum
 |[]=>rfl
 |a::l=>by simp only[az.BR,az.wt,List.map_cons,List.sum_cons,az.zi l];omega
theorem az.rg_of:∀l,(∀a∈l,Dl a.1.word∧a.2.Rg)→(az.BR l).Rg
 |[],_=>trivial
 |a::l,h=>⟨(h a (by simp)).1,(h a (by simp)).2,az.rg_of l (fun b hb=>h b (by simp[hb]))⟩
def aH.BR:List SB→aH
 |[]=>.nil
 |a::l=>.cons a.1 a.2.1 a.2.2.1 a.2.2.2 (aH.BR l)
theorem aH.zh:∀l,(aH.BR l).bu=l
 |[]=>rfl
 |a::l=>by simp[aH.BR,aH.bu,aH.zh l]
theorem aH.zi:∀l,(aH.BR l).wt=(l.map (fun a:SB=>(a.1.name.size+a.1.sign.size+a.2.1.wt+a.2.2.1.wt+a.2.2.2.wt)+1)).sum
 |[]=>rfl
 |a::l=>by simp only[aH.BR,aH.wt,List.map_cons,List.sum_cons,aH.zi l];omega
theorem aH.rg_of:∀l,(∀a:SB,a∈l→a.2.1.Rg∧a.2.2.1.Rg∧a.2.2.2.Rg)→(aH.BR l).Rg
 |[],_=>trivial
 |a::l,h=>⟨(h a (by simp)).1,(h a (by simp)).2.1,(h a (by simp)).2.2,aH.rg_of l (fun b hb=>h b (by simp[hb]))⟩
theorem ei.each {α:Type} {w:World} {o:Option (Nat→Prop)} {t:TypeId} {n:Nat} {R:α→Nat→Nat→Prop} {l:List α} {v:Value} (h:ei w o t n R l v) (G:α→Prop) (hG:∀a b q,R a b q→G a):∀a∈l,G a:=by
 obtain⟨ka,kb,aD,aK,rfl,y2,y3⟩:=h;intro a ha;obtain⟨i,hi,rfl⟩:=List.getElem_of_mem ha;exact hG _ _ _ (y3 i hi)
section
variable {H:Type} {enc:TypeId×Value→H} {w:World}
theorem J3:∀(fuel:Nat) (v:Value) (y:DataW H×List MemPlace),DataW.trod enc Tryz.prog w 0 (fun _=>true) true fuel 107 [v]=some y→∃l:az,dI w true none l v∧l.wt+1≤Rows.uptoBulk y.1∧l.Rg:=by
 intro fuel
 induction fuel using Nat.strongRecOn with
 | ind fuel ih=>
  intro v y h;obtain⟨l,h1,h2⟩:=gH Tryz.underlying107 JZ (by decide) (fun a b q=>xg w true none a b q∧Dl a.1.word∧a.2.Rg) (fun a=>a.1.name.size+a.1.sign.size+a.2.wt) (fun n cs z b q hn hl hc ht=>by
   obtain⟨xs,m,hm,hx,_,BS,hf⟩:=DataW.trod_struct Tryz.underlying134 ht
   match cs,hl with
   | [c0,c1,c2,c3,c4,c5,c6],_=>
    match xs,BS with
    |[x0,x1,x2,x3,x4,x5,x6],_=>
     obtain⟨y0,rfl,-⟩:=cY Tryz.underlying3 (jA hf 0 _ rfl [c0] (by kernel_rfl) 3 rfl x0 rfl);obtain⟨y1,rfl,-⟩:=cY Tryz.underlying132 (jA hf 1 _ rfl [c1] (by kernel_rfl) 132 rfl x1 rfl);obtain⟨y2,rfl,w2⟩:=cY Tryz.underlying52 (jA hf 2 _ rfl [c2] (by kernel_rfl) 52 rfl x2 rfl);obtain⟨y3,rfl,-⟩:=cY Tryz.underlying40 (jA hf 3 _ rfl [c3] (by kernel_rfl) 40 rfl x3 rfl);obtain⟨y4,rfl,s4⟩:=iq Tryz.underlying9 (jA hf 4 _ rfl [c4] (by kernel_rfl) 9 rfl x4 rfl);obtain⟨y5,rfl,s5⟩:=iq Tryz.underlying9 (jA hf 5 _ rfl [c5] (by kernel_rfl) 9 rfl x5 rfl);obtain⟨kids,hk,hs,hg⟩:=ih m (by omega) c6 x6 (jA hf 6 _ rfl [c6] (by kernel_rfl) 107 rfl x6 rfl);refine⟨(⟨y0,y1,y2,y3,y4,y5⟩,kids),⟨⟨⟨⟨y0,hc 0 (by omega),fun _=>rfl⟩,hc 1 (by omega),hc 2 (by omega),hc 3 (by omega),hc 4 (by omega),hc 5 (by omega)⟩,⟨c6,hc 6 (by omega),hk⟩⟩,wL w2,hg⟩,?_⟩;rw[hx];simp only[Rows.uptoBulk,Rows.uptoBulkAll,List.map_cons,List.map_nil];omega) h
  refine⟨az.BR l,nx.2 (by rw[az.zh];exact h1.same (fun _ _ _ h=>h.1)),by rw[az.zi];exact h2,az.rg_of l (h1.each _ (fun a b q h=>h.2))⟩
theorem J4:∀(fuel:Nat) (v:Value) (y:DataW H×List MemPlace),DataW.trod enc Tryz.prog w 0 (fun _=>true) true fuel 41 [v]=some y→∃l:aH,dR w true none l v∧l.wt+1≤Rows.uptoBulk y.1∧l.Rg:=by
 intro fuel
 induction fuel using Nat.strongRecOn with
 | ind fuel ih=>
  intro v y h;obtain⟨l,h1,h2⟩:=gH Tryz.underlying41 J0 (by decide) (fun(a:SB) b q=>xk w true none a b q∧a.2.1.Rg∧a.2.2.1.Rg∧a.2.2.2.Rg) (fun a:SB=>a.1.name.size+a.1.sign.size+a.2.1.wt+a.2.2.1.wt+a.2.2.2.wt) (fun n cs z b q hn hl hc ht=>by
   obtain⟨xs,m,hm,hx,_,BS,hf⟩:=DataW.trod_struct Tryz.underlying109 ht
   match cs,hl with
   | [c0,c1,c2,c3,c4,c5,c6,c7],_=>
    match xs,BS with
    |[x0,x1,x2,x3,x4,x5,x6,x7],_=>
     obtain⟨y0,rfl,-⟩:=cY Tryz.underlying3 (jA hf 0 _ rfl [c0] (by kernel_rfl) 3 rfl x0 rfl);obtain⟨y1,rfl,-⟩:=cY Tryz.underlying106 (jA hf 1 _ rfl [c1] (by kernel_rfl) 106 rfl x1 rfl);obtain⟨y2,rfl,s2⟩:=iq Tryz.underlying9 (jA hf 2 _ rfl [c2] (by kernel_rfl) 9 rfl x2 rfl);obtain⟨y3,rfl,-⟩:=cY Tryz.underlying40 (jA hf 3 _ rfl [c3] (by kernel_rfl) 40 rfl x3 rfl);obtain⟨y4,rfl,s4⟩:=iq Tryz.underlying9 (jA hf 4 _ rfl [c4] (by kernel_rfl) 9 rfl x4 rfl);obtain⟨ex,zz,hs5,Ni⟩:=J3 m c5 x5 (jA hf 5 _ rfl [c5] (by kernel_rfl) 107 rfl x5 rfl);obtain⟨body,hk6,Z9,hg6⟩:=ih m (by omega) c6 x6 (jA hf 6 _ rfl [c6] (by kernel_rfl) 41 rfl x6 rfl);obtain⟨els,Ku,hs7,hg7⟩:=ih m (by omega) c7 x7 (jA hf 7 _ rfl [c7] (by kernel_rfl) 41 rfl x7 rfl);refine⟨(⟨y0,y1,y2,y3,y4⟩,ex,body,els),⟨⟨⟨⟨y0,hc 0 (by omega),fun _=>rfl⟩,hc 1 (by omega),hc 2 (by omega),hc 3 (by omega),hc 4 (by omega)⟩,⟨c5,hc 5 (by omega),zz⟩,⟨c6,hc 6 (by omega),hk6⟩,⟨c7,hc 7 (by omega),Ku⟩⟩,Ni,hg6,hg7⟩,?_⟩;rw[hx];simp only[Rows.uptoBulk,Rows.uptoBulkAll,List.map_cons,List.map_nil];omega) h
  refine⟨aH.BR l,ny.2 (by rw[aH.zh];exact h1.same (fun _ _ _ h=>h.1)),by rw[aH.zi];exact h2,aH.rg_of l (h1.each _ (fun a b q h=>h.2))⟩
theorem lN {α:Type} (μ:α→Nat):∀l:List α,l.length≤(l.map (fun a=>μ a+1)).sum
 |[]=>Nat.le_refl _
 |a::l=>by have:=lN μ l;simp only[List.map_cons,List.sum_cons,List.length_cons];omega
theorem oA {α:Type} (μ:α→Nat):∀(l:List α) (a:α),a∈l→μ a+1≤(l.map (fun a=>μ a+1)).sum
 |b::l,a,h=>by
  simp only[List.map_cons,List.sum_cons];rcases List.mem_cons.1 h with rfl|h'
  ·omega
  ·have:=oA μ l a h';omega
def tA (l:List PW):Nat:=(l.map (fun a:PW=>a.1.size+1)).sum
theorem zj (l:List PW):l.length≤tA l:=lN (fun a:PW=>a.1.size) l
theorem zk (l:List PW) (a:PW) (h:a∈l):a.1.size+1≤tA l:=oA (fun a:PW=>a.1.size) l a h
theorem uS (fuel:Nat) (v:Value) (y:DataW H×List MemPlace) (h:DataW.trod enc Tryz.prog w 0 (fun _=>true) true fuel 39 [v]=some y):∃l:List PW,dE w none l v∧tA l+1≤Rows.uptoBulk y.1:=by
 obtain⟨l,h1,h2⟩:=gH Tryz.underlying39 N0 (by decide) (lO w) (fun a=>a.1.size) (fun n cs z b q hn hl hc ht=>by
  obtain⟨xs,m,hm,hx,_,BS,hf⟩:=DataW.trod_struct Tryz.underlying46 ht
  match cs,hl with
  | [c0,c1],_=>
   match xs,BS with
   |[x0,x1],_=>
    obtain⟨y0,rfl,s0⟩:=iq Tryz.underlying9 (jA hf 0 _ rfl [c0] (by kernel_rfl) 9 rfl x0 rfl);obtain⟨y1,rfl,-⟩:=cY Tryz.underlying40 (jA hf 1 _ rfl [c1] (by kernel_rfl) 40 rfl x1 rfl);refine⟨(y0,y1),⟨hc 0 (by omega),hc 1 (by omega)⟩,?_⟩;rw[hx];simp only[Rows.uptoBulk,Rows.uptoBulkAll,List.map_cons,List.map_nil];omega) h
 exact⟨l,h1,h2⟩
theorem Fo (fuel:Nat) (v:Value) (y:DataW H×List MemPlace) (h:DataW.trod enc Tryz.prog w 0 (fun _=>true) true fuel 22 [v]=some y):∃l:List GH,N5 w true none l v∧l.length+1≤Rows.uptoBulk y.1∧∀a∈l,a.name.size+1≤Rows.uptoBulk y.1∧(Dl a.word∧Dl a.len):=by
 obtain⟨l,h1,h2⟩:=gH Tryz.underlying22 J1 (by decide) (fun a b q=>ji w true a b q∧(Dl a.word∧Dl a.len)) (fun a=>a.name.size) (fun n cs z b q hn hl hc ht=>by
  obtain⟨xs,m,hm,hx,_,BS,hf⟩:=DataW.trod_struct Tryz.underlying105 ht
  match cs,hl with
  | [c0,c1,c2,c3,c4],_=>
   match xs,BS with
   |[x0,x1,x2,x3,x4],_=>
    obtain⟨y0,rfl,-⟩:=cY Tryz.underlying3 (jA hf 0 _ rfl [c0] (by kernel_rfl) 3 rfl x0 rfl);obtain⟨y1,rfl,s1⟩:=iq Tryz.underlying9 (jA hf 1 _ rfl [c1] (by kernel_rfl) 9 rfl x1 rfl);obtain⟨y2,rfl,-⟩:=cY Tryz.underlying40 (jA hf 2 _ rfl [c2] (by kernel_rfl) 40 rfl x2 rfl);obtain⟨y3,rfl,w3⟩:=cY Tryz.underlying52 (jA hf 3 _ rfl [c3] (by kernel_rfl) 52 rfl x3 rfl);obtain⟨y4,rfl,w4⟩:=cY Tryz.underlying52 (jA hf 4 _ rfl [c4] (by kernel_rfl) 52 rfl x4 rfl);refine⟨⟨y0,y1,y2,y3,y4⟩,⟨⟨⟨y0,hc 0 (by omega),fun _=>rfl⟩,hc 1 (by omega),hc 2 (by omega),hc 3 (by omega),hc 4 (by omega)⟩,wL w4,wL w3⟩,?_⟩;rw[hx];simp only[Rows.uptoBulk,Rows.uptoBulkAll,List.map_cons,List.map_nil];omega) h
 exact⟨l,h1.same (fun _ _ _ h=>h.1),by have:=lN (fun a:GH=>a.name.size) l;omega,fun a ha=>⟨by have:=oA (fun a:GH=>a.name.size) l a ha;omega,h1.each (fun a:GH=>Dl a.word∧Dl a.len) (fun a b q h=>h.2) a ha⟩⟩
theorem Fp (fuel:Nat) (v:Value) (y:DataW H×List MemPlace) (h:DataW.trod enc Tryz.prog w 0 (fun _=>true) true fuel 23 [v]=some y):∃l:List HH,N6 w true none l v∧l.length+1≤Rows.uptoBulk y.1∧∀a∈l,a.name.size+tA a.params+1≤Rows.uptoBulk y.1:=by
 obtain⟨l,h1,h2⟩:=gH Tryz.underlying23 J2 (by decide) (gM w true none) (fun a=>a.name.size+tA a.params) (fun n cs z b q hn hl hc ht=>by
  obtain⟨xs,m,hm,hx,_,BS,hf⟩:=DataW.trod_struct Tryz.underlying101 ht
  match cs,hl with
  | [c0,c1,c2,c3,c4],_=>
   match xs,BS with
   |[x0,x1,x2,x3,x4],_=>
    obtain⟨y0,rfl,-⟩:=cY Tryz.underlying3 (jA hf 0 _ rfl [c0] (by kernel_rfl) 3 rfl x0 rfl);obtain⟨y1,rfl,s1⟩:=iq Tryz.underlying9 (jA hf 1 _ rfl [c1] (by kernel_rfl) 9 rfl x1 rfl);obtain⟨ps,hp,hs⟩:=uS m c2 x2 (jA hf 2 _ rfl [c2] (by kernel_rfl) 39 rfl x2 rfl);obtain⟨y3,rfl,-⟩:=cY Tryz.underlying40 (jA hf 3 _ rfl [c3] (by kernel_rfl) 40 rfl x3 rfl);obtain⟨y4,rfl,-⟩:=cY Tryz.underlying52 (jA hf 4 _ rfl [c4] (by kernel_rfl) 52 rfl x4 rfl);refine⟨⟨y0,y1,ps,y3,y4⟩,⟨⟨y0,hc 0 (by omega),fun _=>rfl⟩,hc 1 (by omega),⟨c2,hc 2 (by omega),hp⟩,hc 3 (by omega),hc 4 (by omega)⟩,?_⟩;rw[hx];simp only[Rows.uptoBulk,Rows.uptoBulkAll,List.map_cons,List.map_nil];omega) h
 exact⟨l,h1,by have:=lN (fun a:HH=>a.name.size+tA a.params) l;omega,fun a ha=>by have:=oA (fun a:HH=>a.name.size+tA a.params) l a ha;omega⟩
theorem Fq (fuel:Nat) (v:Value) (y:DataW H×List MemPlace) (h:DataW.trod enc Tryz.prog w 0 (fun _=>true) true fuel 24 [v]=some y):∃l:List FH,SG w true none l v∧l.length+1≤Rows.uptoBulk y.1∧∀a∈l,a.name.size+tA a.params+a.body.wt+1≤Rows.uptoBulk y.1∧a.body.Rg:=by
 obtain⟨l,h1,h2⟩:=gH Tryz.underlying24 N4 (by decide) (fun a b q=>gN w true none a b q∧a.body.Rg) (fun a=>a.name.size+tA a.params+a.body.wt) (fun n cs z b q hn hl hc ht=>by
  obtain⟨xs,m,hm,hx,_,BS,hf⟩:=DataW.trod_struct Tryz.underlying43 ht
  match cs,hl with
  | [c0,c1,c2,c3,c4,c5],_=>
   match xs,BS with
   |[x0,x1,x2,x3,x4,x5],_=>
    obtain⟨y0,rfl,-⟩:=cY Tryz.underlying3 (jA hf 0 _ rfl [c0] (by kernel_rfl) 3 rfl x0 rfl);obtain⟨y1,rfl,s1⟩:=iq Tryz.underlying9 (jA hf 1 _ rfl [c1] (by kernel_rfl) 9 rfl x1 rfl);obtain⟨ps,hp,hs⟩:=uS m c2 x2 (jA hf 2 _ rfl [c2] (by kernel_rfl) 39 rfl x2 rfl);obtain⟨y3,rfl,-⟩:=cY Tryz.underlying40 (jA hf 3 _ rfl [c3] (by kernel_rfl) 40 rfl x3 rfl);obtain⟨y4,rfl⟩:=JY Tryz.underlying4 (jA hf 4 _ rfl [c4] (by kernel_rfl) 4 rfl x4 rfl);obtain⟨bd,hb,tD,hbg⟩:=J4 m c5 x5 (jA hf 5 _ rfl [c5] (by kernel_rfl) 41 rfl x5 rfl);refine⟨⟨y0,y1,ps,y3,y4,bd⟩,⟨⟨⟨y0,hc 0 (by omega),fun _=>rfl⟩,hc 1 (by omega),⟨c2,hc 2 (by omega),hp⟩,hc 3 (by omega),hc 4 (by omega),⟨c5,hc 5 (by omega),hb⟩⟩,hbg⟩,?_⟩;rw[hx];simp only[Rows.uptoBulk,Rows.uptoBulkAll,List.map_cons,List.map_nil];omega) h
 exact⟨l,h1.same (fun _ _ _ h=>h.1),by have:=lN (fun a:FH=>a.name.size+tA a.params+a.body.wt) l;omega,fun a ha=>⟨by have:=oA (fun a:FH=>a.name.size+tA a.params+a.body.wt) l a ha;omega,h1.each (fun a:FH=>a.body.Rg) (fun a b q h=>h.2) a ha⟩⟩
theorem Fs {base:Nat} {v:Value} {d:DataW H} {p:List MemPlace} (hval:Value.okWide Tryz.prog w .any base 26 v) (h:DataW.Trod enc Tryz.prog w 0 (fun _=>true) true 26 v d p) (hs:Rows.uptoBulk d≤1048576):∃u:UT,jR w true none u v∧(u.Ok∧u.Wf)∧∀x∈u.gs,Dl x.len:=by
 simp only[Value.okWide,Tryz.underlying26] at hval;obtain⟨cs,rfl,hsz,-⟩:=hval;obtain⟨fuel,h⟩:=h;obtain⟨xs,m,hm,hx,hl,BS,hf⟩:=DataW.trod_struct Tryz.underlying26 h;have hc3:cs.size=3:=hsz.trans (by kernel_rfl);obtain⟨cl⟩:=cs;have hl3:cl.length=3:=hc3;simp only[Value.cells] at hf
 match cl,hl3 with
 | [c0,c1,c2],_=>
  match xs,BS with
  |[x0,x1,x2],_=>
   obtain⟨gs,g1,g2,g3⟩:=Fo m c0 x0 (jA hf 0 _ rfl [c0] (by kernel_rfl) 22 rfl x0 rfl);obtain⟨hs',h1,h2,h3⟩:=Fp m c1 x1 (jA hf 1 _ rfl [c1] (by kernel_rfl) 23 rfl x1 rfl);obtain⟨fs,f1,f2,f3⟩:=Fq m c2 x2 (jA hf 2 _ rfl [c2] (by kernel_rfl) 24 rfl x2 rfl);simp only[Prod.mk.injEq] at hx;rw[hx.1] at hs;simp only[Rows.uptoBulk,Rows.uptoBulkAll,List.map_cons,List.map_nil] at hs;refine⟨⟨gs,hs',fs⟩,⟨c0,c1,c2,rfl,g1,h1,f1⟩,⟨⟨by show gs.length≤_;omega,by show hs'.length≤_;omega,by show fs.length≤_;omega,fun x hx=>by have:=(h3 x hx);have:=zj x.params;omega,fun x hx=>by have:=(f3 x hx).1;have:=zj x.params;omega,fun x hx=>by have:=(f3 x hx).1;have:=x.body.qj;omega⟩,?_⟩,fun x hx=>(g3 x hx).2.2⟩;exact⟨fun x hx=>⟨by have:=(g3 x hx).1;omega,(g3 x hx).2.1⟩,fun x hx=>⟨by have:=h3 x hx;omega,fun a ha=>by have:=h3 x hx;have:=zk x.params a ha;omega⟩,fun x hx=>⟨by have:=(f3 x hx).1;omega,fun a ha=>by have:=(f3 x hx).1;have:=zk x.params a ha;omega,aH.qm _ (by have:=(f3 x hx).1;omega) (f3 x hx).2⟩⟩
theorem mZ (fuel:Nat) (v:Value) (y:DataW H×List MemPlace) (h:DataW.trod enc Tryz.prog w 0 (fun _=>true) true fuel 27 [v]=some y):∃l:List Int,eN w l v∧(∀x∈l,U x)∧l.length+1≤Rows.uptoBulk y.1:=by
 obtain⟨l,h1,h2⟩:=gH Tryz.underlying27 N3 (by decide) (fun(a:Int) b q=>w.cell? ⟨b,q,none⟩=some (.int .u32 a)∧Dl a) (fun _=>0) (fun n cs z b q hn hl hc ht=>by
  match cs,hl with
  |[c0],_=>
   obtain⟨y0,rfl,w0⟩:=cY Tryz.underlying52 ht;exact⟨y0,⟨hc 0 (by omega),wL w0⟩,JX _⟩) h
 have h3:=h1.each (fun a:Int=>Dl a) (fun a b q h=>h.2);have h4:=lN (fun _:Int=>0) l;obtain⟨ka,kb,aD,aK,rfl,y2,y3⟩:=h1;refine⟨l,⟨ka,kb,aD,aK,rfl,y2.imp (fun q=>q.1) (fun q=>q.1),fun i hi=>by have:=(y3 i hi).1;rwa[Nat.mul_one] at this⟩,fun x hx=>h3 x hx,by omega⟩
theorem J5 {base:Nat} {v:Value} {d:DataW H} {p:List MemPlace} (hval:Value.okWide Tryz.prog w .any base 29 v) (h:DataW.Trod enc Tryz.prog w 0 (fun _=>true) true 29 v d p) (hs:Rows.uptoBulk d≤1048576):
  ∃(nm:ByteArray) (va vv vl:Value) (st mo:Int) (args values later:List Int),v=.agg #[.string nm,va,.int .i64 st,.int .i64 mo,vv,vl]∧(-9223372036854775808≤st∧st≤9223372036854775807)∧(-9223372036854775808≤mo∧mo≤9223372036854775807)∧nm.size≤1048576∧
   (eN w args va∧eN w values vv∧eN w later vl)∧((∀x∈args,U x)∧(∀x∈values,U x)∧∀x∈later,U x)∧args.length≤1048576∧values.length≤1048576∧later.length≤1048576:=by
 simp only[Value.okWide,Tryz.underlying29] at hval;obtain⟨cs,rfl,hsz,-⟩:=hval;obtain⟨fuel,h⟩:=h;obtain⟨xs,m,hm,hx,hl,BS,hf⟩:=DataW.trod_struct Tryz.underlying29 h;have hc3:cs.size=6:=hsz.trans (by kernel_rfl);obtain⟨cl⟩:=cs;have hl3:cl.length=6:=hc3;simp only[Value.cells] at hf
 match cl,hl3 with
 | [c0,c1,c2,c3,c4,c5],_=>
  match xs,BS with
  |[x0,x1,x2,x3,x4,x5],_=>
   obtain⟨nm,rfl,s0⟩:=iq Tryz.underlying9 (jA hf 0 _ rfl [c0] (by kernel_rfl) 9 rfl x0 rfl);obtain⟨args,a1,a2,a3⟩:=mZ m c1 x1 (jA hf 1 _ rfl [c1] (by kernel_rfl) 27 rfl x1 rfl);obtain⟨st,rfl,w2⟩:=cY Tryz.underlying3 (jA hf 2 _ rfl [c2] (by kernel_rfl) 3 rfl x2 rfl);obtain⟨mo,rfl,w3⟩:=cY Tryz.underlying3 (jA hf 3 _ rfl [c3] (by kernel_rfl) 3 rfl x3 rfl);obtain⟨values,b1,b2,b3⟩:=mZ m c4 x4 (jA hf 4 _ rfl [c4] (by kernel_rfl) 27 rfl x4 rfl);obtain⟨later,e1,e2,e3⟩:=mZ m c5 x5 (jA hf 5 _ rfl [c5] (by kernel_rfl) 27 rfl x5 rfl);simp only[Prod.mk.injEq] at hx;rw[hx.1] at hs;simp only[Rows.uptoBulk,Rows.uptoBulkAll,List.map_cons,List.map_nil] at hs;have i2:=wf_i64.1 w2;have i3:=wf_i64.1 w3;exact⟨nm,c1,c4,c5,st,mo,args,values,later,rfl,by omega,by omega,by omega,⟨a1,b1,e1⟩,⟨a2,b2,e2⟩,by omega,by omega,by omega⟩
end
end
end Go.Proofs.YtlabadkfkbenoaaGreatDoor
