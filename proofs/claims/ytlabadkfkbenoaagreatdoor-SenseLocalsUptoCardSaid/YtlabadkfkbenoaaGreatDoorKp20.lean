/- Walks and plain laws, merged: LarL CalP LarC LarP SevA SevB SevC CalO CalT LocN LocD LocO LocL. No condition. -/
import Derived.Deep.RegionHeld3
import Derived.Test.YtlabadkfkbenoaaGreatDoorKp01
import Derived.Test.YtlabadkfkbenoaaGreatDoorKp18
import Derived.Test.YtlabadkfkbenoaaGreatDoorKp06
import Derived.Test.YtlabadkfkbenoaaGreatDoorKp11
import Derived.Test.YtlabadkfkbenoaaGreatDoorKp17
import Derived.Test.YtlabadkfkbenoaaGreatDoorKp09
import Derived.Test.YtlabadkfkbenoaaGreatDoorKp15
import Derived.Test.YtlabadkfkbenoaaGreatDoorKp05
import Derived.Laws.ResultCell
import Derived.Test.YtlabadkfkbenoaaGreatDoorKp19
namespace Go.Proofs.YtlabadkfkbenoaaGreatDoor
open Go.RowKit
set_option linter.unusedVariables false
set_option linter.unusedSimpArgs false
set_option maxRecDepth 100000
set_option maxHeartbeats 64000000
section
open Go.Shelf
def IsB (e:Ending):Prop:=∃b,e=.returned (.bool b)
theorem isB (b:Bool):IsB (.returned (.bool b)):=⟨b,rfl⟩
theorem R7 (u:UT) (v:Value) (w:World) (ok:u.Ok) (hv:jR w false none u v):
  Calls Tryz.prog 9 #[v] w fun e w'=>IsB e∧Below w.heap.size w w':=by
 obtain⟨vg,vh,vf,rfl,hg,hh,hf⟩:=hv;obtain⟨ga,gb,go,gc,rfl,oH,tC⟩:=ei.open hg;obtain⟨ha,Ad,ho,hc,rfl,ig,vD⟩:=ei.open hh;obtain⟨fa,fb,fo,fc,rfl,mL,pN⟩:=ei.open hf;have hG:=af tC;have hH:=af vD;have hF:=af pN;have OK:=af ok;have g1:=ok.g;have g2:=ok.h;have g3:=ok.f;obtain⟨mg,iY⟩:∃m,m=u.gs.length:=⟨_,rfl⟩;obtain⟨mh,j1⟩:∃m,m=u.hs.length:=⟨_,rfl⟩;obtain⟨mf,iw⟩:∃m,m=u.fs.length:=⟨_,rfl⟩;rw[←iY] at oH g1⊢;rw[←j1] at ig g2⊢;rw[←iw] at mL g3⊢;have xJ:=af iY;have xK:=af j1;have pO:=af iw;clear hg hh hf tC vD pN ok iY j1 iw;have cG:=af (gA.new (Below.refl w.heap.size w) #[.slice ga mg gc,.slice ha mh hc,.slice fa mf fc] 26);clear hG hH;go_enter Tryz.func9,Tryz.ntmps9;go_wp2_with fail
 go_loopw [3,4] (fun s i wr=>∃(k:Nat) (m:Int),s=.int .i64 m∧ -100000000≤m∧m≤20000∧k≤mf∧i=.int .i64 k∧gA w w.heap.size #[.slice ga mg gc,.slice ha mh hc,.slice fa mf fc] 26 wr) (fun _ i _=>mf- (intOf i).toNat)
 case atStart=>exact⟨0,20000,rfl,by omega,by omega,Nat.zero_le _,rfl,cG.out⟩
 case round=>
  clear cG;obtain⟨k,m,rfl,fH,dX,hk,rfl,hX⟩:=hrel;have aB:=af hX;have hb:=af hX.below;have p0:=hX.box.cell 0;have p1:=hX.box.cell 1;have p2:=hX.box.cell 2;simp at p0 p1 p2;clear hX;by_cases hlt:k<mf
  ·by_cases tX:0<m
   ·have bH:k<u.fs.length:=by have:=pO.out;omega
    obtain⟨-,-,⟨pv,y2,pP⟩,-,-,⟨bv,y5,tJ⟩⟩:=hF.out k bH;have hbl:=af (OK.fb _ (List.getElem_mem bH));have hpl:=OK.fp _ (List.getElem_mem bH);have bG:fa=some ⟨fb,fo,none⟩:=by rcases mL with q|q;(·omega);(·exact q)
    subst bG;generalize u.fs[k]'bH=a at*;obtain⟨Cn,nm,ps,ty,op,bd⟩:=a;obtain⟨ba,bc,rfl⟩:=tJ.ay;obtain⟨pa,pc,rfl⟩:=pP.ay;simp only[] at y5 y2 hpl pP tJ;have HBL:=af (show bd.sz≤100000000 from hbl.out);have HBV:=af tJ;have Y5:=af y5;have Y2:=af y2;have hwr:IntKind.i64.wrap (m-ps.length)=m-ps.length:=IntWalk.i64_in _ (by omega);have Qf:wrap64 (m-ps.length)=m-ps.length:=by simp only[wrap64];omega
    clear mL y5 y2 tJ pP hbl p0 p1;go_wp2_with fail
    have XL:=af (aB.on (Below.refl _ _).drew);refine wp_region_held_drew (S:=(fun w9=>gA w w.heap.size #[.slice ga mg gc,.slice ha mh hc,.slice (some ⟨fb,fo,none⟩) mf fc] 26 w9)) (by kernel_rfl) XL.out (fun hHeld=>?_);generalize wr.drew=w3 at XL hHeld⊢;clear p2;refine tk 0 ?_ (hy:=by intro w' hSw;have q2:=hSw.box.cell 2;have x5:=ag Y5.out hSw.below;have x2:=ag Y2.out hSw.below;simp at q2;go_simp;(try with_reducible rfl));refine tk 1 ?_ (hy:=by intro w' hSw;have q2:=hSw.box.cell 2;have x5:=ag Y5.out hSw.below;have x2:=ag Y2.out hSw.below;simp at q2;go_simp;(try with_reducible rfl));refine tk 2 ?_ (hy:=by intro w' hSw;have q2:=hSw.box.cell 2;have x5:=ag Y5.out hSw.below;have x2:=ag Y2.out hSw.below;simp at q2;go_simp;(try with_reducible rfl));refine tk 3 ?_ (hy:=by intro w' hSw;have q2:=hSw.box.cell 2;have x5:=ag Y5.out hSw.below;have x2:=ag Y2.out hSw.below;simp at q2;go_simp;(try with_reducible rfl));refine tk 4 ?_ (hy:=by intro w' hSw;have q2:=hSw.box.cell 2;have x5:=ag Y5.out hSw.below;have x2:=ag Y2.out hSw.below;simp at q2;go_simp;(try with_reducible rfl));refine tk 5 ?_ (hy:=by intro w' hSw;have q2:=hSw.box.cell 2;have x5:=ag Y5.out hSw.below;have x2:=ag Y2.out hSw.below;simp at q2;go_simp;(try with_reducible rfl));refine tk 6 ?_ (hy:=by intro w' hSw;have q2:=hSw.box.cell 2;have x5:=ag Y5.out hSw.below;have x2:=ag Y2.out hSw.below;simp at q2;go_simp;(try with_reducible rfl));refine tk 7 ?_ (hy:=by intro w' hSw;have q2:=hSw.box.cell 2;have x5:=ag Y5.out hSw.below;have x2:=ag Y2.out hSw.below;simp at q2;go_simp;(try with_reducible rfl));refine tk 8 ?_ (hy:=by intro w' hSw;have q2:=hSw.box.cell 2;have x5:=ag Y5.out hSw.below;have x2:=ag Y2.out hSw.below;simp at q2;go_simp;(try with_reducible rfl));refine tk 9 ?_ (hy:=by intro w' hSw;have q2:=hSw.box.cell 2;have x5:=ag Y5.out hSw.below;have x2:=ag Y2.out hSw.below;simp at q2;go_simp;(try with_reducible rfl));refine tk 10 ?_ (hy:=by intro w' hSw;have q2:=hSw.box.cell 2;have x5:=ag Y5.out hSw.below;have x2:=ag Y2.out hSw.below;simp at q2;go_simp;(try with_reducible rfl));refine tk 11 ?_ (hy:=by intro w' hSw;have q2:=hSw.box.cell 2;have x5:=ag Y5.out hSw.below;have x2:=ag Y2.out hSw.below;simp at q2;go_simp;(try with_reducible rfl));refine tk 12 ?_ (hy:=by intro w' hSw;have q2:=hSw.box.cell 2;have x5:=ag Y5.out hSw.below;have x2:=ag Y2.out hSw.below;simp at q2;go_simp;(try with_reducible rfl));refine tk 13 ?_ (hy:=by intro w' hSw;have q2:=hSw.box.cell 2;have x5:=ag Y5.out hSw.below;have x2:=ag Y2.out hSw.below;simp at q2;go_simp;(try with_reducible rfl));refine tk 14 ?_ (hy:=by intro w' hSw;have q2:=hSw.box.cell 2;have x5:=ag Y5.out hSw.below;have x2:=ag Y2.out hSw.below;simp at q2;go_simp;(try with_reducible rfl));refine tr 15 fun K hK=>?_
    go_simp;go_at_call 33;refine(Nx (bd.sz+1) bd (m-ps.length) (.slice ba bd.len bc) _ (Nat.lt_succ_self _) HBL.out (by omega) (by omega) (HBV.mono hHeld.below)).mono ?_;rintro e w2 ⟨⟨m2,rfl,dX⟩,hb2⟩;have hk:=hHeld.on hb2;have Zd:=af hk;have HM2:=af dX;clear hHeld dX hb2;go_wp2_with fail
    refine hK.out _ _ hk (fun hHeld=>?_);clear hK K hk
    try simp only[bK,bL,bM,bN,bO]
    refine tk 16 ?_;refine td ?_;clear hHeld;have hm9:=HM2.out;unfold fY at hm9;go_wp2_with fail
    go_roundw
    case rel=>exact⟨k+1,m2,rfl,by omega,by omega,by omega,by go_num,Zd.out⟩
    case measure=>simp[intOf];omega
   ·go_wp2_with fail
    go_ret;exact⟨isB _,aB.below⟩
  ·go_wp2_with fail
   go_ret;exact⟨isB _,aB.below⟩
end
section
open Go.Shelf
theorem BK (b o j:Nat):(⟨b,o,none⟩:Addr).add j=⟨b,o+j,none⟩:=by
 unfold Addr.add;split
 ·rename_i h;subst h;rfl
 ·rfl
theorem wJ {w:World} {base base':Nat} {e:TypeId} {size k:Nat} {v:Value} {ys:List Value} (h:w.ownsRow base e size v k ys) (hb:base'≤base):w.ownsRow base' e size v k ys:=by
 refine⟨h.1,?_⟩;rcases h.2 with q|⟨g,cap,cur,rfl,h1,h2,h3⟩
 ·exact .inl q
 ·exact .inr ⟨g,cap,cur,rfl,Nat.le_trans hb h1,h2,h3⟩
theorem pF:∀(hd:HD) (xs:List Value) (i:Nat) (h:i<hd.length) (h2:i<xs.length),xs.length=hd.length→(eM hd xs)[i*2]? =some (.string hd[i].1)∧(eM hd xs)[i*2+1]? =some xs[i]
 |a::r,x::xs,0,_,_,_=>⟨rfl,rfl⟩
 |a::r,x::xs,i+1,h,h2,h3=>by
  have ih:=pF r xs i (by simpa using h) (by simpa using h2) (by simpa using h3);simp only[eM,List.getElem_cons_succ];rw[show(i+1)*2=i*2+2 by omega];simpa using ih
theorem JQ (B:Nat) (u:UT) (vs:VS) (cs:dM) (pl:List (ByteArray×Int)) (hd:HD) (xs:List Value) (X vb cb pb:Nat) (vg vh vf hv:Value) (w:World) (h:ik w B u vs cs pl hd xs X vb cb pb vg vh vf hv) (hn:hd.length≤1000) (hw:Hid (∀a∈hd,a.2.length≤4096)):
  Calls Tryz.prog 20 #[.pointer (some ⟨X,0,none⟩)] w fun e w'=>∃v ys,e=.returned v∧Below w.heap.size w w'∧dO w' w.heap.size hd ys v:=by
 have H:=af h;have c:=af (iK X pb w (by simpa using h.box.cell 6));obtain⟨ha,hc,rfl,hg⟩:=aP h.held.row;have p5:w.cell? ⟨X,5,none⟩=some (.slice ha hd.length hc):=by simpa using h.box.cell 5
 obtain⟨n,Le⟩:∃n,n=hd.length:=⟨_,rfl⟩;rw[←Le] at p5 hn hg;have HN:=af Le;clear h Le;go_enter Tryz.func20,Tryz.ntmps20;go_wp2_with fail
 refine c.mono ?_;rintro e w2 ⟨rfl,rfl⟩;go_wp2_with fail
 go_loopw [3,14] (fun v i wr=>∃(k:Nat) (v0:Value) (ys:List Value),v0=v∧i=.int .i64 k∧k≤n∧dO wr w2.heap.size (hd.take k) ys v0∧Below w2.heap.size w2 wr) (fun _ i _=>n- (intOf i).toNat)
 case atStart=>exact⟨0,_,[],rfl,rfl,Nat.zero_le _,⟨rfl,World.ownsRow_nil _ _ _ _,fun i h=>by simp at h,fun i h=>by simp at h,by simp⟩,Below.refl _ _⟩
 case round=>
  obtain⟨k,v0,ys,rfl,rfl,hk,hR,hB⟩:=hrel;have HR:=af hR;have HB:=af hB;by_cases hlt:k<n
  ·have dH:k<hd.length:=by have:=HN.out;omega
   have hk2:k<xs.length:=by have:=H.held.len;omega
   have hg2:∃g,ha=some ⟨g,0,none⟩:=by rcases hg with q|q;(·omega);(·exact q)
   obtain⟨g,rfl⟩:=hg2;obtain⟨e0,e1⟩:=pF hd xs k dH hk2 H.held.len;have y0:wr.cell? ⟨g,k*2,none⟩=some (.string hd[k].1):=ag (by rw[H.held.row.cellAt (k*2) (by omega)];exact e0) hB;have y1:wr.cell? ⟨g,k*2+1,none⟩=some xs[k]:=ag (by rw[H.held.row.cellAt (k*2+1) (by omega)];exact e1) hB;have hx:=H.held.rows k hk2 dH;have hp:=H.held.pos k dH;have EW:=hw.out _ (List.getElem_mem dH);generalize xs[k]=x at y1 hx;generalize hda:hd[k]=a at y0 hx hp EW;have HDA:=af hda;obtain⟨nm,ws⟩:=a;simp only[] at y0 hx hp EW;obtain⟨xa,cx,rfl,rH⟩:=aP hx;have tP:∃g,xa=some ⟨g,0,none⟩:=by rcases rH with q|q;(·omega);(·exact q)
   obtain⟨gx,rfl⟩:=tP;obtain⟨m,hm⟩:∃m,m=ws.length:=⟨_,rfl⟩;rw[←hm] at y1 hx hp EW;have HM:=af hm;have HX:=af hx;have HK:=af (show min k hd.length=k by omega);clear hR hB hx hm hda e0 e1 rH hg;go_wp2_with fail
   have zW:=af (Bx.new wr #[.string nm,.slice (some ⟨gx,0,none⟩) m cx] 82);have XM:=af (zW.on (ah (Below.refl (wr.alloc (.cells #[.string nm,.slice (some ⟨gx,0,none⟩) m cx] 82)).heap.size (wr.alloc (.cells #[.string nm,.slice (some ⟨gx,0,none⟩) m cx] 82))).drew) (by simp));have BD:Hid (Below wr.heap.size wr (wr.alloc (.cells #[.string nm,.slice (some ⟨gx,0,none⟩) m cx] 82)).drew):=af (by(repeat(first|exact Below.refl _ _|refine Below.drew ?_ |refine Below.alloc ?_ (by simp<;>omega) _)));refine wp_region_held_drew (S:=(fun w9=>Bx w9 wr.heap.size #[.string nm,.slice (some ⟨gx,0,none⟩) m cx] 82)) (by kernel_rfl) XM.out (fun hHeld=>?_);generalize (wr.alloc (.cells #[.string nm,.slice (some ⟨gx,0,none⟩) m cx] 82)).drew=w3 at XM BD hHeld⊢;have HR3:=af (HR.mono BD.out);have X3:=af (show w3.ownsRow B 52 1 (.slice (some ⟨gx,0,none⟩) m cx) m (ws.map (Value.int .u32)) from aC (aC HX.out HB.out) (BD.mono (Nat.le_refl _)));refine tk 0 ?_;refine tk 1 ?_;refine tk 2 ?_ (hy:=by intro w' hSw;have q:=hSw.cell 0;simp at q;go_simp;(try with_reducible rfl));refine tk 3 ?_;refine tk 4 ?_ (hy:=by intro w' hSw;have q:=hSw.cell 1;simp at q;go_simp;(try with_reducible rfl));refine tr 5 fun K hK=>?_
   go_simp;go_at_call 45;refine(L8 (some ⟨gx,0,none⟩) m cx (ws.map (Value.int .u32)) w3 (by simp[HM.out]) (af (.inr ⟨⟨gx,0,none⟩,rfl,fun j q hj=>by rw[show(⟨gx,0,none⟩:Addr).add j=⟨gx,j,none⟩ by rw[BK];simp];rw[X3.cellAt j (by obtain⟨q9,-⟩:=List.getElem?_eq_some_iff.1 hj;simp at q9;have:=HM.out;omega)];exact hj⟩)) (af (by simp[Value.oneCell'])) (by omega)).mono ?_;rintro e w4 ⟨v4,rfl,hrow,hb4⟩;have hk:=hHeld.on (ah hb4) (by simp);have R4:=af hrow;have BD4:=af (BD.trans (hb4.mono BD.size));have S4:=af hb4.size;have HR4:=af (HR3.mono hb4);have H54:=af hk;obtain⟨na,nc,rfl,hna⟩:=aP hrow;have hna2:∃g,na=some ⟨g,0,none⟩:=by rcases hna with q|q;(·omega);(·exact q)
   obtain⟨g5,rfl⟩:=hna2;clear hHeld hrow hb4 hna;go_wp2_with fail
   refine hK.out _ _ hk (fun hHeld=>?_);clear hK K hk
   try simp only[bK,bL,bM,bN,bO]
   refine tk 6 ?_;refine tr 7 fun K hK=>?_
   go_simp;refine hK.out _ _ (H54.al _) (fun hHeld=>?_);clear hK K
   try simp only[bK,bL,bM,bN,bO]
   refine tr 8 fun K hK=>?_
   refine dg rfl _ _ 61 rfl w2.heap.size 82 82 (.agg #[.string ⟨#[]⟩,.slice none 0 0]) 2 40 1 Tryz.underlying61 (by kernel_rfl) rfl (by decide) v0 k (eM (hd.take k) ys) [.string nm,.slice (some ⟨g5,0,none⟩) m nc] (0,0) (by have:=HR4.row;simpa[List.length_take,HK.out] using this) rfl (by simp[Value.oneCell']) (by unfold maxLen;omega) (by omega) (by have:=BD4.size;have:=HB.size;omega) rfl rfl ?_;intro v' w5 hA;have FN:=af hA;have H5:=af ((H54.out).on hA.grown (fun e=>by have:=(HR.row.lt _ e.symm).2;omega));clear hA;refine hK.out _ _ H5.out (fun hHeld=>?_);clear hK K
   try simp only[bK,bL,bM,bN,bO]
   refine tk 9 ?_;refine td ?_;clear hHeld;have NEW:=af (HR4.add (wJ (base':=w2.heap.size) (by have h9:=R4.out;rw[HM.out] at h9;exact h9) (by have q1:=BD.size;have q2:=HB.size;omega)) (by have:=HM.out;omega) (fun y hy e=>by obtain⟨i,hi,rfl⟩:=List.getElem_of_mem hy;have q1:=HR3.rows i hi (by have:=HR3.len;omega);have q2:=(q1.lt g5 e).2;have q3:=(R4.lt g5 rfl).1;omega) (by have:=FN.out;simpa[List.length_take,HK.out,HM.out] using this));have HT:=af (show hd.take k++[(nm,ws)]=hd.take (k+1) by rw[←HDA.out];exact(List.take_append_getElem dH));rw[HT.out] at NEW;have BD5:=af (HB.trans ((BD4.mono (Nat.le_refl _)).mono HB.size));have BD6:=af (BD5.grown FN.grown BD5.size (fun q e=>(HR4.row.lt q e).1));go_wp2_with fail
   go_roundw
   case rel=>exact⟨k+1,_,_,rfl,by go_num,by omega,NEW.out,BD6.out⟩
   case measure=>simp[intOf];omega
  ·obtain rfl:k=n:=by omega
   rw[HN.out,List.take_length] at HR;clear hR hB;go_wp2_with fail
   go_ret;exact⟨_,_,rfl,HB.out,HR.out⟩
end
section
open Go.Shelf
def Zr (w:World) (e:Ev) (b q:Nat):Prop:=
 ∃va,w.cell? ⟨b,q,none⟩=some (.int .u32 0)∧w.cell? ⟨b,q+1,none⟩=some (.int .u32 e.number)∧w.cell? ⟨b,q+2,none⟩=some va∧w.cell? ⟨b,q+3,none⟩=some (.int .u32 e.value)∧eN w e.args va
def Fi (w:World) (evs:List Ev) (v:Value):Prop:=∃a b o c,v=.slice a evs.length c∧(evs.length=0∨a=some ⟨b,o,none⟩)∧∀i (h:i<evs.length),Zr w evs[i] b (o+i*4)
theorem Zr.below {w w':World} {e:Ev} {b q:Nat} (h:Zr w e b q) (hb:Below w.heap.size w w'):Zr w' e b q:=by
 obtain⟨va,h0,h1,h2,h3,h4⟩:=h;exact⟨va,ag h0 hb,ag h1 hb,ag h2 hb,ag h3 hb,h4.below hb⟩
theorem Fi.below {w w':World} {evs:List Ev} {v:Value} (h:Fi w evs v) (hb:Below w.heap.size w w'):Fi w' evs v:=by
 obtain⟨a,b,o,c,h1,h2,h3⟩:=h;exact⟨a,b,o,c,h1,h2,fun i hi=>(h3 i hi).below hb⟩
theorem sY:∀(evs:List Ev) (eZ:List Value) (ats:List j4) (i:Nat) (h:i<evs.length) (h2:i<eZ.length),eZ.length=evs.length→ats.length=evs.length→
  (eD evs eZ ats)[i*4]? =some (.int .u32 0)∧(eD evs eZ ats)[i*4+1]? =some (.int .u32 evs[i].number)∧(eD evs eZ ats)[i*4+2]? =some eZ[i]∧(eD evs eZ ats)[i*4+3]? =some (.int .u32 evs[i].value)
 |a::r,v::vs,t::ts,0,_,_,_,_=>⟨rfl,rfl,rfl,rfl⟩
 |a::r,v::vs,t::ts,i+1,h,h2,h3,h4=>by
  have ih:=sY r vs ts i (by simpa using h) (by simpa using h2) (by simpa using h3) (by simpa using h4);simp only[eD,List.getElem_cons_succ];rw[show(i+1)*4=i*4+4 by omega];simpa using ih
 |_::_,v::vs,[],i,h,h2,h3,h4=>by simp at h4
theorem uA.reads {w:World} {n:Nat} {evs:List Ev} {eZ:List Value} {ats:List j4} {ve:Value} (h:uA w n evs eZ ats ve):Fi w evs ve:=by
 have hr:=h.row;rcases h.row.2 with⟨rfl,h0⟩|⟨g,cap,cur,rfl,_⟩
 ·exact⟨none,0,0,0,by rw[h0],.inl h0,fun i hi=>by omega⟩
 ·refine⟨_,g,0,cap,rfl,.inr rfl,fun i hi=>?_⟩;have hv:i<eZ.length:=by have:=h.len;omega
  obtain⟨e0,e1,e2,e3⟩:=sY evs eZ ats i hi hv h.len h.at_;rw[Nat.zero_add];refine⟨eZ[i],?_,?_,?_,?_,eN.of (h.args i hv hi) rfl⟩
  ·rw[hr.cellAt (i*4) (by omega)];exact e0
  ·rw[hr.cellAt (i*4+1) (by omega)];exact e1
  ·rw[hr.cellAt (i*4+2) (by omega)];exact e2
  ·rw[hr.cellAt (i*4+3) (by omega)];exact e3
theorem Fi.take {w:World} {evs l:List Ev} {a:Option Addr} {c:Nat} (h:Fi w (evs++l) (.slice a (evs++l).length c)):Fi w evs (.slice a evs.length c):=by
 obtain⟨a',b,o,c',h1,h2,h3⟩:=h;cases h1;refine⟨a,b,o,c,rfl,?_,fun i hi=>?_⟩
 ·rcases h2 with q|q
  ·left;simp at q;simp[q.1]
  ·exact .inr q
 ·have:=h3 i (by simp;omega);rwa[List.getElem_append_left hi] at this
theorem yY (e:Ev) (va vb:Value) (w:World) (ha:eN w e.args va) (hb:eN w e.args vb) (hl:e.args.length≤9223372036854775807):
  Calls Tryz.prog 47 #[.agg #[.int .u32 0,.int .u32 e.number,va,.int .u32 e.value],.agg #[.int .u32 0,.int .u32 e.number,vb,.int .u32 e.value]] w fun r w'=>r=.returned (.bool true)∧Below w.heap.size w w':=by
 have hb0:Below w.heap.size w ((w.alloc (.cells #[.int .u32 0,.int .u32 e.number,va,.int .u32 e.value] 127)).alloc (.cells #[.int .u32 0,.int .u32 e.number,vb,.int .u32 e.value] 127)):=by(repeat(first|exact Below.refl _ _|refine Below.drew ?_ |refine Below.alloc ?_ (by simp<;>omega) _))
 have c:=af (qi e.args va vb _ (ha.below hb0) (hb.below hb0) hl);have HB:=af hb0;obtain⟨aa,ab,ao,ac,rfl,ha2,Bq⟩:=ha;obtain⟨ba,bb,bo,bc,rfl,hb2,hb3⟩:=hb;clear ha2 Bq hb2 hb3 hb0;go_enter Tryz.func47,Tryz.ntmps47;go_wp2_with fail
 refine c.mono ?_;rintro r w2 ⟨rfl,hb2⟩;have pU:=af (HB.trans (hb2.mono HB.size));clear hb2 c;go_wp2_with fail
 go_ret;exact⟨rfl,pU.out⟩
theorem wK (evs:List Ev) (va vb:Value) (w:World) (ha:Fi w evs va) (hb:Fi w evs vb) (hl:evs.length≤1000000000) (XO:Hid (∀e∈evs,e.args.length≤9223372036854775807)):Calls Tryz.prog 23 #[va,vb] w fun e w'=>e=.returned (.bool true)∧Below w.heap.size w w':=by
 obtain⟨aa,ab,ao,ac,rfl,ha2,Bq⟩:=ha;obtain⟨ba,bb,bo,bc,rfl,hb2,hb3⟩:=hb;have HA:=af Bq;have HB:=af hb3;obtain⟨len,hlen⟩:∃m,m=evs.length:=⟨_,rfl⟩;rw[←hlen] at ha2 hb2 hl⊢;have bq:=af hlen;clear Bq hb3 hlen;go_enter Tryz.func23,Tryz.ntmps23;go_wp2_with fail
 go_loopw [4,5] (fun z i wr=>∃(k:Nat),z=.bool false∧k≤len∧i=.int .i64 k∧Below w.heap.size w wr) (fun _ i _=>len- (intOf i).toNat)
 case atStart=>exact⟨0,rfl,Nat.zero_le _,rfl,Below.refl _ _⟩
 case round=>
  obtain⟨k,rfl,hk,rfl,hb⟩:=hrel;have fB:=af hb;by_cases oB:k<len
  ·have hk2:k<evs.length:=by have:=bq.out;omega
   obtain⟨v1,x0,x1,x2,x3,x4⟩:=(HA.out k hk2).below hb;obtain⟨v2,y0,y1,y2,y3,y4⟩:=(HB.out k hk2).below hb;have Rp:=af (XO.out _ (List.getElem_mem hk2));have e1:aa=some ⟨ab,ao,none⟩:=by rcases ha2 with q|q;(·omega);(·exact q)
   have e2:ba=some ⟨bb,bo,none⟩:=by rcases hb2 with q|q;(·omega);(·exact q)
   subst e1;subst e2;generalize evs[k]=ev at*;have X0:=af x0;have X1:=af x1;have X2:=af x2;have X3:=af x3;have XA:=af x4;have Y0:=af y0;have Y1:=af y1;have Y2:=af y2;have Y3:=af y3;have YA:=af y4;clear hb ha2 hb2 x0 x1 x2 x3 x4 y0 y1 y2 y3 y4;go_wp2_with fail
   have BD:=af (Below.refl wr.heap.size wr).drew;refine wp_region_held_drew (S:=(fun w9=>Below wr.heap.size wr w9)) (by kernel_rfl) BD.out (fun hHeld=>?_);generalize wr.drew=w3 at BD hHeld⊢;refine tk 0 ?_;refine tk 1 ?_;refine tk 2 ?_;refine tk 3 ?_ (hy:=by intro w' hSw;have z0:=ag X0.out hSw;have z1:=ag X1.out hSw;have z2:=ag X2.out hSw;have z3:=ag X3.out hSw;go_simp;(try with_reducible rfl));refine tk 4 ?_;refine tk 5 ?_;refine tk 6 ?_;refine tk 7 ?_ (hy:=by intro w' hSw;have z0:=ag Y0.out hSw;have z1:=ag Y1.out hSw;have z2:=ag Y2.out hSw;have z3:=ag Y3.out hSw;go_simp;(try with_reducible rfl));refine tr 8 fun K hK=>?_
   go_simp;go_at_call 47;refine(yY ev _ _ w3 (XA.below BD.out) (YA.below BD.out) Rp.out).mono ?_;rintro e w2 ⟨rfl,hb2⟩;have hk:=hHeld.trans (hb2.mono hHeld.size);have BD2:=af hk;clear hHeld hb2;go_wp2_with fail
   refine hK.out _ _ hk (fun hHeld=>?_);clear hK K hk
   try simp only[bK,bL,bM,bN,bO]
   refine tk 9 ?_;refine td ?_;clear hHeld;go_wp2_with fail
   go_roundw
   case rel=>exact⟨k+1,rfl,by omega,by go_num,fB.trans (BD2.mono fB.size)⟩
   case measure=>simp[intOf];omega
  ·obtain rfl:k=len:=by omega
   clear hb;go_wp2_with fail
   go_ret;exact⟨rfl,fB.out⟩
theorem yZ (evs:List Ev) (va vb:Value) (en x fa st rp:Int) (w:World) (ha:Fi w evs va) (hb:Fi w evs vb) (hl:evs.length≤1000000000) (XO:Hid (∀e∈evs,e.args.length≤9223372036854775807)):
  Calls Tryz.prog 18 #[.agg #[.int .u8 en,.int .u32 x,.int .u8 fa,.int .i64 st,.int .i64 rp,va],.agg #[.int .u8 en,.int .u32 x,.int .u8 fa,.int .i64 st,.int .i64 rp,vb]] w fun e w'=>e=.returned (.bool true)∧Below w.heap.size w w':=by
 have hb0:Below w.heap.size w ((w.alloc (.cells #[.int .u8 en,.int .u32 x,.int .u8 fa,.int .i64 st,.int .i64 rp,va] 56)).alloc (.cells #[.int .u8 en,.int .u32 x,.int .u8 fa,.int .i64 st,.int .i64 rp,vb] 56)):=by(repeat(first|exact Below.refl _ _|refine Below.drew ?_ |refine Below.alloc ?_ (by simp<;>omega) _))
 have c:=af (wK evs va vb _ (ha.below hb0) (hb.below hb0) hl XO);have HB:=af hb0;obtain⟨aa,ab,ao,ac,rfl,ha2,Bq⟩:=ha;obtain⟨ba,bb,bo,bc,rfl,hb2,hb3⟩:=hb;clear ha2 Bq hb2 hb3 hb0;go_enter Tryz.func18,Tryz.ntmps18;go_wp2_with fail
 refine c.mono ?_;rintro r w2 ⟨rfl,hb2⟩;have pU:=af (HB.trans (hb2.mono HB.size));clear hb2 c;go_wp2_with fail
 go_ret;exact⟨rfl,pU.out⟩
def HdI (w:World) (a:ByteArray×List Int) (b q:Nat):Prop:=∃va,w.cell? ⟨b,q,none⟩=some (.string a.1)∧w.cell? ⟨b,q+1,none⟩=some va∧eN w a.2 va
def HdC (w:World) (hd:HD) (v:Value):Prop:=∃a b o c,v=.slice a hd.length c∧(hd.length=0∨a=some ⟨b,o,none⟩)∧∀i (h:i<hd.length),HdI w hd[i] b (o+i*2)
theorem dO.reads {w:World} {B:Nat} {hd:HD} {xs:List Value} {v:Value} (h:dO w B hd xs v):HdC w hd v:=by
 have hr:=h.row;rcases h.row.2 with⟨rfl,h0⟩|⟨g,cap,cur,rfl,_⟩
 ·exact⟨none,0,0,0,by rw[h0],.inl h0,fun i hi=>by omega⟩
 ·refine⟨_,g,0,cap,rfl,.inr rfl,fun i hi=>?_⟩;have hv:i<xs.length:=by have:=h.len;omega
  obtain⟨e0,e1⟩:=pF hd xs i hi hv h.len;rw[Nat.zero_add];refine⟨xs[i],?_,?_,eN.of (h.rows i hv hi) rfl⟩
  ·rw[hr.cellAt (i*2) (by omega)];exact e0
  ·rw[hr.cellAt (i*2+1) (by omega)];exact e1
theorem BL (hd:HD) (va vb:Value) (w:World) (ha:HdC w hd va) (hb:HdC w hd vb) (hl:hd.length≤1000000000) (XO:Hid (∀a∈hd,a.2.length≤1000000000)):Calls Tryz.prog 19 #[va,vb] w fun e w'=>e=.returned (.bool true)∧Below w.heap.size w w':=by
 obtain⟨aa,ab,ao,ac,rfl,ha2,Bq⟩:=ha;obtain⟨ba,bb,bo,bc,rfl,hb2,hb3⟩:=hb;have HA:=af Bq;have HB:=af hb3;obtain⟨len,hlen⟩:∃m,m=hd.length:=⟨_,rfl⟩;rw[←hlen] at ha2 hb2 hl⊢;have bq:=af hlen;clear Bq hb3 hlen;go_enter Tryz.func19,Tryz.ntmps19;go_wp2_with fail
 go_loopw [4,5] (fun z i wr=>∃(k:Nat),z=.bool false∧k≤len∧i=.int .i64 k∧Below w.heap.size w wr) (fun _ i _=>len- (intOf i).toNat)
 case atStart=>exact⟨0,rfl,Nat.zero_le _,rfl,Below.refl _ _⟩
 case round=>
  obtain⟨k,rfl,hk,rfl,hb⟩:=hrel;have fB:=af hb;by_cases oB:k<len
  ·have hk2:k<hd.length:=by have:=bq.out;omega
   obtain⟨v1,x0,x1,x4⟩:=HA.out k hk2;obtain⟨v2,y0,y1,y4⟩:=HB.out k hk2;have Rp:=af (XO.out _ (List.getElem_mem hk2));have e1:aa=some ⟨ab,ao,none⟩:=by rcases ha2 with q|q;(·omega);(·exact q)
   have e2:ba=some ⟨bb,bo,none⟩:=by rcases hb2 with q|q;(·omega);(·exact q)
   subst e1;subst e2;generalize hd[k]=a at*;obtain⟨nm,ws⟩:=a;have X0:=af (ag x0 hb);have X1:=af (ag x1 hb);have XA:=af (x4.below hb);have Y0:=af (ag y0 hb);have Y1:=af (ag y1 hb);have YA:=af (y4.below hb);obtain⟨v1a,v1b,v1o,v1c,rfl,-,-⟩:=x4;obtain⟨v2a,v2b,v2o,v2c,rfl,-,-⟩:=y4;simp only[] at X0 X1 XA Y0 Y1 YA Rp;clear hb ha2 hb2 x0 x1 y0 y1;go_wp2_with fail
   have BD:=af (Below.refl wr.heap.size wr).drew;refine wp_region_held_drew (S:=(fun w9=>Below wr.heap.size wr w9)) (by kernel_rfl) BD.out (fun hHeld=>?_);generalize wr.drew=w3 at BD hHeld⊢;refine tk 0 ?_;refine tk 1 ?_;refine tk 2 ?_;refine tk 3 ?_;refine tk 4 ?_ (hy:=by intro w' hSw;have z0:=ag X0.out hSw;go_simp;(try with_reducible rfl));refine tk 5 ?_;refine tk 6 ?_;refine tk 7 ?_;refine tk 8 ?_;refine tk 9 ?_ (hy:=by intro w' hSw;have z0:=ag Y0.out hSw;go_simp;(try with_reducible rfl));refine tk 10 ?_;refine tk 11 ?_;refine tk 12 ?_;refine tk 13 ?_;refine tk 14 ?_;refine tk 15 ?_;refine tk 16 ?_ (hy:=by intro w' hSw;have z0:=ag X1.out hSw;go_simp;(try with_reducible rfl));refine tk 17 ?_;refine tk 18 ?_;refine tk 19 ?_;refine tk 20 ?_;refine tk 21 ?_ (hy:=by intro w' hSw;have z0:=ag Y1.out hSw;go_simp;(try with_reducible rfl));refine tr 22 fun K hK=>?_
   go_simp;go_at_call 44;refine(qi ws _ _ w3 (XA.below BD.out) (YA.below BD.out) (by have:=Rp.out;omega)).mono ?_;rintro e w2 ⟨rfl,hb2⟩;have hk:=hHeld.trans (hb2.mono hHeld.size);have BD2:=af hk;clear hHeld hb2;go_wp2_with fail
   refine hK.out _ _ hk (fun hHeld=>?_);clear hK K hk
   try simp only[bK,bL,bM,bN,bO]
   refine tk 23 ?_;refine tk 24 ?_;refine td ?_;clear hHeld;go_wp2_with fail
   go_roundw
   case rel=>exact⟨k+1,rfl,by omega,by go_num,fB.trans (BD2.mono fB.size)⟩
   case measure=>simp[intOf];omega
  ·obtain rfl:k=len:=by omega
   clear hb;go_wp2_with fail
   go_ret;exact⟨rfl,fB.out⟩
end
section
open Go.Shelf
def mA (n:Int):Int:=if n.tmod 4000<0 then n.tmod 4000+4000 else n.tmod 4000
theorem Dc (n:Int): -4000<n.tmod 4000∧n.tmod 4000<4000:=
 ⟨Int.lt_tmod_of_pos n (by decide),Int.tmod_lt_of_pos n (by decide)⟩
theorem y8 (n:Int):0≤mA n∧mA n<4000:=by
 have h:=Dc n;unfold mA;split<;>omega
theorem R8 (n:Int) (w:World):Calls Tryz.prog 12 #[.int .i64 n,.int .i64 4000] w fun e w'=>e=.returned (.int .i64 (mA n))∧w'=w:=by
 have h:=Dc n;by_cases hc:n.tmod 4000<0
 ·have hv:mA n=n.tmod 4000+4000:=by unfold mA;rw[if_pos hc]
  have hw:wrap64 (n.tmod 4000+4000)=n.tmod 4000+4000:=by simp only[wrap64];omega
  rw[hv];go_enter Tryz.func12,Tryz.ntmps12;go_wp2_with fail
  go_ret;exact⟨by first|rfl|rw[hw],rfl⟩
 ·have hv:mA n=n.tmod 4000:=by unfold mA;rw[if_neg hc]
  have hc2:0≤n.tmod 4000:=by omega
  rw[hv];go_enter Tryz.func12,Tryz.ntmps12;go_wp2_with fail
  go_ret;exact⟨rfl,rfl⟩
end
section
open Go.Shelf
def u7:UT:=⟨[],[],[⟨0,⟨#[102]⟩,[],1,false,.cons ⟨0,8,⟨#[]⟩,0,⟨#[]⟩⟩ (.cons ⟨0,1,7,0,⟨#[]⟩,⟨#[]⟩⟩ .nil .nil) .nil .nil .nil⟩]⟩
theorem Bx.Pk {w:World} {q:Nat} {cs:Array Value} {t:TypeId} (h:Bx w q cs t) (o:Obj):Bx (w.alloc o) q cs t:=h.on (ah (by(repeat(first|exact Below.refl _ _|refine Below.drew ?_ |refine Below.alloc ?_ (by simp<;>omega) _)))) (by simp)
theorem XP {w:World} {n1 n3 n4:Nat} {t1 t3 t4:TypeId}
  (h1:Bx w n1 #[.int .i64 0,.int .u8 1,.int .u32 7,.int .u8 0,.string ⟨#[]⟩,.string ⟨#[]⟩,.slice none 0 0] t1)
  (h3:Bx w n3 #[.int .i64 0,.int .u8 8,.string ⟨#[]⟩,.int .u8 0,.string ⟨#[]⟩,.slice (some ⟨n1,0,none⟩) 1 1,.slice none 0 0,.slice none 0 0] t3)
  (h4:Bx w n4 #[.int .i64 0,.string ⟨#[102]⟩,.slice none 0 0,.int .u8 1,.bool false,.slice (some ⟨n3,0,none⟩) 1 1] t4):
  jR w false none u7 (.agg #[.slice none 0 0,.slice none 0 0,.slice (some ⟨n4,0,none⟩) 1 1]):=by
 have e0:dI w false none .nil (.slice none 0 0):=⟨none,0,0,0,rfl,.inl ⟨rfl,rfl⟩,trivial⟩;have s0:dR w false none .nil (.slice none 0 0):=⟨none,0,0,0,rfl,.inl ⟨rfl,rfl⟩,trivial⟩;have p0:dE w none [] (.slice none 0 0):=⟨none,0,0,0,rfl,.inl ⟨rfl,rfl⟩,fun i hi=>by simp at hi⟩;have e1:dI w false none (.cons ⟨0,1,7,0,⟨#[]⟩,⟨#[]⟩⟩ .nil .nil) (.slice (some ⟨n1,0,none⟩) 1 1):=
  ⟨_,n1,0,1,rfl,.inr ⟨rfl,eP.any⟩,bw.mk ⟨⟨0,by simpa using h1.cell 0,fun q=>by cases q⟩,by simpa using h1.cell 1,by simpa using h1.cell 2,by simpa using h1.cell 3,by simpa using h1.cell 4,by simpa using h1.cell 5⟩ (by simpa using h1.cell 6) e0 trivial⟩
 have s1:dR w false none (.cons ⟨0,8,⟨#[]⟩,0,⟨#[]⟩⟩ (.cons ⟨0,1,7,0,⟨#[]⟩,⟨#[]⟩⟩ .nil .nil) .nil .nil .nil) (.slice (some ⟨n3,0,none⟩) 1 1):=
  ⟨_,n3,0,1,rfl,.inr ⟨rfl,eP.any⟩,bC.mk ⟨⟨0,by simpa using h3.cell 0,fun q=>by cases q⟩,by simpa using h3.cell 1,by simpa using h3.cell 2,by simpa using h3.cell 3,by simpa using h3.cell 4⟩ (by simpa using h3.cell 5) e1 (by simpa using h3.cell 6) s0 (by simpa using h3.cell 7) s0 trivial⟩
 refine⟨_,_,_,rfl,⟨none,0,0,0,rfl,.inl ⟨rfl,rfl⟩,fun i hi=>by simp[u7] at hi⟩,⟨none,0,0,0,rfl,.inl ⟨rfl,rfl⟩,fun i hi=>by simp[u7] at hi⟩,⟨_,n4,0,1,rfl,.inr ⟨rfl,eP.any⟩,fun i hi=>?_⟩⟩;obtain rfl:i=0:=by simp[u7] at hi;omega
 exact⟨⟨0,by simpa using h4.cell 0,fun q=>by cases q⟩,by simpa[u7] using h4.cell 1,⟨_,by simpa using h4.cell 2,p0⟩,by simpa[u7] using h4.cell 3,by simpa[u7] using h4.cell 4,⟨_,by simpa using h4.cell 5,s1⟩⟩
theorem Dd (w:World):Calls Tryz.prog 32 #[] w fun e w'=>∃v,e=.returned v∧jR w' false none u7 v∧Below w.heap.size w w':=by
 go_enter Tryz.func32,Tryz.ntmps32;go_wp2_with fail
 have h0:Bx (((((w.alloc (.cells #[.slice none 0 0,.slice none 0 0,.slice (some ⟨w.heap.size+1+1+1+1,0,none⟩) 1 1] 26)).alloc (.cells #[.int .i64 0,.int .u8 1,.int .u32 7,.int .u8 0,.string ⟨#[]⟩,.string ⟨#[]⟩,.slice none 0 0] 134)).alloc (.cells #[.int .i64 0,.int .u8 8,.string ⟨#[]⟩,.int .u8 0,.string ⟨#[]⟩,.slice (some ⟨w.heap.size+1,0,none⟩) 1 1,.slice none 0 0,.slice none 0 0] 109)).alloc (.cells #[.int .i64 0,.int .u8 8,.string ⟨#[]⟩,.int .u8 0,.string ⟨#[]⟩,.slice (some ⟨w.heap.size+1,0,none⟩) 1 1,.slice none 0 0,.slice none 0 0] 109)).alloc (.cells #[.int .i64 0,.string ⟨#[102]⟩,.slice none 0 0,.int .u8 1,.bool false,.slice (some ⟨w.heap.size+1+1+1,0,none⟩) 1 1] 43)) w.heap.size #[.slice none 0 0,.slice none 0 0,.slice (some ⟨w.heap.size+1+1+1+1,0,none⟩) 1 1] 26:=((((Bx.new w _ 26).Pk _).Pk _).Pk _).Pk _;have h1:Bx (((((w.alloc (.cells #[.slice none 0 0,.slice none 0 0,.slice (some ⟨w.heap.size+1+1+1+1,0,none⟩) 1 1] 26)).alloc (.cells #[.int .i64 0,.int .u8 1,.int .u32 7,.int .u8 0,.string ⟨#[]⟩,.string ⟨#[]⟩,.slice none 0 0] 134)).alloc (.cells #[.int .i64 0,.int .u8 8,.string ⟨#[]⟩,.int .u8 0,.string ⟨#[]⟩,.slice (some ⟨w.heap.size+1,0,none⟩) 1 1,.slice none 0 0,.slice none 0 0] 109)).alloc (.cells #[.int .i64 0,.int .u8 8,.string ⟨#[]⟩,.int .u8 0,.string ⟨#[]⟩,.slice (some ⟨w.heap.size+1,0,none⟩) 1 1,.slice none 0 0,.slice none 0 0] 109)).alloc (.cells #[.int .i64 0,.string ⟨#[102]⟩,.slice none 0 0,.int .u8 1,.bool false,.slice (some ⟨w.heap.size+1+1+1,0,none⟩) 1 1] 43)) (w.heap.size+1) #[.int .i64 0,.int .u8 1,.int .u32 7,.int .u8 0,.string ⟨#[]⟩,.string ⟨#[]⟩,.slice none 0 0] 134:=by simpa using(((Bx.new (w.alloc (.cells #[.slice none 0 0,.slice none 0 0,.slice (some ⟨w.heap.size+1+1+1+1,0,none⟩) 1 1] 26)) #[.int .i64 0,.int .u8 1,.int .u32 7,.int .u8 0,.string ⟨#[]⟩,.string ⟨#[]⟩,.slice none 0 0] 134).Pk _).Pk _).Pk _
 have h3:Bx (((((w.alloc (.cells #[.slice none 0 0,.slice none 0 0,.slice (some ⟨w.heap.size+1+1+1+1,0,none⟩) 1 1] 26)).alloc (.cells #[.int .i64 0,.int .u8 1,.int .u32 7,.int .u8 0,.string ⟨#[]⟩,.string ⟨#[]⟩,.slice none 0 0] 134)).alloc (.cells #[.int .i64 0,.int .u8 8,.string ⟨#[]⟩,.int .u8 0,.string ⟨#[]⟩,.slice (some ⟨w.heap.size+1,0,none⟩) 1 1,.slice none 0 0,.slice none 0 0] 109)).alloc (.cells #[.int .i64 0,.int .u8 8,.string ⟨#[]⟩,.int .u8 0,.string ⟨#[]⟩,.slice (some ⟨w.heap.size+1,0,none⟩) 1 1,.slice none 0 0,.slice none 0 0] 109)).alloc (.cells #[.int .i64 0,.string ⟨#[102]⟩,.slice none 0 0,.int .u8 1,.bool false,.slice (some ⟨w.heap.size+1+1+1,0,none⟩) 1 1] 43)) (w.heap.size+1+1+1) #[.int .i64 0,.int .u8 8,.string ⟨#[]⟩,.int .u8 0,.string ⟨#[]⟩,.slice (some ⟨w.heap.size+1,0,none⟩) 1 1,.slice none 0 0,.slice none 0 0] 109:=by simpa using(Bx.new (((w.alloc (.cells #[.slice none 0 0,.slice none 0 0,.slice (some ⟨w.heap.size+1+1+1+1,0,none⟩) 1 1] 26)).alloc (.cells #[.int .i64 0,.int .u8 1,.int .u32 7,.int .u8 0,.string ⟨#[]⟩,.string ⟨#[]⟩,.slice none 0 0] 134)).alloc (.cells #[.int .i64 0,.int .u8 8,.string ⟨#[]⟩,.int .u8 0,.string ⟨#[]⟩,.slice (some ⟨w.heap.size+1,0,none⟩) 1 1,.slice none 0 0,.slice none 0 0] 109)) #[.int .i64 0,.int .u8 8,.string ⟨#[]⟩,.int .u8 0,.string ⟨#[]⟩,.slice (some ⟨w.heap.size+1,0,none⟩) 1 1,.slice none 0 0,.slice none 0 0] 109).Pk _
 have h4:Bx (((((w.alloc (.cells #[.slice none 0 0,.slice none 0 0,.slice (some ⟨w.heap.size+1+1+1+1,0,none⟩) 1 1] 26)).alloc (.cells #[.int .i64 0,.int .u8 1,.int .u32 7,.int .u8 0,.string ⟨#[]⟩,.string ⟨#[]⟩,.slice none 0 0] 134)).alloc (.cells #[.int .i64 0,.int .u8 8,.string ⟨#[]⟩,.int .u8 0,.string ⟨#[]⟩,.slice (some ⟨w.heap.size+1,0,none⟩) 1 1,.slice none 0 0,.slice none 0 0] 109)).alloc (.cells #[.int .i64 0,.int .u8 8,.string ⟨#[]⟩,.int .u8 0,.string ⟨#[]⟩,.slice (some ⟨w.heap.size+1,0,none⟩) 1 1,.slice none 0 0,.slice none 0 0] 109)).alloc (.cells #[.int .i64 0,.string ⟨#[102]⟩,.slice none 0 0,.int .u8 1,.bool false,.slice (some ⟨w.heap.size+1+1+1,0,none⟩) 1 1] 43)) (w.heap.size+1+1+1+1) #[.int .i64 0,.string ⟨#[102]⟩,.slice none 0 0,.int .u8 1,.bool false,.slice (some ⟨w.heap.size+1+1+1,0,none⟩) 1 1] 43:=by simpa using Bx.new ((((w.alloc (.cells #[.slice none 0 0,.slice none 0 0,.slice (some ⟨w.heap.size+1+1+1+1,0,none⟩) 1 1] 26)).alloc (.cells #[.int .i64 0,.int .u8 1,.int .u32 7,.int .u8 0,.string ⟨#[]⟩,.string ⟨#[]⟩,.slice none 0 0] 134)).alloc (.cells #[.int .i64 0,.int .u8 8,.string ⟨#[]⟩,.int .u8 0,.string ⟨#[]⟩,.slice (some ⟨w.heap.size+1,0,none⟩) 1 1,.slice none 0 0,.slice none 0 0] 109)).alloc (.cells #[.int .i64 0,.int .u8 8,.string ⟨#[]⟩,.int .u8 0,.string ⟨#[]⟩,.slice (some ⟨w.heap.size+1,0,none⟩) 1 1,.slice none 0 0,.slice none 0 0] 109)) #[.int .i64 0,.string ⟨#[102]⟩,.slice none 0 0,.int .u8 1,.bool false,.slice (some ⟨w.heap.size+1+1+1,0,none⟩) 1 1] 43
 refine bodyPost_ret (v:=.agg #[.slice none 0 0,.slice none 0 0,.slice (some ⟨w.heap.size+1+1+1+1,0,none⟩) 1 1]) (results_cell_row rfl _ _ w.heap.size _ _ _ _ rfl h0 Tryz.underlying26 rfl (by kernel_rfl)) rfl ?_;exact⟨_,rfl,XP h1 h3 h4,by(repeat(first|exact Below.refl _ _|refine Below.drew ?_ |refine Below.alloc ?_ (by simp<;>omega) _))⟩
end
section
open Go.Shelf
theorem Pl:u7.Ok:=by
 constructor<;>simp[u7,aH.sz,az.sz]
theorem ox:aW u7=0:=by kernel_rfl
theorem JR:∃vs cs,dJ u7=some (vs,cs)∧getM ⟨#[102]⟩ cs=some ⟨[],1,-1,0⟩:=⟨[],[(⟨#[102]⟩,⟨[],1,-1,0⟩)],by kernel_rfl,by kernel_rfl⟩
theorem De:u7.Wf:=by
 constructor
 all_goals simp[u7,aH.Wf,az.Wf,EH.Wf,SH.Wf]
 all_goals decide
theorem NH (vs:VS) (cs:dM):(aI (qa u7 vs cs 9 []) 6).F 0 ⟨[],1,-1,0⟩ [] ⟨[],0,0,[]⟩=.ok 7 ⟨[],2,0,[]⟩:=by rfl
theorem R9 (vs:VS) (cs:dM):(aI (qa u7 vs cs 1 []) 6).F 0 ⟨[],1,-1,0⟩ [] ⟨[],0,0,[]⟩=.stop 3 0 ⟨[],1,0,[]⟩:=by rfl
end
section
open Go.Shelf
theorem Df {w:World} {B:Nat} {vs:VS} {cs:dM} {xs:List Value} {X vb cb pb:Nat} {vg vh vf hv:Value} {al:Nat} {o:Out Int} (ho:(aI (qa u7 vs cs al []) 6).F 0 ⟨[],1,-1,0⟩ [] ⟨[],0,0,[]⟩=o) (ey:o≠.lost)
  (h:ik w B u7 vs cs (pW u7.gs 0 []) [] xs X vb cb pb vg vh vf hv) (hg:dJ u7=some (vs,cs)) (hq:getM ⟨#[102]⟩ cs=some ⟨[],1,-1,0⟩) (ha:al≤65536):
  Calls Tryz.prog 17 #[.pointer (some ⟨X,0,none⟩),.string ⟨#[102]⟩,.slice none 0 0,.int .i64 al,.slice none 0 0] w (Jt B u7 vs cs [] xs X vb cb pb vg vh vf hv o w):=by
 subst ho;have hk:ju u7 []:=ju.init De ox;have nJ:eN w [] (.slice none 0 0):=⟨none,0,0,0,rfl,.inl rfl,fun i h=>by simp at h⟩;exact qg (k:=6) h De ox hg hk hq (by decide) rfl (by simp) nJ ha (by simp) (yx.nil _ _ _) (by simp) ey
theorem BM {w:World} {B:Nat} {vs:VS} {cs:dM} {xs:List Value} {X vb cb pb:Nat} {vg vh vf hv:Value} (h:ik w B u7 vs cs (pW u7.gs 0 []) [] xs X vb cb pb vg vh vf hv) (hg:dJ u7=some (vs,cs)) (hq:getM ⟨#[102]⟩ cs=some ⟨[],1,-1,0⟩):
  Calls Tryz.prog 17 #[.pointer (some ⟨X,0,none⟩),.string ⟨#[102]⟩,.slice none 0 0,.int .i64 9,.slice none 0 0] w fun e w'=>∃ea ec,e=.returned (.tuple #[.agg #[.int .u8 1,.int .u32 7,.int .u8 0,.int .i64 2,.int .i64 0,.slice ea 0 ec],.int .i64 0])∧
   ik w' B u7 vs cs (pW u7.gs 0 []) [] xs X vb cb pb vg vh vf hv∧aU (dV xs) w.heap.size w w':=by
 refine(Df (al:=9) (NH vs cs) (by intro q;cases q) h hg hq (by omega)).mono fun e w' hp=>?_
 obtain⟨m,en,v,fa,ve,wG,rfl,hW,hK,⟨ats,hE⟩,-⟩:=hp;rcases wG with⟨q,rfl,rfl⟩|⟨q,-⟩
 ·cases q;obtain⟨ea,ec,Nv,-⟩:=aP hE.row;exact⟨ea,ec,by rw[Nv];rfl,hW,hK⟩
 ·cases q
theorem Fj {w:World} {B:Nat} {vs:VS} {cs:dM} {xs:List Value} {X vb cb pb:Nat} {vg vh vf hv:Value} (h:ik w B u7 vs cs (pW u7.gs 0 []) [] xs X vb cb pb vg vh vf hv) (hg:dJ u7=some (vs,cs)) (hq:getM ⟨#[102]⟩ cs=some ⟨[],1,-1,0⟩):
  Calls Tryz.prog 17 #[.pointer (some ⟨X,0,none⟩),.string ⟨#[102]⟩,.slice none 0 0,.int .i64 1,.slice none 0 0] w fun e w'=>∃ea ec,e=.returned (.tuple #[.agg #[.int .u8 3,.int .u32 0,.int .u8 0,.int .i64 1,.int .i64 0,.slice ea 0 ec],.int .i64 0])∧
   ik w' B u7 vs cs (pW u7.gs 0 []) [] xs X vb cb pb vg vh vf hv∧aU (dV xs) w.heap.size w w':=by
 refine(Df (al:=1) (R9 vs cs) (by intro q;cases q) h hg hq (by omega)).mono fun e w' hp=>?_
 obtain⟨m,en,v,fa,ve,wG,rfl,hW,hK,⟨ats,hE⟩,-⟩:=hp;rcases wG with⟨q,-,-⟩|⟨q,rfl⟩
 ·cases q
 ·cases q;obtain⟨ea,ec,Nv,-⟩:=aP hE.row;exact⟨ea,ec,by rw[Nv];rfl,hW,hK⟩
end
section
open Go.Shelf
theorem oy (a b c:Int) (w:World):(Instr.field 34 (.agg #[.int .i64 a,.int .i64 b,.int .i64 c]) 0).run Tryz.prog w=.ok (.int .i64 a) w:=by kernel_rfl
theorem Sb (w:World):Calls Tryz.prog 8 #[] w fun e w'=>e=.returned (.bool true)∧Below w.heap.size w w':=by
 have c1:=af (Dd w);go_enter Tryz.func8,Tryz.ntmps8;go_wp2_with fail
 refine c1.mono ?_;rintro e w1 ⟨v,rfl,hu,hb1⟩;have B1:=af hb1;have c2:=af (OM u7 v w1 Pl De (af (by simp[u7])) hu);clear c1 hu hb1;go_wp2_with fail
 refine c2.mono ?_;rintro e w2 ⟨hb2,⟨hn,_⟩|⟨_,B,vs,cs,X,vb,cb,pb,vg,vh,vf,hv,xs,rfl,hg,hB,hX,hW⟩⟩
 ·exact absurd ox hn
 have B2:=af (B1.trans (hb2.mono B1.size));obtain⟨YL,cs',g1,g2⟩:=JR;rw[g1] at hg;cases hg;have G:=af (And.intro g1 g2);have HB:=af (show w.heap.size≤B by have:=B1.size;omega);have W2:=af hW;have c3:=af (Dd w2);clear c2 hb2 hW g1 g2 hB hX;go_wp2_with fail
 refine c3.mono ?_;rintro e w3 ⟨v,rfl,hu,hb3⟩;have B3:=af (B2.trans (hb3.mono B2.size));have W3:=af (W2.on hb3);have c4:=af (vU u7 v w3 Pl De (af (by simp[u7])) hu);rw[ox] at c4;clear c3 hu hb3 W2;go_wp2_with fail
 refine c4.mono ?_;rintro e w4 ⟨⟨f,s,rfl⟩,hb4⟩;have B4:=af (B3.trans (hb4.mono B3.size));have W4:=af (W3.on hb4);clear c4 hb4 W3;have IX:=oy 0 f s w4;have c5:=af (BM W4.out G.1 G.2);go_wp2_with fail
 refine c5.mono ?_;rintro e w5 ⟨ea,ec,rfl,YP,hK5⟩;have B5:=af (B4.trans (W4.far HB.out hK5));have B6:=af (B5.alloc B5.size (.cells #[.int .u8 1,.int .u32 7,.int .u8 0,.int .i64 2,.int .i64 0,.slice ea 0 ec] 56));have W6:=af (YP.on ((Below.refl w5.heap.size w5).alloc (Nat.le_refl _) (.cells #[.int .u8 1,.int .u32 7,.int .u8 0,.int .i64 2,.int .i64 0,.slice ea 0 ec] 56)));have X6:=af (Bx.new w5 #[.int .u8 1,.int .u32 7,.int .u8 0,.int .i64 2,.int .i64 0,.slice ea 0 ec] 56);have c6:=af (Fj W6.out G.1 G.2);clear c5 YP hK5;go_wp2_with fail
 refine c6.mono ?_;rintro e w7 ⟨ea2,ec2,rfl,hW7,hK7⟩;have B7:=af (B6.trans (W6.far HB.out hK7));have X7:=af (show Bx w7 w5.heap.size #[.int .u8 1,.int .u32 7,.int .u8 0,.int .i64 2,.int .i64 0,.slice ea 0 ec] 56 from hK7.box X6.out (by simp) (fun⟨x,hx,hq⟩=>(W6.held.box X6.out (by decide) (by decide)).2 x hx hq.symm));clear c6 hW7 hK7;have X8:=X7.al (.cells #[.int .u8 3,.int .u32 0,.int .u8 0,.int .i64 1,.int .i64 0,.slice ea2 0 ec2] 56);have B8:=af (B7.alloc B7.size (.cells #[.int .u8 3,.int .u32 0,.int .u8 0,.int .i64 1,.int .i64 0,.slice ea2 0 ec2] 56));have p0:=X8.cell 0;have p1:=X8.cell 1;have p3:=X8.cell 3;simp at p0 p1 p3;clear X8;go_wp2_with fail
 go_ret;exact⟨rfl,B8.out⟩
end
section
open Go.Shelf
structure A4 (w0:World) (n:Nat) (BN Dg:Array Value) (wr:World):Prop where
 b1:Bx wr n BN 26
 b2:Bx wr (n+1) Dg 29
 below:Below n w0 wr
theorem A4.on {w0 wr w':World} {n:Nat} {BN Dg:Array Value} (h:A4 w0 n BN Dg wr) (hb:Below wr.heap.size wr w'):A4 w0 n BN Dg w':=
 ⟨h.b1.on (ah hb) (by simp),h.b2.on (ah hb) (by simp),h.below.trans (hb.mono (Nat.le_of_lt h.b1.lt))⟩
theorem A4.far {w0 wr w':World} {n m:Nat} {BN Dg:Array Value} (h:A4 w0 n BN Dg wr) (hb:Below m wr w') (hm:n+2≤m):A4 w0 n BN Dg w':=
 ⟨(hb.block _ (by omega)).trans h.b1,(hb.block _ (by omega)).trans h.b2,h.below.trans (hb.mono (by omega))⟩
theorem A4.start (w:World) (BN Dg:Array Value):A4 w w.heap.size BN Dg ((w.alloc (.cells BN 26)).alloc (.cells Dg 29)):=
 ⟨(Bx.new w BN 26).al _,by simpa using Bx.new (w.alloc (.cells BN 26)) Dg 29,by(repeat(first|exact Below.refl _ _|refine Below.drew ?_ |refine Below.alloc ?_ (by simp<;>omega) _))⟩
theorem dO.kpt {w w':World} {B:Nat} {hd:HD} {xs:List Value} {v:Value} (h:dO w B hd xs v) {T:Nat→Prop} (hk:aU T w.heap.size w w') (hT:∀b,B≤b→¬T b):dO w' B hd xs v:=
 ⟨h.len,hk.own h.row fun b hb=>⟨(h.row.lt b hb).2,hT b (gT h.row hb)⟩,fun i h1 h2=>hk.own (h.rows i h1 h2) fun b hb=>⟨((h.rows i h1 h2).lt b hb).2,hT b (gT (h.rows i h1 h2) hb)⟩,h.pos,h.nd⟩
theorem eN.XQ {w w':World} {l:List Int} {v:Value} (h:eN w l v) (hb:Below w.heap.size w w') {xs:List Value} (hx:∀b,dV xs b→w.heap.size≤b):yx w' w'.heap.size (dV xs) l v:=by
 obtain⟨aa,ab,ao,ac,h1,h2,h3⟩:=h;refine⟨aa,ab,ao,ac,h1,h2,?_,fun i hi=>ag (h3 i hi) hb⟩;by_cases h0:l.length=0
 ·exact .inl h0
 ·have:=World.block_lt_of_cell? _ _ (h3 0 (by omega));simp only[] at this;exact .inr ⟨by have:=hb.size;omega,fun q=>by have:=hx _ q;omega⟩
theorem A4.gr {w0 wr w':World} {n b:Nat} {BN Dg:Array Value} (h:A4 w0 n BN Dg wr) (hg:wr.grownBy w' (some b)) (hn:n+2≤b):A4 w0 n BN Dg w':=
 ⟨h.b1.on hg (by simp;omega),h.b2.on hg (by simp;omega),h.below.grown hg (Nat.le_of_lt h.b1.lt) (fun k e=>by cases e;omega)⟩
theorem dO.gr {w w':World} {B:Nat} {hd:HD} {xs:List Value} {v:Value} (h:dO w B hd xs v) {b:Nat} {c:Array Value} (hx:Bx w b c 56) (hg:w.grownBy w' (some b)):dO w' B hd xs v:=
 h.on hg (.inr fun e=>(h.box hx (by decide) (by decide)).1 e.symm) (fun x hm=>.inr fun e=>(h.box hx (by decide) (by decide)).2 x hm e.symm)
theorem ik.gr {w w':World} {B:Nat} {u:UT} {vs:VS} {cs:dM} {pl:List (ByteArray×Int)} {hd:HD} {xs:List Value} {X vb cb pb:Nat} {vg vh vf hv:Value} (h:ik w B u vs cs pl hd xs X vb cb pb vg vh vf hv) {b:Nat} {c:Array Value} (hx:Bx w b c 56) (hg:w.grownBy w' (some b)) (hB:B≤b):
  ik w' B u vs cs pl hd xs X vb cb pb vg vh vf hv:=by
 have h2:=h.CO (w':=w') (T:=fun q=>q=b) (held:=hd.map (·.2)) (aU.gr hg (Nat.le_refl _) fun k e=>by cases e;exact .inl rfl) (fun q hq e=>by omega) (fun e=>h.box.dc hx (by decide) (by simpa using e)) (fun q hq e=>hx.not_row h.held.row (by decide) (by rw[hq,e])) (by simp) (fun i h1 h2=>by
  rw[om];exact(h.held.rows i h1 (by simpa using h2)).kept hg (.inr fun e=>hx.not_row (h.held.rows i h1 (by simpa using h2)) (by decide) e.symm)) (fun q hq=>by
  obtain⟨a,ha,rfl⟩:=List.mem_map.1 hq;obtain⟨i,hi,rfl⟩:=List.getElem_of_mem ha;exact h.held.pos i hi)
 rwa[gG] at h2
theorem ik.Pm {w:World} {B:Nat} {u:UT} {vs:VS} {cs:dM} {pl:List (ByteArray×Int)} {hd:HD} {xs:List Value} {X vb cb pb:Nat} {vg vh vf hv:Value} (h:ik w B u vs cs pl hd xs X vb cb pb vg vh vf hv) {b:Nat} (hb:dV xs b):B≤b∧b<w.heap.size:=by
 obtain⟨x,hx,hq⟩:=hb;obtain⟨i,hi,rfl⟩:=List.getElem_of_mem hx;have hr:=h.held.rows i hi (by have:=h.held.len;omega);exact⟨gT hr hq,(hr.lt b hq).2⟩
end
section
open Go.Shelf
section
variable {α:Type} {El:World→α→List Value→List Nat→Prop}
theorem Dn.sp {e:TypeId} {n:Nat} {w:World} {L:List α} {v:Value} {bs:List Nat} (h:Dn El e n w L v bs) (k:Nat) (hk:k<L.length):
  ∃g cap c1 c c3 b1 ba b3,v=.slice (some ⟨g,0,none⟩) L.length cap∧bs=g::(b1++(ba++b3))∧Sp El n e w g (L.take k) (L.drop (k+1)) c1 c c3 b1 ba b3∧El w L[k] c ba:=by
 rcases h with⟨h0,-,-⟩|⟨g,cap,cs,b',rfl,rfl,h3,h4,h5⟩
 ·omega
 ·obtain⟨c1,c,c2,b1,b,b2,rfl,rfl,q1,q2,q3,q4⟩:=h5.split k hk;exact⟨g,cap,c1,c,c2,b1,b,b2,rfl,rfl,⟨h3,h4,by rw[q1,List.length_take];omega,q2,q4⟩,q3⟩
theorem Sp.dn {n:Nat} {e:TypeId} {w:World} {g:Nat} {D R:List α} {c1 c3:List (List Value)} {c:List Value} {b1 ba b3:List Nat} (h:Sp El n e w g D R c1 c c3 b1 ba b3) {a:α} (hE:El w a c ba) (cap:Nat):
  Dn El e n w (D++a::R) (.slice (some ⟨g,0,none⟩) (D++a::R).length cap) (g::(b1++(ba++b3))):=
 .inr ⟨g,cap,c1++c::c3,_,rfl,rfl,h.row,h.len,iL.app.2 ⟨c1,c::c3,b1,ba++b3,rfl,rfl,h.d,c,c3,ba,b3,rfl,rfl,hE,h.r⟩⟩
theorem Dn.rv {e:TypeId} {n:Nat} {w:World} {L:List α} {v:Value} {bs:List Nat} (h:Dn El e n w L v bs):∃ka cap,v=.slice ka L.length cap∧Rv El n e w ka cap [] L bs:=by
 rcases h with⟨k0,rfl,rfl⟩|⟨g,cap,ks,b',rfl,rfl,h3,h4,h5⟩
 ·exact⟨none,0,by rw[k0],.inl ⟨rfl,List.length_eq_zero_iff.1 k0,rfl,rfl,rfl⟩⟩
 ·exact⟨_,_,rfl,.inr ⟨g,b',rfl,rfl,Ro.of h3 h5 h4⟩⟩
theorem Rv.dn {e:TypeId} {n:Nat} {w:World} {L:List α} {ka:Option Addr} {cap:Nat} {bs:List Nat} (h:Rv El n e w ka cap L [] bs):Dn El e n w L (.slice ka L.length cap) bs:=by
 rcases h with⟨rfl,-,rfl,rfl,rfl⟩|⟨g,b',rfl,rfl,h3⟩
 ·exact .inl ⟨rfl,rfl,rfl⟩
 ·obtain⟨cs,q1,q2,q3⟩:=h3.all;exact .inr ⟨g,cap,cs,b',rfl,rfl,q1,q3,q2⟩
end
theorem Ch.cell {bs:List Nat} {w w':World} (h:Ch bs w w') {a:Addr} {v:Value} (hc:w.cell? a=some v) (hb:a.block∉bs):w'.cell? a=some v:=by
 have:=h.2.2 a.block hb;unfold World.cell? at hc⊢;rw[this];exact hc
def fC (f:FH) (vp vb:Value):List Value:=[.int .i64 f.at_,.string f.name,vp,.int .u8 f.type,.bool f.opn,vb]
theorem Sc (j:Nat) (r:ByteArray→ByteArray) (l:List FH) (h:j<l.length):uL j r l 0=l.take j++rX r l[j]::l.drop (j+1):=by
 refine List.ext_getElem? fun k=>?_
 rw[ov,Nat.zero_add];by_cases h1:k<j
 ·rw[List.getElem?_append_left (by simp;omega),List.getElem?_take,if_pos h1,if_neg (by omega)];cases l[k]? with
  |none=>rfl
  |some f=>rw[Option.map_some,Jv]
 ·rw[List.getElem?_append_right (by simp;omega),List.length_take,Nat.min_eq_left (by omega)];by_cases h2:k=j
  ·subst h2;rw[Nat.sub_self,if_pos rfl,List.getElem?_cons_zero,List.getElem?_eq_getElem h];rfl
  ·obtain⟨i,rfl⟩:∃i,k=j+1+i:=⟨k- (j+1),by omega⟩;rw[show j+1+i-j=i+1 by omega,List.getElem?_cons_succ,List.getElem?_drop,if_neg h2];cases l[j+1+i]? with
   |none=>rfl
   |some f=>rw[Option.map_some,Jv]
structure FV (B:Nat) (w:World) (u:UT) (j:Nat) (f:FH) (vg vh:Value) (g cap:Nat) (vp vb:Value) (bg bh b1 bp bb b3:List Nat) (c1 c3:List (List Value)):Prop where
 vg:Dn XE 105 5 w u.gs vg bg
 vh:Dn Ph 101 5 w u.hs vh bh
 sp:Sp RT 6 43 w g (u.fs.take j) (u.fs.drop (j+1)) c1 (fC f vp vb) c3 b1 (bp++bb) b3
 ps:Dn tF 46 2 w f.params vp bp
 body:uP w f.body vb bb
 nd:(bg++(bh++(g::(b1++((bp++bb)++b3))))).Nodup
 hi:∀b∈bg++(bh++(g::(b1++((bp++bb)++b3)))),B≤b∧b<w.heap.size
theorem RU.opened {B:Nat} {w:World} {u:UT} {v:Value} (h:RU B w u v) {j:Nat} (hj:j<u.fs.length):
  ∃vg vh g cap vp vb bg bh b1 bp bb b3 c1 c3,v=.agg #[vg,vh,.slice (some ⟨g,0,none⟩) u.fs.length cap]∧FV B w u j u.fs[j] vg vh g cap vp vb bg bh b1 bp bb b3 c1 c3:=by
 obtain⟨vg,vh,vf,bg,bh,bf,rfl,h1,h2,h3,h4,h5⟩:=h;obtain⟨g,cap,c1,c,c3,b1,ba,b3,rfl,rfl,hsp,vp,vb,bp,bb,rfl,rfl,q1,q2⟩:=h3.sp j hj;exact⟨vg,vh,g,cap,vp,vb,bg,bh,b1,bp,bb,b3,c1,c3,rfl,h1,h2,hsp,q1,q2,h4,h5⟩
section
variable {B:Nat} {w w':World} {u:UT} {j:Nat} {f:FH} {vg vh:Value} {g cap:Nat} {vp vb:Value} {bg bh b1 bp bb b3:List Nat} {c1 c3:List (List Value)}
theorem FV.nds (h:FV B w u j f vg vh g cap vp vb bg bh b1 bp bb b3 c1 c3):bp.Nodup∧bb.Nodup∧(∀x∈bp,x∉bb)∧(g::(b1++((bp++bb)++b3))).Nodup∧(∀x∈bg,x∉bp++bb)∧(∀x∈bh,x∉bp++bb)∧g∉bp++bb:=by
 have hn:=h.nd;rw[List.nodup_append,List.nodup_append] at hn;obtain⟨-,⟨-,n1,n2⟩,n3⟩:=hn;have n0:=n1;rw[List.nodup_cons,List.nodup_append,List.nodup_append,List.nodup_append] at n1;obtain⟨m1,-,⟨⟨m2,m3,m4⟩,-,-⟩,-⟩:=n1;refine⟨m2,m3,fun x hx c=>m4 x hx x c rfl,n0,fun x hx c=>n3 x hx x ?_ rfl,fun x hx c=>n2 x hx x ?_ rfl,fun c=>m1 ?_⟩
 ·simp only[List.mem_append,List.mem_cons] at c⊢;rcases c with c|c<;>simp[c]
 ·simp only[List.mem_append,List.mem_cons] at c⊢;rcases c with c|c<;>simp[c]
 ·simp only[List.mem_append] at c⊢;rcases c with c|c<;>simp[c]
theorem FV.low (h:FV B w u j f vg vh g cap vp vb bg bh b1 bp bb b3 c1 c3):(∀x∈bp++bb,B≤x∧x<w.heap.size)∧B≤g∧g<w.heap.size:=by
 refine⟨fun x hx=>h.hi x ?_,h.hi g (by simp)⟩;simp only[List.mem_append,List.mem_cons] at hx⊢;rcases hx with c|c<;>simp[c]
theorem FV.cells (h:FV B w u j f vg vh g cap vp vb bg bh b1 bp bb b3 c1 c3) (hj:j≤u.fs.length):w.cell? ⟨g,j*6+2,none⟩=some vp∧w.cell? ⟨g,j*6+5,none⟩=some vb:=
 ⟨h.sp.cell (by rw[List.length_take];omega) 2 (by simp[fC]),h.sp.cell (by rw[List.length_take];omega) 5 (by simp[fC])⟩
theorem FV.keep (h:FV B w u j f vg vh g cap vp vb bg bh b1 bp bb b3 c1 c3) (hb:Below w.heap.size w w'):FV B w' u j f vg vh g cap vp vb bg bh b1 bp bb b3 c1 c3:=by
 have hk:Kb (bg++(bh++(g::(b1++((bp++bb)++b3))))) w w':=Kb.below hb fun b q=>(h.hi b q).2
 have hs:=h.sp;refine⟨h.vg.keep Db (hk.sub fun x hx=>by simp[hx]),h.vh.keep yU (hk.sub fun x hx=>by simp[hx]),
  ⟨hs.row.keep (hk g (by simp)),hs.len,hs.k,hs.d.imp fun a c b q1 q2=>uQ _ _ _ _ _ (hk.sub fun x hx=>by have:=q1 x hx;simp[this]) q2,hs.r.imp fun a c b q1 q2=>uQ _ _ _ _ _ (hk.sub fun x hx=>by have:=q1 x hx;simp[this]) q2⟩,
  h.ps.keep lg (hk.sub fun x hx=>by simp[hx]),h.body.keep (hk.sub fun x hx=>by simp[hx]),h.nd,fun b q=>⟨(h.hi b q).1,by have:=(h.hi b q).2;have:=hb.size;omega⟩⟩
theorem FV.turned (h:FV B w u j f vg vh g cap vp vb bg bh b1 bp bb b3 c1 c3) {hj:j<u.fs.length} (hf:u.fs[j]=f) {r:ByteArray→ByteArray} (hc:Ch (bp++bb) w w') (hp:Dn tF 46 2 w' (f.params.map (oK r)) vp bp) (hb:uP w' (jz r f.body) vb bb):
  RU B w' (mU j r u) (.agg #[vg,vh,.slice (some ⟨g,0,none⟩) u.fs.length cap]):=by
 obtain⟨-,-,-,n4,n5,n6,-⟩:=h.nds;have hs:=h.sp.on uQ hc n4;have hd:=hs.dn (a:=rX r f) ⟨vp,vb,bp,bb,rfl,rfl,hp,hb⟩ cap;have e:u.fs.take j++rX r f::u.fs.drop (j+1)=(mU j r u).fs:=by rw[←hf];exact(Sc j r u.fs hj).symm
 rw[e] at hd;rw[show(mU j r u).fs.length=u.fs.length from qV _ _] at hd;exact⟨vg,vh,_,bg,bh,_,rfl,h.vg.keep Db (hc.kb n5),h.vh.keep yU (hc.kb n6),hd,h.nd,fun b q=>⟨(h.hi b q).1,by rw[hc.2.1];exact(h.hi b q).2⟩⟩
end
theorem tF.lens {w:World}:∀{l:List PW} {cs:List (List Value)} {bs:List Nat},iL (tF w) l cs bs→∀c∈cs,c.length=2
 |[],_,_,⟨h,_⟩=>by subst h;simp
 |a::l,_,_,⟨c,c2,b1,b2,h1,_,⟨h2,_⟩,h3⟩=>by
  subst h1;intro x hx;rcases List.mem_cons.1 hx with rfl|q
  ·rw[h2];rfl
  ·exact tF.lens h3 x q
/-! ### worlds -/
section
variable {w w':World} {B n:Nat} {u:UT} {vs:VS} {cs:dM} {pl:List (ByteArray×Int)} {hd:HD} {xs:List Value} {X vb cb pb:Nat} {vg vh vf hv:Value}
theorem yj.on (h:yj n w B u cs vb cb pb vg vh vf) (hb:Below w.heap.size w w'):yj n w' B u cs vb cb pb vg vh vf:=by
 obtain⟨w0,l,h1,h2,h3,h4,h5⟩:=h;exact⟨w0,l,h1,h2,h3.mono hb,fun a u q=>⟨(h4 a u q).1,(h4 a u q).2.1,ag (h4 a u q).2.2 hb⟩,h5⟩
theorem ik.aside (h:ik w B u vs cs pl hd xs X vb cb pb vg vh vf hv) (ho:yj n w B u cs vb cb pb vg vh vf) {T:Nat→Prop} (hk:aU T w.heap.size w w') (hT:∀b,T b→b<n) (hX:n≤X) (hB:n≤B):ik w' B u vs cs pl hd xs X vb cb pb vg vh vf hv:=by
 obtain⟨w0,l,h1,h2,h3,h4,h5,h6,h7⟩:=ho;have hN:∀b,n≤b→¬T b:=fun b hb q=>by have:=hT b q;omega
 have lB:=h.lB;have hc:Cells w0 (aA w' (bJ B)):=fun a u q=>by
  obtain⟨q1,q2,q3⟩:=h4 a u q;rw[dx,if_pos (by simpa using q2)];exact hk.at q3 (hN _ q1)
 obtain⟨c1,-⟩:=h.nm;have m1:Mp (aA w' (bJ B)) vb _:=iF (hk.map (ew c1 (by simpa using h.lv)) (by have:=h.lv;omega) (hN _ h5)) (by simpa using h.lv);have m2:Mp (aA w' (bJ B)) cb _:=iF (hk.map h3 (by have:=h.lc;omega) (hN _ h6)) (by simpa using h.lc);exact⟨hk.box h.box h.lX (hN _ hX),h1.sub hc,⟨m1,l,m2,h2.sub hc⟩,h.held.kpt hk fun b hb=>hN b (by omega),hk.map h.place (by have:=h.lp;omega) (hN _ h7),Nat.lt_of_lt_of_le h.lX hk.size,h.lv,h.lc,h.lp,Nat.le_trans h.lB hk.size⟩
theorem ik.ahead (h:ik w B u vs cs pl hd xs X vb cb pb vg vh vf hv) {T:Nat→Prop} (hk:aU T w.heap.size w w') (hT:∀b,T b→n≤b) (hX:X<n) (hB:B≤n) (hH:∀b,hv.ownBlock=some b→b<n) (hx:∀b,dV xs b→b<n):ik w' B u vs cs pl hd xs X vb cb pb vg vh vf hv:=by
 have hN:∀b,b<n→¬T b:=fun b hb q=>by have:=hT b q;omega
 have h2:=h.CO (w':=w') (held:=hd.map (·.2)) hk (fun b hb=>hN b (by omega)) (hN X hX) (fun b hb=>hN b (hH b hb)) (by simp) (fun i h1 h2=>by
  rw[om];exact hk.own (h.held.rows i h1 (by simpa using h2)) fun b hb=>⟨((h.held.rows i h1 (by simpa using h2)).lt b hb).2,hN b (hx b ⟨_,List.getElem_mem h1,hb⟩)⟩) (fun q hq=>by
  obtain⟨a,ha,rfl⟩:=List.mem_map.1 hq;obtain⟨i,hi,rfl⟩:=List.getElem_of_mem ha;exact h.held.pos i hi)
 rwa[gG] at h2
end
/-! ### a pick -/
def mB (n m:Int):Int:=if n.tmod m<0 then n.tmod m+m else n.tmod m
theorem y9 (n:Int) {m:Int} (h:0<m):0≤mB n m∧mB n m<m:=by
 have h1: -m<n.tmod m:=Int.lt_tmod_of_pos n h;have h2:n.tmod m<m:=Int.tmod_lt_of_pos n h;unfold mB;split<;>omega
theorem NI (n:Int) (m:Nat) (hm:0<m) (dX:m≤100000000) (w:World):Calls Tryz.prog 12 #[.int .i64 n,.int .i64 m] w fun e w'=>e=.returned (.int .i64 (mB n m))∧w'=w:=by
 have h1: -(m:Int)<n.tmod m:=Int.lt_tmod_of_pos n (by omega);have h2:n.tmod (m:Int)<m:=Int.tmod_lt_of_pos n (by omega);have h0:¬(m:Int)<1:=by omega
 have h00:¬(m:Int)=0:=by omega
 by_cases hc:n.tmod (m:Int)<0
 ·have hv:mB n m=n.tmod m+m:=by unfold mB;rw[if_pos hc]
  have hw:wrap64 (n.tmod (m:Int)+m)=n.tmod m+m:=by simp only[wrap64];omega
  rw[hv];go_enter Tryz.func12,Tryz.ntmps12;go_wp2_with fail
  go_ret;exact⟨by first|rfl|rw[hw],rfl⟩
 ·have hv:mB n m=n.tmod m:=by unfold mB;rw[if_neg hc]
  have hc2:0≤n.tmod (m:Int):=by omega
  rw[hv];go_enter Tryz.func12,Tryz.ntmps12;go_wp2_with fail
  go_ret;exact⟨rfl,rfl⟩
end
section
theorem fL {nm:ByteArray} {t:Int} {sg:ByteArray} {n k nb ne:Nat} (h:bE nm t sg n k nb ne=true):nb=0∧ne=0:=by
 unfold bE at h;simp only[Bool.and_eq_true,beq_iff_eq] at h;omega
theorem aH.JS {l:aH} (h:l.len=0):l=.nil:=by
 cases l with
 |nil=>rfl
 |cons h' x b e r=>simp[aH.len] at h
theorem BO {h:SH} {n:Nat} {fk:Int} {nb ne:Nat} (q:gy h n fk nb ne=true):(h.kind≠4→ne=0)∧(h.kind≠4→h.kind≠5→nb=0):=by
 unfold gy at q;by_cases h1:h.kind=1
 ·rw[if_pos h1,Bool.and_eq_true] at q;have:=fL q.1;exact⟨fun _=>this.2,fun _ _=>this.1⟩
 by_cases h2:h.kind=2
 ·rw[if_neg h1,if_pos h2,Bool.and_eq_true] at q;have:=fL q.1;exact⟨fun _=>this.2,fun _ _=>this.1⟩
 by_cases h3:h.kind=3
 ·rw[if_neg h1,if_neg h2,if_pos h3,Bool.and_eq_true] at q;have:=fL q.1;exact⟨fun _=>this.2,fun _ _=>this.1⟩
 by_cases h4:h.kind=4
 ·exact⟨fun c=>absurd h4 c,fun c=>absurd h4 c⟩
 by_cases h5:h.kind=5
 ·rw[if_neg h1,if_neg h2,if_neg h3,if_neg h4,if_pos h5] at q;exact⟨fun _=>(fL q).2,fun _ c=>absurd h5 c⟩
 rw[if_neg h1,if_neg h2,if_neg h3,if_neg h4,if_neg h5] at q;have key:nb=0∧ne=0:=by
  split at q
  ·exact fL q
  split at q
  ·exact fL q
  split at q
  ·exact fL q
  split at q
  ·rw[Bool.and_eq_true] at q;exact fL q.1
  ·cases q
 exact⟨fun _=>key.2,fun _ _=>key.1⟩
theorem oz {vs:VS} {cs:dM} {ret:Int} {o:ByteArray}:∀(l:aH) (ss:List Scope) (c c':Scope) (lp:Nat),gU l=true→fO vs cs ret l ss c lp=.ok c'→cA o l=true→eQ vs cs o=false
 | .nil,_,_,_,_,_,_,q=>by cases q
 | .cons h x b e l,ss,c,c',lp,ok,hc,q=>by
  simp only[gU,Bool.and_eq_true] at ok;simp only[fO] at hc;split at hc
  ·cases hc
  rename_i c1 hst;simp only[cA,Bool.or_eq_true,Bool.and_eq_true,beq_iff_eq] at q;have hl:=BO ok.1;have hbE:∀lp',(∃y,fO vs cs ret b (ss++[c]) [] lp'=.ok y)→cA o b=true→eQ vs cs o=false:=fun lp' hy qb=>by
   obtain⟨y,hy⟩:=hy;exact oz b (ss++[c]) [] y lp' ok.2.1 hy qb
  have JT:∀{α:Type} {z:Except Int α},bW z=.ok ()→∃y,z=.ok y:=fun{α z} hz=>by
   cases z with
   |error e=>cases hz
   |ok y=>exact⟨y,rfl⟩
  unfold ix at hst;split at hst
  ·cases hst
  rename_i ts zx;rcases q with⟨k1,k2⟩|q|q|q
  ·rw[if_pos k1] at hst;split at hst
   ·cases hst
   ·rename_i hh;have:=(MapKept.bytes_beq h.name o).1 k2;subst this;simp only[Bool.or_eq_true,not_or,Bool.not_eq_true] at hh;exact hh.2
  ·by_cases k4:h.kind=4
   ·rw[if_neg (by omega),if_neg (by omega),if_neg (by omega),if_pos k4] at hst;split at hst
    ·split at hst
     ·cases hst
     ·rename_i u1 hu1;exact hbE lp (JT (by cases u1;exact hu1)) q
    ·cases hst
   by_cases k5:h.kind=5
   ·rw[if_neg (by omega),if_neg (by omega),if_neg (by omega),if_neg (by omega),if_pos k5] at hst;split at hst
    ·split at hst
     ·cases hst
     ·rename_i u1 hu1;exact hbE (lp+1) (JT (by cases u1;exact hu1)) q
    ·cases hst
   rw[aH.JS (hl.2 k4 k5)] at q;cases q
  ·by_cases k4:h.kind=4
   ·rw [if_neg (by omega),if_neg (by omega),if_neg (by omega),if_pos k4] at hst;split at hst
    ·split at hst
     ·cases hst
     ·split at hst
      ·cases hst
      ·rename_i u2 hu2;obtain⟨y,hy⟩:=JT (show bW _=.ok () by cases u2;exact hu2);exact oz e (ss++[c]) [] y lp ok.2.2.1 hy q
    ·cases hst
   rw[aH.JS (hl.1 k4)] at q;cases q
  ·exact oz l ss c1 c' lp ok.2.2.2.2 hc q
theorem sZ {vs:VS} {cs:dM}:∀(l:List PW) (sc sc':Scope),cC vs cs l sc=.ok sc'→∀a∈l,eQ vs cs a.1=false
 |[],_,_,_,a,ha=>by cases ha
 |p::l,sc,sc',h,a,ha=>by
  simp only[cC] at h;split at h
  ·cases h
  rename_i q;simp only[Bool.or_eq_true,not_or,Bool.not_eq_true] at q;rcases List.mem_cons.1 ha with rfl|ha
  ·exact q.2
  ·exact sZ l _ sc' h a ha
theorem JU {u:UT} {vs:VS} {cs:dM} (hs:aW u=0) (hg:dJ u=some (vs,cs)) {f:FH} (hf:f∈u.fs) {o:ByteArray} (hl:mW f o=true):eQ vs cs o=false:=by
 obtain⟨hc,vs2,lq,hg2,hn,hfs⟩:=fI hs;rw[hg] at hg2;cases hg2;obtain⟨⟨sc,c,h1,h2⟩,h3⟩:=IQ (wk hfs f hf);have ok:=(mQ ((k9 (j8 hc).1).2.2 f hf)).2;unfold mW at hl;simp only[Bool.or_eq_true,List.any_eq_true] at hl;rcases hl with⟨a,ha,q⟩|q
 ·have:=sZ _ _ _ h1 a ha;rwa[(MapKept.bytes_beq a.1 o).1 q] at this
 ·exact oz f.body [sc] [] c 0 ok h2 q
/-! ### a name that is free -/
theorem Dh {n:ByteArray}:∀{l:List GH} {v v2:VS},nM l v=some v2→(∀g∈l,(g.name==n)=false)→getM n v=none→getM n v2=none
 |[],_,_,h,_,q=>by cases h;exact q
 |g::l,v,v2,h,hn,q=>by
  simp only[nM] at h;split at h
  ·cases h
  refine Dh h (fun x hx=>hn x (List.mem_cons_of_mem _ hx)) ?_;rw[et,if_neg,q];intro c;have:=hn g List.mem_cons_self;rw[(MapKept.bytes_beq n g.name).1 c,(MapKept.bytes_beq g.name g.name).2 rfl] at this;cases this
theorem Di {n:ByteArray} {vs:VS}:∀{l:List HH} {i:Nat} {v v2:dM},kQ l i vs v=some v2→(∀g∈l,(g.name==n)=false)→getM n v=none→getM n v2=none
 |[],_,_,_,h,_,q=>by cases h;exact q
 |g::l,i,v,v2,h,hn,q=>by
  simp only[kQ] at h;split at h
  ·cases h
  refine Di h (fun x hx=>hn x (List.mem_cons_of_mem _ hx)) ?_;rw[et,if_neg,q];intro c;have:=hn g List.mem_cons_self;rw[(MapKept.bytes_beq n g.name).1 c,(MapKept.bytes_beq g.name g.name).2 rfl] at this;cases this
theorem Dj {n:ByteArray} {vs:VS}:∀{l:List FH} {i:Nat} {v v2:dM},kR l i vs v=some v2→(∀g∈l,(g.name==n)=false)→getM n v=none→getM n v2=none
 |[],_,_,_,h,_,q=>by cases h;exact q
 |g::l,i,v,v2,h,hn,q=>by
  simp only[kR] at h;split at h
  ·cases h
  refine Dj h (fun x hx=>hn x (List.mem_cons_of_mem _ hx)) ?_;rw[et,if_neg,q];intro c;have:=hn g List.mem_cons_self;rw[(MapKept.bytes_beq n g.name).1 c,(MapKept.bytes_beq g.name g.name).2 rfl] at this;cases this
theorem tj {u:UT} {n:ByteArray} (h:sR u n=true):(∀g∈u.gs,(g.name==n)=false)∧(∀g∈u.hs,(g.name==n)=false)∧∀f∈u.fs,(f.name==n)=false∧eG n f.body=false∧f.params.any (fun a=>a.1==n)=false:=by
 unfold sR at h;simp only[Bool.not_eq_true',Bool.or_eq_false_iff] at h;refine⟨fun g hg=>?_,fun g hg=>?_,fun f hf=>?_⟩
 ·simpa using List.any_eq_false.1 h.1 g hg
 ·simpa using List.any_eq_false.1 h.2.1 g hg
 ·have:=List.any_eq_false.1 h.2.2 f hf;simpa only[Bool.not_eq_true,Bool.or_eq_false_iff] using this
theorem NJ {u:UT} {vs:VS} {cs:dM} (hg:dJ u=some (vs,cs)) {n:ByteArray} (h:sR u n=true):eQ vs cs n=false:=by
 obtain⟨h0,c1,h1,h2⟩:=iI hg;obtain⟨p1,p2,p3⟩:=tj h;unfold eQ;rw[Dh h0 p1 rfl,Dj h2 (fun f hf=>(p3 f hf).1) (Di h1 p2 rfl)];rfl
theorem Sd {o n:ByteArray} (hk:aS n=true) (s:ByteArray) (h:aS s=true):aS (eY o n s)=true:=by
 unfold eY;split
 ·exact hk
 ·exact h
theorem Sh {o n s:ByteArray} (hk:n.size≤1048576) (h:s.size≤1048576):(eY o n s).size≤1048576:=by
 unfold eY;split
 ·exact hk
 ·exact h
section
variable {r:ByteArray→ByteArray} (hr:∀s,s.size≤1048576→(r s).size≤1048576)
include hr
theorem az.mC:∀{l:az},l.Wf→(jq r l).Wf
 | .nil,_=>trivial
 | .cons h k l,q=>by
  refine⟨?_,az.mC q.2.1,az.mC q.2.2⟩;have:=q.1;unfold EH.Wf mr at*;split
  ·exact⟨this.1,hr _ this.2.1,this.2.2⟩
  ·exact this
theorem aH.mC:∀{l:aH},l.Wf→(jz r l).Wf
 | .nil,_=>trivial
 | .cons h x b e l,q=>by
  refine⟨?_,az.mC hr q.2.1,aH.mC q.2.2.1,aH.mC q.2.2.2.1,aH.mC q.2.2.2.2⟩;have:=q.1;unfold SH.Wf qy at*;split
  ·exact⟨hr _ this.1,this.2⟩
  ·exact this
theorem UT.mC {j:Nat} {u:UT} (h:u.Wf):(mU j r u).Wf:=by
 refine⟨h.g,h.h,fun x hx=>?_⟩;obtain⟨g,hg,r0,h0,rfl⟩:=ow hx;have oV:∀s,s.size≤1048576→(r0 s).size≤1048576:=by
  rcases h0 with rfl|rfl
  ·exact hr
  ·exact fun s q=>q
 obtain⟨a1,a2,a3⟩:=h.f g hg;refine⟨a1,fun a ha=>?_,aH.mC oV a3⟩;obtain⟨b,hb,rfl⟩:=List.mem_map.1 ha;exact oV _ (a2 b hb)
end
theorem UT.XR {j:Nat} {r:ByteArray→ByteArray} {u:UT} (h:u.Ok):(mU j r u).Ok:=by
 refine⟨h.g,h.h,by rw[show(mU j r u).fs.length=u.fs.length from qV _ _];exact h.f,h.hp,fun x hx=>?_,fun x hx=>?_⟩
 ·obtain⟨g,hg,r0,h0,rfl⟩:=ow hx;rw[show(rX r0 g).params.length=g.params.length from List.length_map ..];exact h.fp g hg
 ·obtain⟨g,hg,r0,h0,rfl⟩:=ow hx;rw[show(rX r0 g).body.sz=g.body.sz from rV _ _];exact h.fb g hg
theorem Fk {u:UT} {vs:VS} {cs:dM} (hs:aW u=0) (hg:dJ u=some (vs,cs)) {j:Nat} {f:FH} (hj:u.fs[j]? =some f) {o n:ByteArray} (hl:mW f o=true) (hf:sR u n=true) (hk:aS n=true):
  aW (mU j (eY o n) u)=0∧∃cs',dJ (mU j (eY o n) u)=some (vs,cs')∧(∀s k,eO cs' s k=eO cs s k)∧
   ∀s g,getM s cs=some g→∃g',getM s cs'=some g'∧g'.host=g.host∧g'.params.length=g.params.length∧(g.host<0→∀(al:Nat) (values:List Int) (k d:Nat) (args:List Int) (m:MS),
    (aI (qa (mU j (eY o n) u) vs cs' al values) k).F d g' args m=(aI (qa u vs cs al values) k).F d g args m):=by
 have hno:=JU hs hg (List.mem_of_getElem? hj) hl;have hnn:=NJ hg hf;have p3:=(tj hf).2.2;have e:mU j (eY o n) u=mU j (oN o n) u:=by
  unfold mU;rw[uM u.fs 0 fun f hf=>Rz (p3 f hf).2.1 (p3 f hf).2.2]
 obtain⟨cs',Ks,hT⟩:=RF (j:=j) (r:=oN o n) hg;have R1:=hT.rn hno hnn;have R2:=hT.Xs (vs:=vs);refine⟨?_,cs',by rw[e];exact Ks,hT.eO,fun s g hq=>?_⟩
 ·have hc:=fI hs;have dH:=RH (j:=j) (r:=eY o n) (Sd hk) hc.1;have e2:aW (mU j (eY o n) u)=aW u:=by
   unfold aW;rw[hc.1,dH];simp only[if_true,hg,e,Ks];rw[show(mU j (oN o n) u).fs.length=u.fs.length from qV _ _,show(mU j (oN o n) u).gs=u.gs from rfl,show kB vs cs' (mU j (oN o n) u).fs=kB vs cs u.fs from Jy R1 R2 _ _]
  rw[e2,hs]
 ·rcases hT s with⟨a,-⟩|⟨g0,g',a,b,q⟩
  ·rw[hq] at a;cases a
  rw[hq] at a;cases a;refine⟨g',b,q.host,by rw[q.params,List.length_map],fun hh al values k d args m=>?_⟩;have hk2:=CM hg;have hpl:∀s,(getM s (pW u.gs 0 [])).isSome=true→(getM s vs).isSome=true:=by
   have key:∀(l:List GH) (i:Nat) (v v2:VS) (p:List (ByteArray×Int)),nM l v=some v2→(∀s,(getM s p).isSome=true→(getM s v).isSome=true)→∀s,(getM s (pW l i p)).isSome=true→(getM s v2).isSome=true:=by
    intro l
    induction l with
    |nil=>intro i v v2 p h h0;cases h;exact h0
    | cons a l ih=>
     intro i v v2 p h h0;simp only[nM] at h;split at h
     ·cases h
     refine ih (i+1) _ v2 _ h fun s hs=>?_
     rw[et] at hs⊢;split
     ·rfl
     ·rename_i c;rw[if_neg c] at hs;exact h0 s hs
   exact key u.gs 0 [] vs [] (iI hg).1 fun s h=>by cases h
  rw[e];have Sq:∀g0 g1 s0,getM s0 cs=some g0→SgT j (oN o n) g0 g1→Sg (oN o n) (qa u vs cs al values) (qa (mU j (oN o n) u) vs cs' al values) g0 g1:=fun g0 g1 s0 h0 q0=>by
   refine⟨q0.host,q0.fn,fun h1 f1 C4=>?_,fun h1 C4=>?_⟩
   ·refine⟨if g0.host<0∧g0.fn.toNat=j then oN o n else id,?_,q0.params,rX (if g0.host<0∧g0.fn.toNat=j then oN o n else id) f1,?_,rfl⟩
    ·split
     ·exact .inl rfl
     ·exact .inr rfl
    ·show(uL j (oN o n) u.fs 0)[g0.fn.toNat]? =_
     rw[ov,show u.fs[g0.fn.toNat]? =some f1 from C4];simp only[Nat.zero_add,h1,true_and,Option.map_some]
   ·show(uL j (oN o n) u.fs 0)[g0.fn.toNat]? =_
    rw[ov,show u.fs[g0.fn.toNat]? =none from C4];rfl
  have C:Cfs (oN o n) (qa u vs cs al values) (qa (mU j (oN o n) u) vs cs' al values):=by
   refine⟨rfl,rfl,rfl,rfl,rfl,rfl,fun s0=>?_⟩;rcases hT s0 with⟨a1,a2⟩|⟨g0,g1,a1,a2,q0⟩
   ·exact .inl ⟨a2,a1⟩
   ·exact .inr ⟨g0,g1,a1,a2,Sq g0 g1 s0 a1 q0⟩
  have Rr:∀r0,(r0=oN o n∨r0=id)→Rl (qa u vs cs al values) (qa (mU j (oN o n) u) vs cs' al values) r0:=by
   rintro r0 (rfl|rfl)
   ·exact⟨R1,fun s hs=>R1.v s (hpl s hs)⟩
   ·exact⟨R2,fun s hs=>rfl⟩
  exact(Hy C Rr k).F g g' (Sq g g' s hq q) hh d args m
end
section
open Go.Shelf
structure Res where
 er:Int
 en:Int
 x:Int
 fa:Int
 st:Int
 rp:Int
 evs:List Ev
 held:List (List Int)
def resO:Out Int→Res
 | .ok v m=>⟨0,1,v,0,m.steps,m.reps,m.evs,m.held⟩
 | .stop en fa m=>⟨0,en,0,fa,m.steps,m.reps,m.evs,m.held⟩
 | .lost=>⟨0,0,0,0,0,0,[],[]⟩
def BP (u:UT) (vs:VS) (cs:dM) (al:Nat) (values:List Int) (k:Nat) (s:ByteArray) (args:List Int) (hd:HD):Res:=
 if eO cs s args.length≠0 then⟨eO cs s args.length,0,0,0,0,0,[],hd.map (·.2)⟩
 else match getM s cs with
  |some g=>resO ((aI (qa u vs cs al values) k).F 0 g args ⟨hd.map (·.2),0,0,[]⟩)
  |none=>⟨0,0,0,0,0,0,[],[]⟩
theorem ze {u:UT} {vs:VS} {cs:dM} (hs:aW u=0) (hg:dJ u=some (vs,cs)) {j:Nat} {f:FH} (hj:u.fs[j]? =some f) {o n:ByteArray} (hl:mW f o=true) (hf:sR u n=true) (hk:aS n=true):
  aW (mU j (eY o n) u)=0∧∃cs',dJ (mU j (eY o n) u)=some (vs,cs')∧∀(al:Nat) (values:List Int) (k:Nat) (s:ByteArray) (args:List Int) (hd:HD),BP (mU j (eY o n) u) vs cs' al values k s args hd=BP u vs cs al values k s args hd:=by
 obtain⟨h1,cs',h2,h3,h4⟩:=Fk hs hg hj hl hf hk;refine⟨h1,cs',h2,fun al values k s args hd=>?_⟩;unfold BP;rw[h3];by_cases hc:eO cs s args.length≠0
 ·rw[if_pos hc,if_pos hc]
 ·rw[if_neg hc,if_neg hc];have hc2:eO cs s args.length=0:=Decidable.not_not.1 hc;unfold eO at hc2;cases hq:getM s cs with
  |none=>rw[hq] at hc2;cases hc2
  | some g=>
   rw[hq] at hc2;simp only[] at hc2;obtain⟨g',q1,q2,q3,q4⟩:=h4 s g hq;rw[q1];simp only[];have hh:g.host<0:=by
    by_cases h9:0≤g.host
    ·rw[if_pos h9] at hc2;cases hc2
    ·omega
   rw[q4 hh]
def PRes (B:Nat) (u:UT) (vs:VS) (cs:dM) (hd:HD) (xs:List Value) (X vb cb pb:Nat) (vg vh vf hv:Value) (n:Nat) (r:Res) (w:World) (e:Ending) (w':World):Prop:=
 ∃eZ ats ve,e=.returned (.tuple #[.agg #[.int .u8 r.en,.int .u32 r.x,.int .u8 r.fa,.int .i64 r.st,.int .i64 r.rp,ve],.int .i64 r.er])∧ik w' B u vs cs (pW u.gs 0 []) (iR hd r.held) xs X vb cb pb vg vh vf hv∧
  aU (dV xs) w.heap.size w w'∧uA w' w.heap.size r.evs eZ ats ve∧ju u (iR hd r.held)∧r.evs.length≤n
section
variable {w:World} {B:Nat} {u:UT} {vs:VS} {cs:dM} {hd:HD} {xs:List Value} {X vb cb pb:Nat} {vg vh vf hv:Value}
theorem tq (h:ik w B u vs cs (pW u.gs 0 []) hd xs X vb cb pb vg vh vf hv) (wf:u.Wf) (hs:aW u=0) (hg:dJ u=some (vs,cs)) (ho:ju u hd) {s:ByteArray} {args:List Int} {va:Value} {al:Nat} {values:List Int} {vv:Value} {k:Nat}
  (hU:∀x∈args,U x) (nJ:eN w args va) (ha:al≤65536) (Xq:∀x∈values,U x) (hv0:yx w w.heap.size (dV xs) values vv) (Aj:values.length≤1000000000)
  (ey:∀g,getM s cs=some g→g.host<0→args.length=g.params.length→(aI (qa u vs cs al values) k).F 0 g args ⟨hd.map (·.2),0,0,[]⟩≠.lost):
  Calls Tryz.prog 17 #[.pointer (some ⟨X,0,none⟩),.string s,va,.int .i64 al,vv] w (PRes B u vs cs hd xs X vb cb pb vg vh vf hv values.length (BP u vs cs al values k s args hd) w):=by
 refine(Bt h wf hs hg ho hU nJ ha Xq hv0 Aj ey).mono ?_;rintro e w' (⟨he,rfl,hb⟩|⟨he,g,hq,hh,hl,m,en,v,fa,ve,wG,rfl,q1,q2,⟨ats,q3⟩,q4⟩)
 ·unfold BP;rw[if_pos he];refine⟨[],[],.slice none 0 0,rfl,?_,aU.of hb,⟨rfl,rfl,World.ownsRow_nil _ _ _ _,fun i h=>by simp at h⟩,?_,Nat.zero_le _⟩
  ·rw[gG];exact h.on hb
  ·rw[gG];exact ho
 ·unfold BP;rw[if_neg (not_not_intro he),hq];simp only[];have hi:m.reps=m.evs.length∧m.reps≤values.length:=by
   have hk:=(gF (qa u vs cs al values) ((hd.map (·.2)).map List.length) k).F 0 g args ⟨hd.map (·.2),0,0,[]⟩ ⟨Nat.zero_le _,Nat.zero_le _,rfl,rfl⟩;rcases wG with⟨q,-,-⟩|⟨q,-⟩
   ·rw[q] at hk;exact⟨hk.evs,hk.reps⟩
   ·rw[q] at hk;exact⟨hk.1.evs,hk.1.reps⟩
  rcases wG with⟨q,rfl,rfl⟩|⟨q,rfl⟩
  ·rw[q];exact⟨ve.eZ,ats,ve.v,rfl,q1,q2,q3,q4,by show m.evs.length≤_;omega⟩
  ·rw[q];exact⟨ve.eZ,ats,ve.v,rfl,q1,q2,q3,q4,by show m.evs.length≤_;omega⟩
end
end
section
open Go.Shelf
theorem Dk (nm:ByteArray) (l:List PW) (k:Nat) (h:k<l.length):(l.drop k).any (fun a=>a.1==nm)=((l[k].1.toList==nm.toList)||(l.drop (k+1)).any fun a=>a.1==nm):=by
 rw[List.drop_eq_getElem_cons h,←yR];rfl
theorem NK (f:FH) (t:Int) (pv bv:Value) (nm:ByteArray) (w:World) (tS:wW w f.params pv) (hb:dR w false none f.body bv) (hpl:f.params.length≤100000000) (tD:f.body.sz≤100000000):
  Calls Tryz.prog 13 #[.agg #[.int .i64 t,.string f.name,pv,.int .u8 f.type,.bool f.opn,bv],.string nm] w fun e w'=>e=.returned (.bool (mW f nm))∧Below w.heap.size w w':=by
 have Eb:=af hb;obtain⟨ba,bc,rfl⟩:=hb.ay;obtain⟨pa,pb,po,pc,rfl,xF,Kn⟩:=tS;obtain⟨f0,f1,ps,f3,f4,body⟩:=f;simp only[] at xF Kn hpl tD Eb⊢;obtain⟨len,hlen⟩:∃m,m=ps.length:=⟨_,rfl⟩;rw[←hlen] at xF hpl⊢;have HL:=af hlen;have HP:=af Kn;have HS:=af tD;obtain⟨R,hR⟩:∃r,r=mW ⟨f0,f1,ps,f3,f4,body⟩ nm:=⟨_,rfl⟩;rw[←hR];have HR:=af (show R=(ps.any (fun a=>a.1==nm)||cA nm body) from hR);have cG:=af (gA.new (Below.refl w.heap.size w) #[.int .i64 t,.string f1,.slice pa len pc,.int .u8 f3,.bool f4,.slice ba body.len bc] 43);clear hlen Kn tD hR hb;go_enter Tryz.func13,Tryz.ntmps13;go_wp2_with fail
 go_loopw [4,5] (fun z i wr=>∃k:Nat,z=.bool false∧k≤len∧i=.int .i64 k∧R=((ps.drop k).any (fun a=>a.1==nm)||cA nm body)∧gA w w.heap.size #[.int .i64 t,.string f1,.slice pa len pc,.int .u8 f3,.bool f4,.slice ba body.len bc] 43 wr) (fun _ i _=>len- (intOf i).toNat)
 case atStart=>exact⟨0,rfl,Nat.zero_le _,rfl,HR.out,cG.out⟩
 case round=>
  clear cG;obtain⟨k,rfl,hk,rfl,dU,hX⟩:=hrel;have hA:=af dU;have aB:=af hX;have p2:=aB.box.cell 2;simp at p2;clear dU hX;by_cases hlt:k<len
  ·have bH:k<ps.length:=by have:=HL.out;omega
   have hat:=Dk nm ps k bH;obtain⟨y0,y1⟩:=HP.out k bH;have x0:=ag y0 aB.below;have bG:pa=some ⟨pb,po,none⟩:=by rcases xF with q|q;(·omega);(·exact q)
   subst bG;have hE:=af (show R=(((ps[k]'bH).1.toList==nm.toList)||((ps.drop (k+1)).any (fun a=>a.1==nm)||cA nm body)) by rw[hA.out,hat,Bool.or_assoc]);generalize ps[k]'bH=a at*;obtain⟨an,at'⟩:=a;simp only[] at x0 hE;clear y0 y1 hat hA;cases hq:(an.toList==nm.toList) with
   |true=>
    have hF:=af (show R=true by rw[hE.out,hq];rfl);clear hE;go_wp2_with fail
    go_ret;exact⟨by rw[hF.out];rfl,aB.below⟩
   |false=>
    have C8:=af (show R=((ps.drop (k+1)).any (fun a=>a.1==nm)||cA nm body) by rw[hE.out,hq];rfl);clear hE;go_wp2_with fail
    go_roundw
    case rel=>exact⟨k+1,rfl,by omega,by go_num,C8.out,aB.out⟩
    case measure=>simp[intOf];omega
  ·obtain rfl:k=len:=by omega
   have C8:=af (show R=cA nm body by rw[hA.out,List.drop_of_length_le (by have:=HL.out;omega)];rfl);have p5:=aB.box.cell 5;simp at p5;have au:=af (Ny nm (body.sz+1) body (.slice ba body.len bc) wr (by omega) (by have:=HS.out;omega) (Eb.mono aB.below));clear hA;go_wp2_with fail
   refine au.mono ?_;rintro e w2 ⟨rfl,hb2⟩;have aQ:=af (aB.on hb2);clear hb2 au p2 p5;go_wp2_with fail
   go_ret;exact⟨by rw[C8.out];rfl,aQ.below⟩
end
end Go.Proofs.YtlabadkfkbenoaaGreatDoor
