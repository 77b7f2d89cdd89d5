/- Walks and plain laws, merged: IntP IntS IntT. No condition. -/
import Derived.Test.YtlabadkfkbenoaaGreatDoorKp01
import Derived.Test.YtlabadkfkbenoaaGreatDoorKp14
import Derived.Test.YtlabadkfkbenoaaGreatDoorKp11
namespace Go.Proofs.YtlabadkfkbenoaaGreatDoor
open Go.RowKit
set_option linter.unusedVariables false
set_option linter.unusedSimpArgs false
set_option maxRecDepth 100000
set_option maxHeartbeats 64000000
section
open Go.Shelf
theorem eN.below {w w':World} {l:List Int} {v:Value} (h:eN w l v) (hb:Below w.heap.size w w'):eN w' l v:=by
 obtain⟨aa,ab,ao,ac,h1,h2,h3⟩:=h;exact⟨aa,ab,ao,ac,h1,h2,fun i hi=>ag (h3 i hi) hb⟩
theorem kG.sigB {p:Pt} {cf:Cf} {u:UT} {n d:Nat} {m:MS} {ve:EvS} {F:Nat} {fb:List dQ} {g cap:Nat} {ms:List Nat} {w:World} (h:kG p cf u n d m ve F fb g cap ms w) {s:ByteArray} {q:eE} (hv:getM s cf.cs=some q):
  ∃ka kc,wW (aA w (bJ p.B)) q.params (.slice ka q.params.length kc)∧∀w',Below w.heap.size w w'→(Instr.lookup 89 (.map (some p.cb)) (.string s) false).run Tryz.prog w'=.ok (.agg #[.slice ka q.params.length kc,.int .u8 q.type,.int .i64 q.host,.int .i64 q.fn]) w':=by
 obtain⟨l,h2,h3⟩:=h.st.nm.calls;have hm:=ew h2 (by simpa using h.st.lc);rcases h3.get s with⟨e1,e2⟩|⟨g',v,e1,e2,pv,rfl,h5⟩
 ·rw[hv] at e1;cases e1
 ·rw[hv] at e1;cases e1;have h6:=h5;obtain⟨ka,kb,aD,kc,rfl,-⟩:=h6;refine⟨ka,kc,h5,fun w' hb=>?_⟩;have hl:=(hm.mono hb).lookup jW bm s _ (nv w') false;rw[e2] at hl;simpa using hl
theorem wW.sub {w w':World} {l:List PW} {v:Value} (h:wW w l v) (hs:Cells w w'):wW w' l v:=by
 obtain⟨ka,kb,aD,aK,h1,h2,h3⟩:=h;exact⟨ka,kb,aD,aK,h1,h2,fun i hi=>⟨hs _ _ (h3 i hi).1,hs _ _ (h3 i hi).2⟩⟩
theorem C0 {w:World} {B:Nat} {a:Addr} {v:Value} (h:(aA w (bJ B)).cell? a=some v):a.block<B:=by
 rw[dx] at h;split at h
 ·rename_i q;simpa using q
 ·cases h
theorem kn {w:World} {base base':Nat} {e:TypeId} {size k:Nat} {v:Value} {ys:List Value} (h:w.ownsRow base e size v k ys) (hb:base'≤base):w.ownsRow base' e size v k ys:=by
 refine⟨h.1,?_⟩;rcases h.2 with q|⟨g,cap,cur,h1,h2,h3⟩
 ·exact .inl q
 ·exact .inr ⟨g,cap,cur,h1,Nat.le_trans hb h2,h3⟩
theorem KV.event {p:Pt} {ve aR:EvS} {w w3 w4:World} {v' z:Value} {n k:Nat} {xs news:List Value} (h:KV p ve aR w w3) (hA:aV w3 w4 n 127 4 aR.v v' k 1 xs news) (hz:∀b,z.ownBlock=some b→w.heap.size≤b):KV p ve ⟨v',aR.eZ++[z]⟩ w (w4.setCell ⟨p.M,8,none⟩ v'):=by
 refine⟨h.k.chain h.v h.size ((aU.gr hA.grown (Nat.le_refl _) fun k e=>.inl (.inr e)).trans (aU.gr (aj w4 ⟨p.M,8,none⟩ v') hA.grown.size fun k e=>by cases e;exact .inl (.inl (.inl rfl)))),?_,fun x hx=>?_⟩
 ·rcases hA.place with q|⟨b,q,q2,-⟩
  ·rcases h.v.1 with r|⟨c,r,r2⟩
   ·exact .inl (q.trans r)
   ·exact .inr ⟨c,q.trans r,r2⟩
  ·exact .inr ⟨b,q,Nat.le_trans h.size q2⟩
 ·rcases List.mem_append.1 hx with q|q
  ·exact h.v.2 x q
  ·simp at q;subst q;exact .inr hz
theorem Jb {l r:List (EH×az)} {a:EH×az} {j:Nat} (h:a::r=l.drop j):l[j]? =some a∧r=l.drop (j+1):=by
 have h1:(l.drop j)[0]? =some a:=by rw[←h];rfl
 have h2:(l.drop j).drop 1=r:=by rw[←h];rfl
 rw[List.getElem?_drop] at h1;rw[List.drop_drop] at h2;exact⟨by simpa using h1,h2.symm⟩
theorem call80 (p:Pt) (cf:Cf) (u:UT) (n:Nat) (aN:List Nat) (k d:Nat) (m:MS) (ve:EvS) (F:Nat) (fb:List dQ) (g cap:Nat) (ms:List Nat) (a0 a2 a3:Int) (a4 a5:ByteArray) (kids:az) (v:Value) (ty:Int) (w:World) (wS:cf.Ok) (HF:Hid (Tl p cf u n aN k)) (HE:Hid (CY p cf u n aN k)) (hx:XT cf (dm fb) ⟨a0,5,a2,a3,a4,a5⟩ kids ty) (lW:kids.Wf) (hv:dI (aA w (bJ p.B)) false none kids v) (hX:dW p cf u n aN d m ve F fb g cap ms w) (ey:aF cf (aI cf k) d (ai fb) ⟨a0,5,a2,a3,a4,a5⟩ kids m≠.lost):
  Calls Tryz.prog 80 #[.pointer (some ⟨p.M,0,none⟩),.pointer (some ⟨F,0,none⟩),qq a0 ⟨a0,5,a2,a3,a4,a5⟩ v] w (aX p cf.allowed n d w.heap.size ve (fun x=>.returned (.int .u32 x)) (aF cf (aI cf k) d (ai fb) ⟨a0,5,a2,a3,a4,a5⟩ kids m) w):=by
 obtain⟨ka,kc,rfl⟩:=hv.ay;obtain⟨ks,pL,hty⟩:=hx.kinds;have hn:=oo hx.ok;obtain⟨R,hR⟩:∃x,x=(aX p cf.allowed n d w.heap.size ve (fun x=>.returned (.int .u32 x)) (aF cf (aI cf k) d (ai fb) ⟨a0,5,a2,a3,a4,a5⟩ kids m) w):=⟨_,rfl⟩;rw[←hR];have HR:=af hR;clear hR;simp only[] at hn⊢;obtain⟨q,hq,hql,-⟩:=hx.call rfl;have vH:=hn.2.2.2.2.2 (by trivial);obtain⟨len,hlen⟩:∃z,z=kids.len:=⟨_,rfl⟩;rw[←hlen] at hv vH hql⊢;have cF:=(Below.refl w.heap.size w).alloc (Nat.le_refl _) (.cells #[.int .i64 a0,.int .u8 5,.int .u32 a2,.int .u8 a3,.string a4,.string a5,.slice ka len kc] 134);have cG:=hX.below cF;have hb0:=Bx.new w #[.int .i64 a0,.int .u8 5,.int .u32 a2,.int .u8 a3,.string a4,.string a5,.slice ka len kc] 134;have hh:=af (show aF cf (aI cf k) d (ai fb) ⟨a0,5,a2,a3,a4,a5⟩ kids m=(df (aI cf k) d (ai fb) kids m).bind fun args m=>(if q.host<0 then(aI cf k).F d q args m else je cf q args m) by rw[ML,hq]);have hnlA:=af (show df (aI cf k) d (ai fb) kids m≠.lost from Out.cN (by rw[←hh.out];exact ey));have qU:=af ey;have KT:Hid (∀wr aR,KV p ve aR w wr→dI (aA wr (bJ p.B)) false none kids (.slice ka len kc)):=af fun wr aR hk=>hv.sub (hX.c.cells hk.k)
 have KX:=af (And.intro hx.kids (And.intro pL lW));have Wh:n≤w.heap.size:=hX.c.me.size;have X0:=af cG;have bb0:=af hb0;have V0:=af (KV.of p ve cF);have Q:=af hq;have QL:=af hql;have YT:=af hlen;have MX:=af Wh;have OK:=af wS;clear hx lW hv hX ey pL hty hn cF cG hb0 hq hql hlen Wh wS;go_enter Tryz.func80,Tryz.ntmps80;go_wp2_with fail
 go_loopw [7,15] (fun z i wr=>∃(j:Nat) (r:az) (l:List Int) (m1:MS) (aR:EvS) (z0:Value),z0=z∧j+r.len=len∧i=.int .i64 j∧r.bu=kids.bu.drop j∧l.length=j∧(∀x∈l,U x)∧kj (aI cf k) d (ai fb) kids r l m m1∧wr.ownsRow w.heap.size 52 1 z j (l.map (Value.int .u32))∧dW p cf u n aN d m1 aR F fb g cap ms wr∧KV p ve aR w wr∧Bx wr w.heap.size #[.int .i64 a0,.int .u8 5,.int .u32 a2,.int .u8 a3,.string a4,.string a5,.slice ka len kc] 134∧∀x∈aR.eZ,∀b,z.ownBlock=some b→x.ownBlock≠some b) (fun _ i _=>len- (intOf i).toNat)
 case atStart=>exact⟨0,kids,[],m,ve,_,rfl,by have:=YT.out;omega,rfl,rfl,rfl,fun x hx=>by simp at hx,kj.start _ _ _ _ _,World.ownsRow_nil _ _ _ _,X0.out,V0.out,bb0.out,fun x _ b h=>by cases h⟩
 case round=>
  clear X0 V0 bb0;obtain⟨j,r,l,m1,aR,z0,hz0,hj,rfl,hr,hl,hu,iN,hown,aB,hV1,dT,tT⟩:=hrel;subst hz0;have HO:=af hown;have YU:=af aB;have QK:=af hV1;have lU:=af dT;have HVA:=af tT;have HU:=af hu;have HP:=af iN;have HL:=af hl;have HR2:=af hr;have HJ:=af hj;cases r with
  | nil=>
   have qC:j=len:=by simpa[az.len] using hj
   subst qC;have hrow:=af (eN.of hown (by rw[hl]));obtain⟨za,zb,zo,zc,rfl,-,-⟩:=hrow.out;have Jc:=kj.done iN;have hh:=af (show aF cf (aI cf k) d (ai fb) ⟨a0,5,a2,a3,a4,a5⟩ kids m=(if q.host<0 then(aI cf k).F d q l m1 else je cf q l m1) by rw[hh.out,Jc];rfl);have hb1:=aB.c.b0;have hx4:=aB.c.x4;have Wi:wr.cell? ⟨w.heap.size,4,none⟩=some (.string a4):=by simpa using dT.cell 4
   obtain⟨pa,pc,hsp,hlk⟩:=aB.c.sigB Q.out;have HLK:=af hlk;have HSP:=af hsp;clear hr hl hu iN hown aB hV1 dT tT hj Jc hlk hsp;obtain⟨ps,qt,ho,qf⟩:=q;simp only[] at HLK HSP hh QL;go_wp2_with fail
   refine wp_region_held_drew (S:=(Below wr.heap.size wr)) (by kernel_rfl) (Below.refl _ _).drew (fun hHeld=>?_);refine tk 0 ?_;refine tk 1 ?_;refine tk 2 ?_;refine tk 3 ?_ (hy:=by intro w' hSw;have q1:=ag hb1 hSw;go_simp;(try with_reducible rfl));refine tk 4 ?_;refine tk 5 ?_;refine tk 6 ?_;refine tk 7 ?_ (hy:=by intro w' hSw;have q1:=ag hx4 hSw;go_simp;(try with_reducible rfl));refine tk 8 ?_;refine tk 9 ?_ (hy:=by intro w' hSw;have q1:=ag Wi hSw;go_simp;(try with_reducible rfl));refine tk 10 ?_ (hy:=by intro w' hSw;have q1:=HLK.out _ hSw;go_simp;(try with_reducible rfl));refine tr 11 fun K hK=>?_
   go_simp;refine hK.out _ _ (((Below.refl wr.heap.size wr).alloc (Nat.le_refl _) _).drew) (fun hHeld=>?_);clear hK K
   try simp only[bK,bL,bM,bN,bO]
   refine tr 12 fun K hK=>?_
   go_simp;refine hK.out _ _ (((Below.refl wr.heap.size wr).alloc (Nat.le_refl _) _).drew) (fun hHeld=>?_);clear hK K
   try simp only[bK,bL,bM,bN,bO]
   refine td ?_;have dS:=(Bx.new wr #[.slice pa ps.length pc,.int .u8 qt,.int .i64 ho,.int .i64 qf] 114).on (aJ _ none) (by simp);clear hb1 hx4 Wi;generalize (wr.alloc (.cells #[.slice pa ps.length pc,.int .u8 qt,.int .i64 ho,.int .i64 qf] 114)).drew=w1 at dS hHeld⊢;have LG:=af hHeld;have e92:w1.cell? ⟨wr.heap.size,2,none⟩=some (.int .i64 ho):=by simpa using dS.cell 2
   have e90:w1.cell? ⟨wr.heap.size,0,none⟩=some (.slice pa ps.length pc):=by simpa using dS.cell 0
   have e91:w1.cell? ⟨wr.heap.size,1,none⟩=some (.int .u8 qt):=by simpa using dS.cell 1
   have e93:w1.cell? ⟨wr.heap.size,3,none⟩=some (.int .i64 qf):=by simpa using dS.cell 3
   have HB9:=af dS;clear dS hHeld;have aB:=af (YU.below LG.out);have hV1:=af (QK.below LG.out);by_cases tI:ho<0
   ·have hh:=af (show aF cf (aI cf k) d (ai fb) ⟨a0,5,a2,a3,a4,a5⟩ kids m=(aI cf k).F d ⟨ps,qt,ho,qf⟩ l m1 by rw[hh.out];exact if_pos tI);have Wj:(aI cf k).F d ⟨ps,qt,ho,qf⟩ l m1≠.lost:=by rw[←hh.out];exact qU.out
    have cx:=af (HF.out d m1 aR a4 ⟨ps,qt,ho,qf⟩ l (.slice za l.length zc) pa pc w1 Q.out tI (by rw[HL.out];exact QL.symm) HU.out (hrow.below LG.out) (HSP.sub (aw LG.out)) aB.c.st aB.c.me aB.c.pos aB.inv aB.rg Wj);have kz:=af (show∀e w2,aX p cf.allowed n d w1.heap.size aR (fun x=>.returned (.int .u32 x)) ((aI cf k).F d ⟨ps,qt,ho,qf⟩ l m1) w1 e w2→R e w2 from fun e w2 h=>by rw[HR.out,hh.out];exact h.chain hV1.k hV1.v hV1.size);simp only[] at cx;have Wk:decide (ho<0)=true:=by simpa using tI
    go_wp2_with fail
    refine cx.mono ?_;intro e w2 hp;have HPP:=af hp;cases kE:(aI cf k).F d ⟨ps,qt,ho,qf⟩ l m1 with
    |lost=>exact absurd kE Wj
    |stop a b m2=>
     rw[kE] at hp;obtain⟨rfl,-⟩:=hp;clear cx;go_wp2_with fail
     refine ar ?_;exact kz.out _ _ HPP.out
    |ok x m2=>
     rw[kE] at hp;obtain⟨rfl,-⟩:=hp;clear cx;go_wp2_with fail
     exact kz.out _ _ HPP.out
   ·obtain⟨i,rfl⟩:∃i:Nat,ho=i:=⟨ho.toNat,by omega⟩;obtain⟨tV,hhs⟩:=(OK.call a4 _ Q.out).2 tI;have hh:=af (show aF cf (aI cf k) d (ai fb) ⟨a0,5,a2,a3,a4,a5⟩ kids m=je cf ⟨ps,qt,i,qf⟩ l m1 by rw[hh.out];exact if_neg tI);obtain⟨ka5,kb5,Jd,Je,v1,v2,-,v3⟩:=aB.c.st.vals;obtain⟨en,YV,fa,ET⟩:=aB.c.me.box;have m2:w1.cell? ⟨p.M,2,none⟩=some (.slice ka5 cf.values.length Je):=by rw[←v1];simpa using ET.cell 2
    have m7:w1.cell? ⟨p.M,7,none⟩=some (.int .i64 m1.reps):=by simpa using ET.cell 7
    have m2d:w1.drew.cell? ⟨p.M,2,none⟩=some (.slice ka5 cf.values.length Je):=ag m2 (Below.refl _ _).drew;have m7d:w1.drew.cell? ⟨p.M,7,none⟩=some (.int .i64 m1.reps):=ag m7 (Below.refl _ _).drew;have Wk:decide ((i:Int)<0)=false:=by simp
    have YW:=af ET;have V3:=af v3;have hrl:=aB.inv.reps;obtain⟨vl,Aj⟩:∃z,z=cf.values.length:=⟨_,rfl⟩;rw[←Aj] at m2 m2d v2 hrl;have HVL:=af Aj;have HHS:=af hhs;clear ET v3 Aj hhs v1 tI;by_cases hrep:vl≤m1.reps
    ·have hr2:((m1.reps:Int)≥(vl:Int)):=by omega
     have hz:=af (show aF cf (aI cf k) d (ai fb) ⟨a0,5,a2,a3,a4,a5⟩ kids m=.stop 4 0 m1 by rw[hh.out];unfold je;rw[List.getElem?_eq_none (by have:=HVL.out;omega)]);clear hh e90 e91 e93;go_wp2_with fail
     go_region
     go_wp2_with fail
     refine ar ?_;rw[HR.out,hz.out];exact dG (aB.c.me.below (Below.refl _ _).drew) (hV1.below (Below.refl _ _).drew) rfl
    ·have hr2:¬((m1.reps:Int)≥(vl:Int)):=by omega
     have hlt:m1.reps<vl:=by omega
     have lQ:m1.reps<cf.values.length:=by have:=HVL.out;omega
     have zz:ka5=some ⟨kb5,Jd,none⟩:=by rcases v2 with q|q;(·omega);(·exact q)
     subst zz;have hz:=af (show aF cf (aI cf k) d (ai fb) ⟨a0,5,a2,a3,a4,a5⟩ kids m=.ok cf.values[m1.reps] {m1 with reps:=m1.reps+1,evs:=m1.evs++[⟨tV.number,l,cf.values[m1.reps]⟩]} by rw[hh.out];unfold je;rw[List.getElem?_eq_getElem lQ];simp only[Int.toNat_natCast];rw[show cf.hs[i]? =some tV from HHS.out]);have hcv:=V3.out m1.reps lQ;have Wl:w1.drew.drew.cell? ⟨kb5,Jd+m1.reps,none⟩=some (.int .u32 cf.values[m1.reps]):=ag hcv ((Below.refl _ _).drew.trans ((Below.refl _ _).drew.mono (Below.refl w1.heap.size w1).drew.size));have m2e:w1.drew.drew.cell? ⟨p.M,2,none⟩=some (.slice (some ⟨kb5,Jd,none⟩) vl Je):=ag m2d (Below.refl _ _).drew;have m7e:w1.drew.drew.cell? ⟨p.M,7,none⟩=some (.int .i64 m1.reps):=ag m7d (Below.refl _ _).drew;have l6:=aB.c.st.VM;rw[←HVL.out] at l6;have hU:=af (show m1.reps+1≤1000000000 by omega);generalize cf.values[m1.reps]=rv at hz hcv Wl;clear hh e90 e91 e93 v2 lQ;go_wp2_with fail
     go_region
     go_wp2_with fail
     go_region
     have ET:=YW.out;have f7:w1.drew.drew.frozen? ⟨p.M,7,none⟩=false:=(YW.on (ah (Below.refl _ _).drew) (by simp)).free 7 |> fun h=>by simpa using h
     have hw:IntKind.i64.wrap ((m1.reps:Int)+1)=((m1.reps+1:Nat):Int):=by rw[IntWalk.i64_in _ (by have:=hU.out;omega)];omega
     clear ET;go_wp2_with fail
     have O1:=aj w1 ⟨p.M,7,none⟩ (.int .i64 ((m1.reps:Int)+1));have Wm:=((Below.refl (w1.setCell ⟨p.M,7,none⟩ (.int .i64 ((m1.reps:Int)+1))).heap.size (w1.setCell ⟨p.M,7,none⟩ (.int .i64 ((m1.reps:Int)+1)))).drew).drew;have KM:KV p aR aR w1 (w1.setCell ⟨p.M,7,none⟩ (.int .i64 ((m1.reps:Int)+1))):=⟨aU.gr O1 (Nat.le_refl _) fun k e=>by cases e;exact .inl (.inl (.inl rfl)),Vc.refl _ _⟩;have YX:=KM.below Wm;have M2:=(aB.c.me.Ja (steps:=m1.steps) (reps:=m1.reps+1) (d':=d) O1 ⟨en,YV,fa,by have h:=YW.set 7 (.int .i64 ((m1.reps:Int)+1));rw[show((m1.reps:Int)+1)=((m1.reps+1:Nat):Int) by omega] at h⊢;simpa using h⟩).below Wm;have Wn:p.M≠wr.heap.size:=by have:=aB.c.me.mlt;have:=MX.out;have:=QK.size;omega
     have B2:=(HB9.on O1 (by simpa using Wn.symm)).on (ah Wm) (by simp);have R2:=aC ((aC HO.out LG.out).kept O1 (.inr fun e=>YW.not_row (aC HO.out LG.out) (by decide) e.symm)) Wm;have YY:=YX.k.box aB.c.st.X aB.c.st.X.lt (aB.c.me.dB aB.c.st.X (by decide) (by decide) (by decide));obtain⟨vg9,vh9,vf9,Wo,-,Kr,-⟩:=aB.c.st.unit;cases Wo;obtain⟨ha,Ad,hof,Hc,hvh,ig,vD⟩:=ei.open Kr;have Gh:i<u.hs.length:=by rw[aB.c.st.hs];exact(List.getElem?_eq_some_iff.1 HHS.out).1
     have hrc:u.hs[i]=tV:=by have h:=HHS.out;simp only[Int.toNat_natCast,←aB.c.st.hs] at h;rw[List.getElem?_eq_getElem Gh] at h;exact Option.some.inj h
     have MZ:=(vD i Gh).c4;rw[hrc] at MZ;have Jf:=aZ _ _ _ _ (aB.c.cells YX.k _ _ MZ);have hha2:ha=some ⟨Ad,hof,none⟩:=by rcases ig with q|q;(·omega);(·exact q)
     subst hha2;have V2:=hV1.trans YX;obtain⟨hl9,Wp⟩:∃z,z=u.hs.length:=⟨_,rfl⟩;rw[←Wp] at hvh Gh;have O2:¬p.TE aR Ad:=aB.c.me.old aB.c.st.M aB.c.st.Bn (C0 MZ);have hV2:=af V2;clear Wm KM YX MZ hrc vD Kr Wp hcv Wl m2 m2d m2e m7 m7d m7e f7 hw V2 Wn ig;generalize ((w1.setCell ⟨p.M,7,none⟩ (.int .i64 ((m1.reps:Int)+1))).drew).drew=w2 at M2 B2 R2 YY hV2 Jf⊢;have nX:=M2.dB YY (by decide) (by decide) (by decide);have n9:=M2.dB B2 (by decide) (by decide) (by decide);obtain⟨Tm,Tn,Tp,Wq⟩:=M2.box;have Ws:w2.drew.cell? ⟨p.M,0,none⟩=some (.pointer (some ⟨p.X,0,none⟩)):=ag (by simpa using Wq.cell 0) (Below.refl _ _).drew;have EX:=af (show∀w9,aU (p.TE aR) w2.heap.size w2 w9→w9.cell? ⟨p.X,1,none⟩=some (.slice (some ⟨Ad,hof,none⟩) hl9 Hc) from fun w9 hk=>hk.at (by rw[←hvh];simpa using YY.cell 1) nX);have E9:=af (show∀w9,aU (p.TE aR) w2.heap.size w2 w9→w9.cell? ⟨wr.heap.size,2,none⟩=some (.int .i64 i) from fun w9 hk=>hk.at (by simpa using B2.cell 2) n9);have EN:=af (show∀w9,aU (p.TE aR) w2.heap.size w2 w9→w9.cell? ⟨Ad,hof+i*5+4,none⟩=some (.int .u32 tV.number) from fun w9 hk=>hk.at Jf O2);have M3:=af (M2.below (Below.refl _ _).drew);have R3:=af (aC R2 (Below.refl _ _).drew);have V3:=af (hV2.below (Below.refl _ _).drew);have K23:=af (aU.of (T:=p.TE aR) (Below.refl w2.heap.size w2).drew);have hlt9i:(i:Int)<(hl9:Int):=by omega
     clear M2 B2 R2 YY Jf nX n9 Wq O2 hvh;refine wp_region_held_drew (S:=(fun w9=>aU (p.TE aR) w2.heap.size w2 w9∧w9.cell? ⟨p.M,0,none⟩=some (.pointer (some ⟨p.X,0,none⟩)))) (by kernel_rfl) ⟨K23.out,Ws⟩ (fun hHeld=>?_);generalize w2.drew=w3 at M3 R3 V3 K23 Ws hHeld⊢;refine tk 0 ?_;refine tk 1 ?_;refine tk 2 ?_;refine tk 3 ?_;refine tk 4 ?_;refine tk 6 ?_;refine tk 7 ?_;refine tk 8 ?_;refine tk 9 ?_ (hy:=by intro w' hSw;have q:=hSw.2;go_simp;(try with_reducible rfl));refine tk 10 ?_;refine tk 11 ?_;refine tk 12 ?_;refine tk 13 ?_ (hy:=by intro w' hSw;have q:=EX.out w' hSw.1;go_simp;(try with_reducible rfl));refine tk 14 ?_;refine tk 15 ?_ (hy:=by intro w' hSw;have q:=E9.out w' hSw.1;go_simp;(try with_reducible rfl));refine tk 16 ?_;refine tk 17 ?_;refine tk 18 ?_ (hy:=by intro w' hSw;have q:=EN.out w' hSw.1;go_simp;(try with_reducible rfl));refine tk 19 ?_;refine tk 20 ?_;refine tk 21 ?_;obtain⟨ats,he⟩:=M3.evs;obtain⟨en3,vx3,fa3,EU⟩:=M3.box;have e8:w3.cell? ⟨p.M,8,none⟩=some aR.v:=by simpa using EU.cell 8
     have tQ:=af he;have hEL:m1.evs.length≤1000000000:=by have:=aB.inv.evs;have:=hU.out;omega
     have YZ:=M3.size;have e8b:(w3.alloc (.cells #[.int .u32 0,.int .u32 tV.number,.slice za l.length zc,.int .u32 rv] 127)).cell? ⟨p.M,8,none⟩=some aR.v:=(EU.al _).cell 8;have S3:=af hHeld;clear he;refine wpAnyH_ready (rs:=[5,22]) (by kernel_rfl) (by simp) ?_;refine AllReadyH.cons (by simp only[List.getElem?_toArray,List.getElem?_cons_succ,List.getElem?_cons_zero];rfl) (fun K hK=>?_) (AllReadyH.cons (by simp only[List.getElem?_toArray,List.getElem?_cons_succ,List.getElem?_cons_zero];rfl) (fun K hK=>?_) AllReadyH.nil)
     ·go_simp;refine hK.out _ _ S3.out (fun hHeld=>?_);clear hK K
      try simp only[bK,bL,bM,bN,bO]
      refine tr 22 fun K hK=>?_
      go_simp;refine hK.out _ _ (show(fun w9=>aU (p.TE aR) w2.heap.size w2 w9∧w9.cell? ⟨p.M,0,none⟩=some (.pointer (some ⟨p.X,0,none⟩))) (w3.alloc (.cells #[.int .u32 0,.int .u32 tV.number,.slice za l.length zc,.int .u32 rv] 127)) from⟨S3.1.trans (aU.of (((Below.refl w3.heap.size w3).alloc (Nat.le_refl _) _).mono S3.1.size)),ag S3.2 ((Below.refl w3.heap.size w3).alloc (Nat.le_refl _) _)⟩) (fun hHeld=>?_);clear hK K
      try simp only[bK,bL,bM,bN,bO]
      refine tr 23 fun K hK=>?_
      refine dg rfl _ _ 54 rfl n 127 127 (.agg #[.int .u32 0,.int .u32 0,.slice none 0 0,.int .u32 0]) 4 40 1 Tryz.underlying54 (by kernel_rfl) rfl (by decide) aR.v m1.evs.length (eD m1.evs aR.eZ ats) [.int .u32 0,.int .u32 tV.number,.slice za l.length zc,.int .u32 rv] (0,0) tQ.row rfl (by simp[Value.oneCell']) (by unfold maxLen;omega) (by omega) YZ rfl rfl ?_;intro v' w4 hA;obtain⟨na,nc,rfl,-⟩:=aP hA.own;have ME:=af (M3.event tQ.out hA (by have r3:=R3.out;rw[←HL.out] at r3;exact kn r3 MX.out));have VE:=af (V3.event hA (fun b hb=>(R3.lt b hb).1));have sL:=EU.on hA.grown (EU.not_row tQ.row (by decide));have f84:=sL.free 8;have z84:=sL.cell 8;have Wt:w4.cell? ⟨p.M,0,none⟩=some (.pointer (some ⟨p.X,0,none⟩)):=by simpa using sL.cell 0
      simp at z84;have hk4:=af (show(fun w9=>aU (p.TE aR) w2.heap.size w2 w9∧w9.cell? ⟨p.M,0,none⟩=some (.pointer (some ⟨p.X,0,none⟩))) w4 from⟨S3.1.trans (aU.gr hA.grown S3.1.size fun k e=>.inl (.inr e)),Wt⟩);have zz:=af (show(fun w9=>aU (p.TE aR) w2.heap.size w2 w9∧w9.cell? ⟨p.M,0,none⟩=some (.pointer (some ⟨p.X,0,none⟩))) (w4.setCell ⟨p.M,8,none⟩ (.slice na (m1.evs.length+1) nc)) from⟨hk4.1.trans (aU.gr (aj w4 ⟨p.M,8,none⟩ (.slice na (m1.evs.length+1) nc)) hk4.1.size fun k e=>by cases e;exact .inl (.inl (.inl rfl))),by simpa using(sL.set 8 (.slice na (m1.evs.length+1) nc)).cell 0⟩);clear hA sL Wt;refine hK.out _ _ hk4.out (fun hHeld=>?_);clear hK K
      try simp only[bK,bL,bM,bN,bO]
      refine tk 24 ?_;refine tk 25 ?_;refine tk 26 ?_;refine tr 27 fun K hK=>?_
      go_simp;refine hK.out _ _ zz.out (fun hHeld=>?_);clear hK K
      try simp only[bK,bL,bM,bN,bO]
      refine td ?_;go_wp2_with fail
      rw[HR.out,hz.out];exact⟨rfl,_,ME.out,VE.k,VE.v⟩
     ·go_simp;refine hK.out _ _ (show(fun w9=>aU (p.TE aR) w2.heap.size w2 w9∧w9.cell? ⟨p.M,0,none⟩=some (.pointer (some ⟨p.X,0,none⟩))) (w3.alloc (.cells #[.int .u32 0,.int .u32 tV.number,.slice za l.length zc,.int .u32 rv] 127)) from⟨S3.1.trans (aU.of (((Below.refl w3.heap.size w3).alloc (Nat.le_refl _) _).mono S3.1.size)),ag S3.2 ((Below.refl w3.heap.size w3).alloc (Nat.le_refl _) _)⟩) (fun hHeld=>?_);clear hK K
      try simp only[bK,bL,bM,bN,bO]
      refine tr 5 fun K hK=>?_
      go_simp;refine hK.out _ _ (show(fun w9=>aU (p.TE aR) w2.heap.size w2 w9∧w9.cell? ⟨p.M,0,none⟩=some (.pointer (some ⟨p.X,0,none⟩))) (w3.alloc (.cells #[.int .u32 0,.int .u32 tV.number,.slice za l.length zc,.int .u32 rv] 127)) from⟨S3.1.trans (aU.of (((Below.refl w3.heap.size w3).alloc (Nat.le_refl _) _).mono S3.1.size)),ag S3.2 ((Below.refl w3.heap.size w3).alloc (Nat.le_refl _) _)⟩) (fun hHeld=>?_);clear hK K
      try simp only[bK,bL,bM,bN,bO]
      refine tr 23 fun K hK=>?_
      refine dg rfl _ _ 54 rfl n 127 127 (.agg #[.int .u32 0,.int .u32 0,.slice none 0 0,.int .u32 0]) 4 40 1 Tryz.underlying54 (by kernel_rfl) rfl (by decide) aR.v m1.evs.length (eD m1.evs aR.eZ ats) [.int .u32 0,.int .u32 tV.number,.slice za l.length zc,.int .u32 rv] (0,0) tQ.row rfl (by simp[Value.oneCell']) (by unfold maxLen;omega) (by omega) YZ rfl rfl ?_;intro v' w4 hA;obtain⟨na,nc,rfl,-⟩:=aP hA.own;have ME:=af (M3.event tQ.out hA (by have r3:=R3.out;rw[←HL.out] at r3;exact kn r3 MX.out));have VE:=af (V3.event hA (fun b hb=>(R3.lt b hb).1));have sL:=EU.on hA.grown (EU.not_row tQ.row (by decide));have f84:=sL.free 8;have z84:=sL.cell 8;have Wt:w4.cell? ⟨p.M,0,none⟩=some (.pointer (some ⟨p.X,0,none⟩)):=by simpa using sL.cell 0
      simp at z84;have hk4:=af (show(fun w9=>aU (p.TE aR) w2.heap.size w2 w9∧w9.cell? ⟨p.M,0,none⟩=some (.pointer (some ⟨p.X,0,none⟩))) w4 from⟨S3.1.trans (aU.gr hA.grown S3.1.size fun k e=>.inl (.inr e)),Wt⟩);have zz:=af (show(fun w9=>aU (p.TE aR) w2.heap.size w2 w9∧w9.cell? ⟨p.M,0,none⟩=some (.pointer (some ⟨p.X,0,none⟩))) (w4.setCell ⟨p.M,8,none⟩ (.slice na (m1.evs.length+1) nc)) from⟨hk4.1.trans (aU.gr (aj w4 ⟨p.M,8,none⟩ (.slice na (m1.evs.length+1) nc)) hk4.1.size fun k e=>by cases e;exact .inl (.inl (.inl rfl))),by simpa using(sL.set 8 (.slice na (m1.evs.length+1) nc)).cell 0⟩);clear hA sL Wt;refine hK.out _ _ hk4.out (fun hHeld=>?_);clear hK K
      try simp only[bK,bL,bM,bN,bO]
      refine tk 24 ?_;refine tk 25 ?_;refine tk 26 ?_;refine tr 27 fun K hK=>?_
      go_simp;refine hK.out _ _ zz.out (fun hHeld=>?_);clear hK K
      try simp only[bK,bL,bM,bN,bO]
      refine td ?_;go_wp2_with fail
      rw[HR.out,hz.out];exact⟨rfl,_,ME.out,VE.k,VE.v⟩
  | cons h0 kk rest=>
   simp only[az.len] at hj;obtain⟨uZ,Wu⟩:=Jb (show(h0,kk)::rest.bu=kids.bu.drop j from hr);obtain⟨b9,o9,Wv,t,xa,xc,dH,hk2,hk3⟩:=(KT.out wr aR hV1).kid j (h0,kk) uZ;obtain⟨rfl,hlk,rfl⟩:ka=some ⟨b9,o9,none⟩∧len=kids.len∧kc=Wv:=by simpa using dH
   obtain⟨Ww,hx9,-⟩:=dL KX.1 KX.2.1 j (h0,kk) uZ;obtain⟨Aa,Ca⟩:=az.fW KX.2.2 j (h0,kk) uZ;have ey:=HP.nl hnlA.out;have Q7:=hk2.sub (aZ _ _);obtain⟨c0,c1,c2,c3,c4,c5⟩:=h0;obtain⟨y0,y1,y2,y3,y4,y5,y6⟩:=Q7;simp only[] at y1 y2 y3 y4 y5 y6;have BW:=af ((Below.refl wr.heap.size wr).alloc (Nat.le_refl _) (.cells #[.int .i64 t,.int .u8 c1,.int .u32 c2,.int .u8 c3,.string c4,.string c5,.slice xa kk.len xc] 134));have XB:=af (aB.below BW.out);have cx:=af (HE.out d m1 aR F fb g cap ms t ⟨c0,c1,c2,c3,c4,c5⟩ kk (.slice xa kk.len xc) Ww _ hx9 Aa Ca (hk3.sub (aw BW.out)) XB.out ey);have HRD:=af Wu;have Kd:j<len:=by omega
   have z6:wr.cell? ⟨w.heap.size,6,none⟩=some (.slice (some ⟨b9,o9,none⟩) len kc):=by simpa using dT.cell 6
   have hlim:len≤15:=vH;have HRL:=af hj;clear dH hk2 hk3 hx9 Aa Ca hr hl hu iN hown aB hV1 dT tT uZ Wu hj hlk YT vH;go_wp2_with fail
   refine cx.mono ?_;intro e w2 hp;clear cx;cases ho:(aI cf k).E d (ai fb) ⟨c0,c1,c2,c3,c4,c5⟩ kk m1 with
   |lost=>exact absurd ho ey
   |stop a b m2=>
    rw[ho] at hp;obtain⟨rfl,eI,d2,dC,hV2⟩:=hp;have hz:=af (show aF cf (aI cf k) d (ai fb) ⟨a0,5,a2,a3,a4,a5⟩ kids m=.stop a b m2 by rw[hh.out,HP.stop ho];rfl);have F1:Hid (aX p cf.allowed n d w.heap.size ve (fun x=>.returned (.int .u32 x)) (.stop a b m2) w (dy a b) w2):=af (dG dC (QK.trans ((KV.of p aR BW.out).trans hV2)) rfl);clear dC hV2 ho ey hh;go_wp2_with fail
    refine ar ?_;rw[HR.out,hz.out];exact F1.out
   | ok x m2=>
    rw[ho] at hp;obtain⟨rfl,MU,eI,aL,hV2⟩:=hp;have oU:=af (XB.MW (aC HO.out BW.out) MX.out hV2);have hzl:=af (fun b hb=>(aC HO.out BW.out).lt b hb);have hsz:w.heap.size≤w2.heap.size:=Nat.le_trans QK.size (Nat.le_trans BW.size hV2.size);have tU:=af (show∀y∈eI.eZ,∀b,z0.ownBlock=some b→y.ownBlock≠some b from fun y hy b hb e=>by
     rcases hV2.v.2 y hy with q|q
     ·exact HVA.out y q b hb e
     ·have h1:=q b e;have h2:=(hzl.out b hb).2;omega)
    have V2:=af (QK.trans ((KV.of p aR BW.out).trans hV2));have X2:=af aL;have bx2:=af (hV2.k.box (lU.on (ah BW.out) (by simp)) (lU.on (ah BW.out) (by simp)).lt (XB.c.me.dB (lU.on (ah BW.out) (by simp)) (by decide) (by decide) (by decide)));have PS:=af (HP.step ho);have UU:=af MU;clear aL hV2 ho ey MU;go_wp2_with (at_builtin;refine aG rfl _ _ 27 rfl w.heap.size 52 52 (.int .u32 0) 1 4 1 Tryz.underlying27 (by kernel_rfl) rfl (by decide) _ j _ [_] (0,0) oU.out rfl (by simp[Value.oneCell']) (by unfold maxLen;omega) (by omega) hsz rfl rfl ?_;intro v' w' hA;have hA':=af hA;clear hA)
    exact⟨⟨j+1,rest,l++[x],m2,eI,_,rfl,by have:=HRL.out;omega,by go_num,HRD.out,by simp[HL.out],fun y hy=>(List.mem_append.1 hy).elim (HU.out y) (fun q=>by simp at q;subst q;exact UU.out),PS.out,by simpa using hA'.own,X2.Wb oU.out MX.out tU.out hA'.grown,⟨V2.k.trans (aU.gr hA'.grown V2.size fun k e=>.inr (oU.lt k e).1),V2.v⟩,bx2.on hA'.grown (bx2.not_row oU.out (by decide)),fun y hy b hb e=>by
     rcases hA'.place with q|⟨g9,q,q2,-⟩
     ·exact tU.out y hy b (q▸hb) e
     ·rw[q] at hb;cases hb;have:=X2.c.me.Wc hy e;omega⟩,by simp only[intOf];omega⟩
end
section
open Go.Shelf
theorem dp:Tryz.prog.underlying 132=some (.int .u8):=by kernel_rfl
theorem Q8 (p:Pt) (cf:Cf) (u:UT) (n:Nat) (aN:List Nat) (k:Nat) (wS:cf.Ok) (tW:cf.Rg) (ha:cf.jd=gm) (dU:cf.allowed≤65536) (HE:Hid (CY p cf u n aN k)) (HF:Hid (Tl p cf u n aN k)):CY p cf u n aN (k+1):=by
 intro d m ve F fb g cap ms t h kids v ty w hx hw lW hv hX ey;refine Calls.mono ?_ fun e w' hp=>aX.lift hX ((gF cf aN (k+1)).E d (ai fb) h kids m hX.inv) ((pz tW (k+1)).E d (ai fb) h kids m hw lW hX.I6 hX.rg) hp
 obtain⟨ka,kc,rfl⟩:=hv.ay;obtain⟨R,hR⟩:∃x,x=aX p cf.allowed n d w.heap.size ve (fun x=>Ending.returned (.int .u32 x)) ((aI cf (k+1)).E d (ai fb) h kids m) w:=⟨_,rfl⟩;rw[←hR];have HR:=af hR;clear hR;have Jg:=af (show(aI cf (k+1)).E d (ai fb) h kids m=(tick cf m).bind fun _ m=>aF cf (aI cf k) d (ai fb) h kids m from rfl);obtain⟨a0,a1,a2,a3,a4,a5⟩:=h;have hn:=(oo hx.ok).1;simp only[] at hn hw⊢;have cF:=(Below.refl w.heap.size w).alloc (Nat.le_refl _) (.cells #[.int .i64 t,.int .u8 a1,.int .u32 a2,.int .u8 a3,.string a4,.string a5,.slice ka kids.len kc] 134);have cG:=hX.below cF;have hb0:=Bx.new w #[.int .i64 t,.int .u8 a1,.int .u32 a2,.int .u8 a3,.string a4,.string a5,.slice ka kids.len kc] 134;have cs:=af (vY p cf n d m ve _ dU hX.inv.steps cG.c.me);have V0:=af (KV.of p ve cF);have HHN:=af ey;by_cases hc:cf.allowed≤m.steps
 ·have ht:tick cf m=.stop 3 0 m:=by unfold tick;rw[if_pos hc]
  rw[ht] at cs;have hh:=af (show(aI cf (k+1)).E d (ai fb) ⟨a0,a1,a2,a3,a4,a5⟩ kids m=.stop 3 0 m by rw[Jg.out,ht];rfl);clear hx lW hv ey ha wS tW dU hX cG cF hw Jg hn hb0 hc ht HE HF;go_enter Tryz.func79,Tryz.ntmps79;go_wp2_with fail
  refine cs.mono ?_;rintro e w1 ⟨rfl,aR,d1,pZ,FL,hV1⟩;have F1:Hid (aX p cf.allowed n d w.heap.size ve (fun x=>.returned (.int .u32 x)) (.stop 3 0 m) w (dy 3 0) w1):=af (dG pZ (V0.trans ⟨FL,hV1⟩) rfl);clear pZ FL hV1 cs;go_wp2_with fail
  refine ar ?_;rw[HR.out,hh.out];exact F1.out
 have ht:tick cf m=.ok () {m with steps:=m.steps+1}:=by unfold tick;rw[if_neg hc]
 have hh:=af (show(aI cf (k+1)).E d (ai fb) ⟨a0,a1,a2,a3,a4,a5⟩ kids m=aF cf (aI cf k) d (ai fb) ⟨a0,a1,a2,a3,a4,a5⟩ kids {m with steps:=m.steps+1} by rw[Jg.out,ht];rfl);have Kw:Inv cf aN {m with steps:=m.steps+1}:=by have:=lI (cf:=cf) m hX.inv;rw[ht] at this;exact this
 have hr1:MS.Rg {m with steps:=m.steps+1}:=hX.rg;have CS:=af (fun(e:Ending) (w1:World) (hp:aX p cf.allowed n d _ ve (fun _=>.returned (.tuple #[])) (tick cf m) _ e w1)=>aX.lift (P:=fun _=>True) cG (by rw[ht];exact Kw) (by rw[ht];exact⟨trivial,hr1⟩) hp);have dh:aF cf (aI cf k) d (ai fb) ⟨a0,a1,a2,a3,a4,a5⟩ kids {m with steps:=m.steps+1}≠.lost:=by rw[←hh.out];exact ey
 generalize ({m with steps:=m.steps+1}:MS)=m1 at ht hh dh Kw hr1;have M0:=af hb0;have Jh:=af cG;clear Kw hr1 hb0;go_enter Tryz.func79,Tryz.ntmps79;go_wp2_with fail
 refine cs.mono ?_;intro e w1 hp;have h1:=CS.out e w1 hp;rw[ht] at h1;obtain⟨rfl,-,aR,aB,hV1⟩:=h1;have dT:=hV1.k.box M0.out M0.lt (Jh.c.me.dB M0.out (by decide) (by decide) (by decide));have e0:w1.cell? ⟨w.heap.size,0,none⟩=some (.int .i64 t):=by simpa using dT.cell 0
 have e1:w1.cell? ⟨w.heap.size,1,none⟩=some (.int .u8 a1):=by simpa using dT.cell 1
 have e2:w1.cell? ⟨w.heap.size,2,none⟩=some (.int .u32 a2):=by simpa using dT.cell 2
 have e3:w1.cell? ⟨w.heap.size,3,none⟩=some (.int .u8 a3):=by simpa using dT.cell 3
 have e4:w1.cell? ⟨w.heap.size,4,none⟩=some (.string a4):=by simpa using dT.cell 4
 have e5:w1.cell? ⟨w.heap.size,5,none⟩=some (.string a5):=by simpa using dT.cell 5
 have e6:w1.cell? ⟨w.heap.size,6,none⟩=some (.slice ka kids.len kc):=by simpa using dT.cell 6
 have pw:=aB.c.pw;have NE:=af (aB.c.me.dB dT (by decide) (by decide) (by decide));have V1:=af (V0.trans hV1);have wT:=(hv.sub (aw cF)).sub (cG.c.cells (hV1.k.trans (aU.of ((Below.refl w1.heap.size w1).drew.mono hV1.size))));clear hp cs CS ht hc dT hV1 M0 Jh cG V0;rcases hn with hn|hn|hn|hn|hn|hn|hn|hn<;>subst hn
 ·have tM:=af (show∀w9,aU (p.TE aR) w1.heap.size w1 w9→(Instr.lookup 117 (.map (some p.kb)) (.int .u8 1) false).run Tryz.prog w9=.ok (.func (.func 74) #[] #[]) w9 from fun w9 hk=>by
  obtain⟨es,c9,q1,q2⟩:=aB.c.st.kinds;exact(nh.at ⟨es,c9,q1,q2⟩ (hk.block _ aB.c.st.kinds.lt (aB.c.me.jt q1))).lookup Tryz.underlying117 dp 1 _ rfl)
  have cx:=af (OZ F t 1 a2 a3 a4 a5 ka kids.len kc w1.drew);have X1:=af aB;have W0:=af (KV.of p aR (Below.refl w1.heap.size w1).drew);have kz:=af (show∀e w2,aX p cf.allowed n d w1.drew.heap.size aR (fun x=>.returned (.int .u32 x)) (aF cf (aI cf k) d (ai fb) ⟨t,1,a2,a3,a4,a5⟩ kids m1) w1.drew e w2→R e w2 from fun e w2 h=>by
   rw[HR.out,hh.out];exact h.chain (V1.trans W0.out).k (V1.trans W0.out).v (V1.trans W0.out).size)
  clear aB hx lW hv wT ey ha wS tW dU hX cF hw Jg;go_wp2_with fail
  refine wp_region_held_drew (S:=(fun w9=>aU (p.TE aR) w1.heap.size w1 w9∧w9.cell? ⟨p.M,10,none⟩=some (.map (some p.kb)))) (by kernel_rfl) ⟨W0.k,ag pw (Below.refl _ _).drew⟩ (fun hHeld=>?_);refine tk 0 ?_;refine tk 1 ?_;refine tk 2 ?_;refine tk 3 ?_ (hy:=by intro w' hSw;have q1:=hSw.2;go_simp;(try with_reducible rfl));refine tk 4 ?_;refine tk 5 ?_ (hy:=by intro w' hSw;have q1:=hSw.1.at e1 NE.out;go_simp;(try with_reducible rfl));refine tk 6 ?_ (hy:=by intro w' hSw;have q1:=tM.out _ hSw.1;go_simp;(try with_reducible rfl));refine tk 7 ?_;refine tk 8 ?_ (hy:=by intro w' hSw;have q0:=hSw.1.at e0 NE.out;have q1:=hSw.1.at e1 NE.out;have q2:=hSw.1.at e2 NE.out;have q3:=hSw.1.at e3 NE.out;have q4:=hSw.1.at e4 NE.out;have q5:=hSw.1.at e5 NE.out;have q6:=hSw.1.at e6 NE.out;go_simp;(try with_reducible rfl));refine tr 9 fun K hK=>?_
  go_simp;refine cx.mono ?_;rintro e w2 ⟨rfl,hb2⟩;have FF:=af (kz.out _ _ (show aX p cf.allowed n d w1.drew.heap.size aR (fun x=>.returned (.int .u32 x)) (aF cf (aI cf k) d (ai fb) ⟨t,1,a2,a3,a4,a5⟩ kids m1) w1.drew (.returned (.int .u32 a2)) w2 by rw[MD];exact iJ (X1.below ((Below.refl _ _).drew.trans (hb2.mono (Below.refl w1.heap.size w1).drew.size))) (KV.of p aR hb2) rfl));have hk:=af (show(fun w9=>aU (p.TE aR) w1.heap.size w1 w9∧w9.cell? ⟨p.M,10,none⟩=some (.map (some p.kb))) w2 from⟨W0.k.trans (aU.of (hb2.mono W0.size)),ag hHeld.2 hb2⟩);clear hb2 cx kz hHeld;go_wp2_with fail
  refine hK.out _ _ hk.out (fun hHeld=>?_);clear hK K
  try simp only[bK,bL,bM,bN,bO]
  refine tk 10 ?_;refine td ?_;go_wp2_with fail
  exact FF.out
 ·have tM:=af (show∀w9,aU (p.TE aR) w1.heap.size w1 w9→(Instr.lookup 117 (.map (some p.kb)) (.int .u8 2) false).run Tryz.prog w9=.ok (.func (.func 74) #[] #[]) w9 from fun w9 hk=>by
  obtain⟨es,c9,q1,q2⟩:=aB.c.st.kinds;exact(nh.at ⟨es,c9,q1,q2⟩ (hk.block _ aB.c.st.kinds.lt (aB.c.me.jt q1))).lookup Tryz.underlying117 dp 2 _ rfl)
  have cx:=af (OZ F t 2 a2 a3 a4 a5 ka kids.len kc w1.drew);have X1:=af aB;have W0:=af (KV.of p aR (Below.refl w1.heap.size w1).drew);have kz:=af (show∀e w2,aX p cf.allowed n d w1.drew.heap.size aR (fun x=>.returned (.int .u32 x)) (aF cf (aI cf k) d (ai fb) ⟨t,2,a2,a3,a4,a5⟩ kids m1) w1.drew e w2→R e w2 from fun e w2 h=>by
   rw[HR.out,hh.out];exact h.chain (V1.trans W0.out).k (V1.trans W0.out).v (V1.trans W0.out).size)
  clear aB hx lW hv wT ey ha wS tW dU hX cF hw Jg;go_wp2_with fail
  refine wp_region_held_drew (S:=(fun w9=>aU (p.TE aR) w1.heap.size w1 w9∧w9.cell? ⟨p.M,10,none⟩=some (.map (some p.kb)))) (by kernel_rfl) ⟨W0.k,ag pw (Below.refl _ _).drew⟩ (fun hHeld=>?_);refine tk 0 ?_;refine tk 1 ?_;refine tk 2 ?_;refine tk 3 ?_ (hy:=by intro w' hSw;have q1:=hSw.2;go_simp;(try with_reducible rfl));refine tk 4 ?_;refine tk 5 ?_ (hy:=by intro w' hSw;have q1:=hSw.1.at e1 NE.out;go_simp;(try with_reducible rfl));refine tk 6 ?_ (hy:=by intro w' hSw;have q1:=tM.out _ hSw.1;go_simp;(try with_reducible rfl));refine tk 7 ?_;refine tk 8 ?_ (hy:=by intro w' hSw;have q0:=hSw.1.at e0 NE.out;have q1:=hSw.1.at e1 NE.out;have q2:=hSw.1.at e2 NE.out;have q3:=hSw.1.at e3 NE.out;have q4:=hSw.1.at e4 NE.out;have q5:=hSw.1.at e5 NE.out;have q6:=hSw.1.at e6 NE.out;go_simp;(try with_reducible rfl));refine tr 9 fun K hK=>?_
  go_simp;refine cx.mono ?_;rintro e w2 ⟨rfl,hb2⟩;have FF:=af (kz.out _ _ (show aX p cf.allowed n d w1.drew.heap.size aR (fun x=>.returned (.int .u32 x)) (aF cf (aI cf k) d (ai fb) ⟨t,2,a2,a3,a4,a5⟩ kids m1) w1.drew (.returned (.int .u32 a2)) w2 by rw[MI];exact iJ (X1.below ((Below.refl _ _).drew.trans (hb2.mono (Below.refl w1.heap.size w1).drew.size))) (KV.of p aR hb2) rfl));have hk:=af (show(fun w9=>aU (p.TE aR) w1.heap.size w1 w9∧w9.cell? ⟨p.M,10,none⟩=some (.map (some p.kb))) w2 from⟨W0.k.trans (aU.of (hb2.mono W0.size)),ag hHeld.2 hb2⟩);clear hb2 cx kz hHeld;go_wp2_with fail
  refine hK.out _ _ hk.out (fun hHeld=>?_);clear hK K
  try simp only[bK,bL,bM,bN,bO]
  refine tk 10 ?_;refine td ?_;go_wp2_with fail
  exact FF.out
 ·have tM:=af (show∀w9,aU (p.TE aR) w1.heap.size w1 w9→(Instr.lookup 117 (.map (some p.kb)) (.int .u8 3) false).run Tryz.prog w9=.ok (.func (.func 75) #[] #[.pointer (some ⟨p.kc,0,none⟩)]) w9 from fun w9 hk=>by
  obtain⟨es,c9,q1,q2⟩:=aB.c.st.kinds;exact(nh.at ⟨es,c9,q1,q2⟩ (hk.block _ aB.c.st.kinds.lt (aB.c.me.jt q1))).lookup Tryz.underlying117 dp 3 _ rfl)
  have cx:=af (QZ p cf u n aN k d m1 aR F fb g cap ms t a2 a3 a4 a5 kids (.slice ka kids.len kc) ty w1.drew HE ⟨hx.ok,hx.kids,hx.ty⟩ lW wT (aB.below (Below.refl _ _).drew) dh);have X1:=af aB;have W0:=af (KV.of p aR (Below.refl w1.heap.size w1).drew);have kz:=af (show∀e w2,aX p cf.allowed n d w1.drew.heap.size aR (fun x=>.returned (.int .u32 x)) (aF cf (aI cf k) d (ai fb) ⟨t,3,a2,a3,a4,a5⟩ kids m1) w1.drew e w2→R e w2 from fun e w2 h=>by
   rw[HR.out,hh.out];exact h.chain (V1.trans W0.out).k (V1.trans W0.out).v (V1.trans W0.out).size)
  clear aB hx lW hv wT ey ha wS tW dU hX cF hw Jg;go_wp2_with fail
  refine wp_region_held_drew (S:=(fun w9=>aU (p.TE aR) w1.heap.size w1 w9∧w9.cell? ⟨p.M,10,none⟩=some (.map (some p.kb)))) (by kernel_rfl) ⟨W0.k,ag pw (Below.refl _ _).drew⟩ (fun hHeld=>?_);refine tk 0 ?_;refine tk 1 ?_;refine tk 2 ?_;refine tk 3 ?_ (hy:=by intro w' hSw;have q1:=hSw.2;go_simp;(try with_reducible rfl));refine tk 4 ?_;refine tk 5 ?_ (hy:=by intro w' hSw;have q1:=hSw.1.at e1 NE.out;go_simp;(try with_reducible rfl));refine tk 6 ?_ (hy:=by intro w' hSw;have q1:=tM.out _ hSw.1;go_simp;(try with_reducible rfl));refine tk 7 ?_;refine tk 8 ?_ (hy:=by intro w' hSw;have q0:=hSw.1.at e0 NE.out;have q1:=hSw.1.at e1 NE.out;have q2:=hSw.1.at e2 NE.out;have q3:=hSw.1.at e3 NE.out;have q4:=hSw.1.at e4 NE.out;have q5:=hSw.1.at e5 NE.out;have q6:=hSw.1.at e6 NE.out;go_simp;(try with_reducible rfl));refine tr 9 fun K hK=>?_
  go_simp;refine cx.mono ?_;intro e w2 hp;have HP:=af hp;cases ho:aF cf (aI cf k) d (ai fb) ⟨t,3,a2,a3,a4,a5⟩ kids m1 with
  |lost=>exact absurd ho dh
  |stop a b m2=>
   rw[ho] at hp;obtain⟨rfl,-⟩:=hp;have FF:=af (kz.out _ _ HP.out);clear cx kz hHeld hK HP ho dh;go_wp2_with fail
   refine ar ?_;exact FF.out
  |ok x m2=>
   rw[ho] at hp;obtain⟨rfl,eI,dC,hK2,hV2⟩:=hp;have FF:=af (kz.out _ _ HP.out);obtain⟨Tm,Tn,Tp,hb2⟩:=dC.box;have hk:=af (show(fun w9=>aU (p.TE aR) w1.heap.size w1 w9∧w9.cell? ⟨p.M,10,none⟩=some (.map (some p.kb))) w2 from⟨(W0.trans ⟨hK2,hV2⟩).k,by simpa using hb2.cell 10⟩);clear cx kz hHeld HP dC hK2 hV2 hb2 ho dh;go_wp2_with fail
   refine hK.out _ _ hk.out (fun hHeld=>?_);clear hK K
   try simp only[bK,bL,bM,bN,bO]
   refine tk 10 ?_;refine td ?_;go_wp2_with fail
   exact FF.out
 ·have tM:=af (show∀w9,aU (p.TE aR) w1.heap.size w1 w9→(Instr.lookup 117 (.map (some p.kb)) (.int .u8 4) false).run Tryz.prog w9=.ok (.func (.func 77) #[] #[.pointer (some ⟨p.kc,0,none⟩)]) w9 from fun w9 hk=>by
  obtain⟨es,c9,q1,q2⟩:=aB.c.st.kinds;exact(nh.at ⟨es,c9,q1,q2⟩ (hk.block _ aB.c.st.kinds.lt (aB.c.me.jt q1))).lookup Tryz.underlying117 dp 4 _ rfl)
  have cx:=af (MQ p cf u n aN k d m1 aR F fb g cap ms t a2 a3 a4 a5 kids (.slice ka kids.len kc) ty w1.drew HE ⟨hx.ok,hx.kids,hx.ty⟩ lW wT (aB.below (Below.refl _ _).drew) dh);have X1:=af aB;have W0:=af (KV.of p aR (Below.refl w1.heap.size w1).drew);have kz:=af (show∀e w2,aX p cf.allowed n d w1.drew.heap.size aR (fun x=>.returned (.int .u32 x)) (aF cf (aI cf k) d (ai fb) ⟨t,4,a2,a3,a4,a5⟩ kids m1) w1.drew e w2→R e w2 from fun e w2 h=>by
   rw[HR.out,hh.out];exact h.chain (V1.trans W0.out).k (V1.trans W0.out).v (V1.trans W0.out).size)
  clear aB hx lW hv wT ey ha wS tW dU hX cF hw Jg;go_wp2_with fail
  refine wp_region_held_drew (S:=(fun w9=>aU (p.TE aR) w1.heap.size w1 w9∧w9.cell? ⟨p.M,10,none⟩=some (.map (some p.kb)))) (by kernel_rfl) ⟨W0.k,ag pw (Below.refl _ _).drew⟩ (fun hHeld=>?_);refine tk 0 ?_;refine tk 1 ?_;refine tk 2 ?_;refine tk 3 ?_ (hy:=by intro w' hSw;have q1:=hSw.2;go_simp;(try with_reducible rfl));refine tk 4 ?_;refine tk 5 ?_ (hy:=by intro w' hSw;have q1:=hSw.1.at e1 NE.out;go_simp;(try with_reducible rfl));refine tk 6 ?_ (hy:=by intro w' hSw;have q1:=tM.out _ hSw.1;go_simp;(try with_reducible rfl));refine tk 7 ?_;refine tk 8 ?_ (hy:=by intro w' hSw;have q0:=hSw.1.at e0 NE.out;have q1:=hSw.1.at e1 NE.out;have q2:=hSw.1.at e2 NE.out;have q3:=hSw.1.at e3 NE.out;have q4:=hSw.1.at e4 NE.out;have q5:=hSw.1.at e5 NE.out;have q6:=hSw.1.at e6 NE.out;go_simp;(try with_reducible rfl));refine tr 9 fun K hK=>?_
  go_simp;refine cx.mono ?_;intro e w2 hp;have HP:=af hp;cases ho:aF cf (aI cf k) d (ai fb) ⟨t,4,a2,a3,a4,a5⟩ kids m1 with
  |lost=>exact absurd ho dh
  |stop a b m2=>
   rw[ho] at hp;obtain⟨rfl,-⟩:=hp;have FF:=af (kz.out _ _ HP.out);clear cx kz hHeld hK HP ho dh;go_wp2_with fail
   refine ar ?_;exact FF.out
  |ok x m2=>
   rw[ho] at hp;obtain⟨rfl,eI,dC,hK2,hV2⟩:=hp;have FF:=af (kz.out _ _ HP.out);obtain⟨Tm,Tn,Tp,hb2⟩:=dC.box;have hk:=af (show(fun w9=>aU (p.TE aR) w1.heap.size w1 w9∧w9.cell? ⟨p.M,10,none⟩=some (.map (some p.kb))) w2 from⟨(W0.trans ⟨hK2,hV2⟩).k,by simpa using hb2.cell 10⟩);clear cx kz hHeld HP dC hK2 hV2 hb2 ho dh;go_wp2_with fail
   refine hK.out _ _ hk.out (fun hHeld=>?_);clear hK K
   try simp only[bK,bL,bM,bN,bO]
   refine tk 10 ?_;refine td ?_;go_wp2_with fail
   exact FF.out
 ·have tM:=af (show∀w9,aU (p.TE aR) w1.heap.size w1 w9→(Instr.lookup 117 (.map (some p.kb)) (.int .u8 5) false).run Tryz.prog w9=.ok (.func (.func 80) #[.pointer (some ⟨p.M,0,none⟩)] #[]) w9 from fun w9 hk=>by
  obtain⟨es,c9,q1,q2⟩:=aB.c.st.kinds;exact(nh.at ⟨es,c9,q1,q2⟩ (hk.block _ aB.c.st.kinds.lt (aB.c.me.jt q1))).lookup Tryz.underlying117 dp 5 _ rfl)
  have cx:=af (call80 p cf u n aN k d m1 aR F fb g cap ms t a2 a3 a4 a5 kids (.slice ka kids.len kc) ty w1.drew wS HF HE ⟨hx.ok,hx.kids,hx.ty⟩ lW wT (aB.below (Below.refl _ _).drew) dh);have X1:=af aB;have W0:=af (KV.of p aR (Below.refl w1.heap.size w1).drew);have kz:=af (show∀e w2,aX p cf.allowed n d w1.drew.heap.size aR (fun x=>.returned (.int .u32 x)) (aF cf (aI cf k) d (ai fb) ⟨t,5,a2,a3,a4,a5⟩ kids m1) w1.drew e w2→R e w2 from fun e w2 h=>by
   rw[HR.out,hh.out];exact h.chain (V1.trans W0.out).k (V1.trans W0.out).v (V1.trans W0.out).size)
  clear aB hx lW hv wT ey ha wS tW dU hX cF hw Jg;go_wp2_with fail
  refine wp_region_held_drew (S:=(fun w9=>aU (p.TE aR) w1.heap.size w1 w9∧w9.cell? ⟨p.M,10,none⟩=some (.map (some p.kb)))) (by kernel_rfl) ⟨W0.k,ag pw (Below.refl _ _).drew⟩ (fun hHeld=>?_);refine tk 0 ?_;refine tk 1 ?_;refine tk 2 ?_;refine tk 3 ?_ (hy:=by intro w' hSw;have q1:=hSw.2;go_simp;(try with_reducible rfl));refine tk 4 ?_;refine tk 5 ?_ (hy:=by intro w' hSw;have q1:=hSw.1.at e1 NE.out;go_simp;(try with_reducible rfl));refine tk 6 ?_ (hy:=by intro w' hSw;have q1:=tM.out _ hSw.1;go_simp;(try with_reducible rfl));refine tk 7 ?_;refine tk 8 ?_ (hy:=by intro w' hSw;have q0:=hSw.1.at e0 NE.out;have q1:=hSw.1.at e1 NE.out;have q2:=hSw.1.at e2 NE.out;have q3:=hSw.1.at e3 NE.out;have q4:=hSw.1.at e4 NE.out;have q5:=hSw.1.at e5 NE.out;have q6:=hSw.1.at e6 NE.out;go_simp;(try with_reducible rfl));refine tr 9 fun K hK=>?_
  go_simp;refine cx.mono ?_;intro e w2 hp;have HP:=af hp;cases ho:aF cf (aI cf k) d (ai fb) ⟨t,5,a2,a3,a4,a5⟩ kids m1 with
  |lost=>exact absurd ho dh
  |stop a b m2=>
   rw[ho] at hp;obtain⟨rfl,-⟩:=hp;have FF:=af (kz.out _ _ HP.out);clear cx kz hHeld hK HP ho dh;go_wp2_with fail
   refine ar ?_;exact FF.out
  |ok x m2=>
   rw[ho] at hp;obtain⟨rfl,eI,dC,hK2,hV2⟩:=hp;have FF:=af (kz.out _ _ HP.out);obtain⟨Tm,Tn,Tp,hb2⟩:=dC.box;have hk:=af (show(fun w9=>aU (p.TE aR) w1.heap.size w1 w9∧w9.cell? ⟨p.M,10,none⟩=some (.map (some p.kb))) w2 from⟨(W0.trans ⟨hK2,hV2⟩).k,by simpa using hb2.cell 10⟩);clear cx kz hHeld HP dC hK2 hV2 hb2 ho dh;go_wp2_with fail
   refine hK.out _ _ hk.out (fun hHeld=>?_);clear hK K
   try simp only[bK,bL,bM,bN,bO]
   refine tk 10 ?_;refine td ?_;go_wp2_with fail
   exact FF.out
 ·have tM:=af (show∀w9,aU (p.TE aR) w1.heap.size w1 w9→(Instr.lookup 117 (.map (some p.kb)) (.int .u8 6) false).run Tryz.prog w9=.ok (.func (.func 81) #[.pointer (some ⟨p.M,0,none⟩)] #[]) w9 from fun w9 hk=>by
  obtain⟨es,c9,q1,q2⟩:=aB.c.st.kinds;exact(nh.at ⟨es,c9,q1,q2⟩ (hk.block _ aB.c.st.kinds.lt (aB.c.me.jt q1))).lookup Tryz.underlying117 dp 6 _ rfl)
  have cx:=af (MR p cf u n aN k d m1 aR F fb g cap ms t a2 a3 a4 a5 kids (.slice ka kids.len kc) ty w1.drew ha HE ⟨hx.ok,hx.kids,hx.ty⟩ lW wT (aB.below (Below.refl _ _).drew) dh);have X1:=af aB;have W0:=af (KV.of p aR (Below.refl w1.heap.size w1).drew);have kz:=af (show∀e w2,aX p cf.allowed n d w1.drew.heap.size aR (fun x=>.returned (.int .u32 x)) (aF cf (aI cf k) d (ai fb) ⟨t,6,a2,a3,a4,a5⟩ kids m1) w1.drew e w2→R e w2 from fun e w2 h=>by
   rw[HR.out,hh.out];exact h.chain (V1.trans W0.out).k (V1.trans W0.out).v (V1.trans W0.out).size)
  clear aB hx lW hv wT ey ha wS tW dU hX cF hw Jg;go_wp2_with fail
  refine wp_region_held_drew (S:=(fun w9=>aU (p.TE aR) w1.heap.size w1 w9∧w9.cell? ⟨p.M,10,none⟩=some (.map (some p.kb)))) (by kernel_rfl) ⟨W0.k,ag pw (Below.refl _ _).drew⟩ (fun hHeld=>?_);refine tk 0 ?_;refine tk 1 ?_;refine tk 2 ?_;refine tk 3 ?_ (hy:=by intro w' hSw;have q1:=hSw.2;go_simp;(try with_reducible rfl));refine tk 4 ?_;refine tk 5 ?_ (hy:=by intro w' hSw;have q1:=hSw.1.at e1 NE.out;go_simp;(try with_reducible rfl));refine tk 6 ?_ (hy:=by intro w' hSw;have q1:=tM.out _ hSw.1;go_simp;(try with_reducible rfl));refine tk 7 ?_;refine tk 8 ?_ (hy:=by intro w' hSw;have q0:=hSw.1.at e0 NE.out;have q1:=hSw.1.at e1 NE.out;have q2:=hSw.1.at e2 NE.out;have q3:=hSw.1.at e3 NE.out;have q4:=hSw.1.at e4 NE.out;have q5:=hSw.1.at e5 NE.out;have q6:=hSw.1.at e6 NE.out;go_simp;(try with_reducible rfl));refine tr 9 fun K hK=>?_
  go_simp;refine cx.mono ?_;intro e w2 hp;have HP:=af hp;cases ho:aF cf (aI cf k) d (ai fb) ⟨t,6,a2,a3,a4,a5⟩ kids m1 with
  |lost=>exact absurd ho dh
  |stop a b m2=>
   rw[ho] at hp;obtain⟨rfl,-⟩:=hp;have FF:=af (kz.out _ _ HP.out);clear cx kz hHeld hK HP ho dh;go_wp2_with fail
   refine ar ?_;exact FF.out
  |ok x m2=>
   rw[ho] at hp;obtain⟨rfl,eI,dC,hK2,hV2⟩:=hp;have FF:=af (kz.out _ _ HP.out);obtain⟨Tm,Tn,Tp,hb2⟩:=dC.box;have hk:=af (show(fun w9=>aU (p.TE aR) w1.heap.size w1 w9∧w9.cell? ⟨p.M,10,none⟩=some (.map (some p.kb))) w2 from⟨(W0.trans ⟨hK2,hV2⟩).k,by simpa using hb2.cell 10⟩);clear cx kz hHeld HP dC hK2 hV2 hb2 ho dh;go_wp2_with fail
   refine hK.out _ _ hk.out (fun hHeld=>?_);clear hK K
   try simp only[bK,bL,bM,bN,bO]
   refine tk 10 ?_;refine td ?_;go_wp2_with fail
   exact FF.out
 ·have tM:=af (show∀w9,aU (p.TE aR) w1.heap.size w1 w9→(Instr.lookup 117 (.map (some p.kb)) (.int .u8 7) false).run Tryz.prog w9=.ok (.func (.func 82) #[.pointer (some ⟨p.M,0,none⟩)] #[]) w9 from fun w9 hk=>by
  obtain⟨es,c9,q1,q2⟩:=aB.c.st.kinds;exact(nh.at ⟨es,c9,q1,q2⟩ (hk.block _ aB.c.st.kinds.lt (aB.c.me.jt q1))).lookup Tryz.underlying117 dp 7 _ rfl)
  have cx:=af (I7 p cf u n aN k d m1 aR F fb g cap ms t a2 a3 a4 a5 kids (.slice ka kids.len kc) ty w1.drew ha HE ⟨hx.ok,hx.kids,hx.ty⟩ lW wT (aB.below (Below.refl _ _).drew) dh);have X1:=af aB;have W0:=af (KV.of p aR (Below.refl w1.heap.size w1).drew);have kz:=af (show∀e w2,aX p cf.allowed n d w1.drew.heap.size aR (fun x=>.returned (.int .u32 x)) (aF cf (aI cf k) d (ai fb) ⟨t,7,a2,a3,a4,a5⟩ kids m1) w1.drew e w2→R e w2 from fun e w2 h=>by
   rw[HR.out,hh.out];exact h.chain (V1.trans W0.out).k (V1.trans W0.out).v (V1.trans W0.out).size)
  clear aB hx lW hv wT ey ha wS tW dU hX cF hw Jg;go_wp2_with fail
  refine wp_region_held_drew (S:=(fun w9=>aU (p.TE aR) w1.heap.size w1 w9∧w9.cell? ⟨p.M,10,none⟩=some (.map (some p.kb)))) (by kernel_rfl) ⟨W0.k,ag pw (Below.refl _ _).drew⟩ (fun hHeld=>?_);refine tk 0 ?_;refine tk 1 ?_;refine tk 2 ?_;refine tk 3 ?_ (hy:=by intro w' hSw;have q1:=hSw.2;go_simp;(try with_reducible rfl));refine tk 4 ?_;refine tk 5 ?_ (hy:=by intro w' hSw;have q1:=hSw.1.at e1 NE.out;go_simp;(try with_reducible rfl));refine tk 6 ?_ (hy:=by intro w' hSw;have q1:=tM.out _ hSw.1;go_simp;(try with_reducible rfl));refine tk 7 ?_;refine tk 8 ?_ (hy:=by intro w' hSw;have q0:=hSw.1.at e0 NE.out;have q1:=hSw.1.at e1 NE.out;have q2:=hSw.1.at e2 NE.out;have q3:=hSw.1.at e3 NE.out;have q4:=hSw.1.at e4 NE.out;have q5:=hSw.1.at e5 NE.out;have q6:=hSw.1.at e6 NE.out;go_simp;(try with_reducible rfl));refine tr 9 fun K hK=>?_
  go_simp;refine cx.mono ?_;intro e w2 hp;have HP:=af hp;cases ho:aF cf (aI cf k) d (ai fb) ⟨t,7,a2,a3,a4,a5⟩ kids m1 with
  |lost=>exact absurd ho dh
  |stop a b m2=>
   rw[ho] at hp;obtain⟨rfl,-⟩:=hp;have FF:=af (kz.out _ _ HP.out);clear cx kz hHeld hK HP ho dh;go_wp2_with fail
   refine ar ?_;exact FF.out
  |ok x m2=>
   rw[ho] at hp;obtain⟨rfl,eI,dC,hK2,hV2⟩:=hp;have FF:=af (kz.out _ _ HP.out);obtain⟨Tm,Tn,Tp,hb2⟩:=dC.box;have hk:=af (show(fun w9=>aU (p.TE aR) w1.heap.size w1 w9∧w9.cell? ⟨p.M,10,none⟩=some (.map (some p.kb))) w2 from⟨(W0.trans ⟨hK2,hV2⟩).k,by simpa using hb2.cell 10⟩);clear cx kz hHeld HP dC hK2 hV2 hb2 ho dh;go_wp2_with fail
   refine hK.out _ _ hk.out (fun hHeld=>?_);clear hK K
   try simp only[bK,bL,bM,bN,bO]
   refine tk 10 ?_;refine td ?_;go_wp2_with fail
   exact FF.out
 ·have tM:=af (show∀w9,aU (p.TE aR) w1.heap.size w1 w9→(Instr.lookup 117 (.map (some p.kb)) (.int .u8 8) false).run Tryz.prog w9=.ok (.func (.func 83) #[] #[.pointer (some ⟨p.kc,0,none⟩)]) w9 from fun w9 hk=>by
  obtain⟨es,c9,q1,q2⟩:=aB.c.st.kinds;exact(nh.at ⟨es,c9,q1,q2⟩ (hk.block _ aB.c.st.kinds.lt (aB.c.me.jt q1))).lookup Tryz.underlying117 dp 8 _ rfl)
  have cx:=af (Q0 p cf u n aN k d m1 aR F fb g cap ms t a2 a3 a4 a5 kids (.slice ka kids.len kc) ty w1.drew ha HE ⟨hx.ok,hx.kids,hx.ty⟩ lW wT (aB.below (Below.refl _ _).drew) dh);have X1:=af aB;have W0:=af (KV.of p aR (Below.refl w1.heap.size w1).drew);have kz:=af (show∀e w2,aX p cf.allowed n d w1.drew.heap.size aR (fun x=>.returned (.int .u32 x)) (aF cf (aI cf k) d (ai fb) ⟨t,8,a2,a3,a4,a5⟩ kids m1) w1.drew e w2→R e w2 from fun e w2 h=>by
   rw[HR.out,hh.out];exact h.chain (V1.trans W0.out).k (V1.trans W0.out).v (V1.trans W0.out).size)
  clear aB hx lW hv wT ey ha wS tW dU hX cF hw Jg;go_wp2_with fail
  refine wp_region_held_drew (S:=(fun w9=>aU (p.TE aR) w1.heap.size w1 w9∧w9.cell? ⟨p.M,10,none⟩=some (.map (some p.kb)))) (by kernel_rfl) ⟨W0.k,ag pw (Below.refl _ _).drew⟩ (fun hHeld=>?_);refine tk 0 ?_;refine tk 1 ?_;refine tk 2 ?_;refine tk 3 ?_ (hy:=by intro w' hSw;have q1:=hSw.2;go_simp;(try with_reducible rfl));refine tk 4 ?_;refine tk 5 ?_ (hy:=by intro w' hSw;have q1:=hSw.1.at e1 NE.out;go_simp;(try with_reducible rfl));refine tk 6 ?_ (hy:=by intro w' hSw;have q1:=tM.out _ hSw.1;go_simp;(try with_reducible rfl));refine tk 7 ?_;refine tk 8 ?_ (hy:=by intro w' hSw;have q0:=hSw.1.at e0 NE.out;have q1:=hSw.1.at e1 NE.out;have q2:=hSw.1.at e2 NE.out;have q3:=hSw.1.at e3 NE.out;have q4:=hSw.1.at e4 NE.out;have q5:=hSw.1.at e5 NE.out;have q6:=hSw.1.at e6 NE.out;go_simp;(try with_reducible rfl));refine tr 9 fun K hK=>?_
  go_simp;refine cx.mono ?_;intro e w2 hp;have HP:=af hp;cases ho:aF cf (aI cf k) d (ai fb) ⟨t,8,a2,a3,a4,a5⟩ kids m1 with
  |lost=>exact absurd ho dh
  |stop a b m2=>
   rw[ho] at hp;obtain⟨rfl,-⟩:=hp;have FF:=af (kz.out _ _ HP.out);clear cx kz hHeld hK HP ho dh;go_wp2_with fail
   refine ar ?_;exact FF.out
  |ok x m2=>
   rw[ho] at hp;obtain⟨rfl,eI,dC,hK2,hV2⟩:=hp;have FF:=af (kz.out _ _ HP.out);obtain⟨Tm,Tn,Tp,hb2⟩:=dC.box;have hk:=af (show(fun w9=>aU (p.TE aR) w1.heap.size w1 w9∧w9.cell? ⟨p.M,10,none⟩=some (.map (some p.kb))) w2 from⟨(W0.trans ⟨hK2,hV2⟩).k,by simpa using hb2.cell 10⟩);clear cx kz hHeld HP dC hK2 hV2 hb2 ho dh;go_wp2_with fail
   refine hK.out _ _ hk.out (fun hHeld=>?_);clear hK K
   try simp only[bK,bL,bM,bN,bO]
   refine tk 10 ?_;refine td ?_;go_wp2_with fail
   exact FF.out
end
section
open Go.Shelf
def bY (p:Pt) (cf:Cf) (u:UT) (n:Nat) (aN:List Nat) (d F:Nat) (ve:EvS) (old:Nat→Prop) {α:Type} (P:α→Prop) (fr:α→Fr) (f:α→Ending) (o:Out α) (w:World) (e:Ending) (w':World):Prop:=match o with
 | .ok x m=>e=f x∧P x∧∃fJ M9 g' cap' Y4,ai M9=fr x∧dW p cf u n aN d m fJ F M9 g' cap' Y4 w'∧KS p ve fJ old (FS F g' Y4 M9) w w'
 | .stop x y m=>e=dy x y∧∃fJ d',iy p cf.allowed n d' m fJ w'∧KS p ve fJ old (fun _=>False) w w'
 | .lost=>True
theorem KS.weak {p:Pt} {ve aR:EvS} {old new:Nat→Prop} {w w1:World} (h:KS p ve aR old new w w1):KS p ve aR old (fun _=>False) w w1:=⟨h.k,h.v,fun _ h=>h.elim⟩
section
variable {p:Pt} {cf:Cf} {u:UT} {n:Nat} {aN:List Nat} {d:Nat} {m:MS} {ve:EvS} {F:Nat} {fb:List dQ} {g cap:Nat} {ms:List Nat} {w w':World}
theorem dZ {α:Type} {P:α→Prop} {fr:α→Fr} {f:α→Ending} {x:α} {old:Nat→Prop} {e:Ending} {O3:EvS} {w0:World} (hX:dW p cf u n aN d m ve F fb g cap ms w) (hb:ai fb=fr x) (hP:P x) (hK:KS p O3 ve old (FS F g ms fb) w0 w) (he:e=f x):bY p cf u n aN d F O3 old P fr f (.ok x m) w0 e w:=
 ⟨he,hP,ve,fb,g,cap,ms,hb,hX,hK⟩
theorem bQ {α:Type} {P:α→Prop} {fr:α→Fr} {f:α→Ending} {x y:Int} {old new:Nat→Prop} {e:Ending} {O3:EvS} {w0:World} {d':Nat} (hM:iy p cf.allowed n d' m ve w) (hK:KS p O3 ve old new w0 w) (he:e=dy x y):bY p cf u n aN d F O3 old P fr f (.stop x y m) w0 e w:=
 ⟨he,ve,d',hM,hK.weak⟩
theorem bY.chain {α:Type} {P:α→Prop} {fr:α→Fr} {f:α→Ending} {o:Out α} {old mid:Nat→Prop} {e:Ending} {O3 aR:EvS} {w0 w1 w2:World} (hK:KS p O3 aR old mid w0 w1) (h:bY p cf u n aN d F aR mid P fr f o w1 e w2):bY p cf u n aN d F O3 old P fr f o w0 e w2:=by
 cases o with
 |ok x m=>
  obtain⟨h1,h2,fJ,M9,g',cap',Y4,h3,h4,h5⟩:=h;exact⟨h1,h2,fJ,M9,g',cap',Y4,h3,h4,hK.trans h5⟩
 |stop x y m=>
  obtain⟨h1,fJ,d',h2,h3⟩:=h;exact⟨h1,fJ,d',h2,hK.trans h3⟩
 |lost=>trivial
def Plc (p:Pt) (cf:Cf) (fb:List dQ) (s:ByteArray) (b:Nat):Prop:=
 (∃x,cJ s fb=some x∧b=x.2)∨(cJ s fb=none∧∃(i:Nat) (hi:i<p.xs.length),placeOf cf s=i∧b=sy p.xs[i]∧p.xs[i].ownBlock=some b)
theorem dW.Bh (hX:dW p cf u n aN d m ve F fb g cap ms w) {s:ByteArray} {b:Nat} (hb:Plc p cf fb s b):w.cell? ⟨b,0,none⟩=some (.int .u32 (ib cf (ai fb) m s).2)∧w.frozen? ⟨b,0,none⟩=false:=by
 unfold ib;rw[j6];rcases hb with⟨x,q1,rfl⟩|⟨q1,i,hi,hp,rfl,qR⟩
 ·rw[q1];obtain⟨sc,r1,r2⟩:=py q1;have hb:=hX.c.fr.boxes sc r1 _ r2;exact⟨by simpa using hb.cell 0,hb.free 0⟩
 ·rw[q1];have gq:i<m.held.length:=by have:=hX.c.me.len;omega
  have hw:=hX.c.me.words i hi gq;have hl0:=(hX.c.pos _ (List.getElem_mem gq)).1;obtain⟨gx,cx,e1,k1,k2⟩:=eV hw hl0;have hr:sy p.xs[i]=gx:=by rw[e1];rfl
  obtain⟨cs,dT⟩:=dz hw qR;refine⟨?_,dT.free 0⟩;rw[hr];have hw2:=hw;rw[e1] at hw2;have:=hw2.cellAt 0 (by omega);rw[this];simp only[Option.map_none,bI,hp,List.getD_eq_getElem?_getD,List.getElem?_eq_getElem gq,Option.getD_some];simp[hl0]
theorem dW.write (hX:dW p cf u n aN d m ve F fb g cap ms w) {s:ByteArray} {b:Nat} (hb:Plc p cf fb s b) {v:Int} (hv:U v):
  ∃M9,ai M9=(cE cf (ai fb) m s v).1∧dW p cf u n aN d (cE cf (ai fb) m s v).2 ve F M9 g cap ms (w.setCell ⟨b,0,none⟩ (.int .u32 v))∧KS p ve ve (FS F g ms fb) (FS F g ms M9) w (w.setCell ⟨b,0,none⟩ (.int .u32 v)):=by
 unfold cE;rw[j6];rcases hb with⟨x,q1,rfl⟩|⟨q1,i,hi,hp,-,qR⟩
 ·rw[q1];obtain⟨h1,h2⟩:=hX.Q5 q1 hv;exact⟨kD s v fb,pB s v fb,h1,h2⟩
 ·rw[q1];obtain⟨h1,h2⟩:=hX.Wa (s:=s) hi hp qR 0 hv;exact⟨fb,rfl,h1,h2.ks _⟩
theorem dW.Wx (hX:dW p cf u n aN d m ve F fb g cap ms w) {s:ByteArray} {ty:Int} (ht:gi cf.vs (dm fb) s=.ok ty):
  ∃b,Plc p cf fb s b∧(ib cf (ai fb) m s).1=ty∧
   Calls Tryz.prog 76 #[.pointer (some ⟨p.M,0,none⟩),.pointer (some ⟨F,0,none⟩),.string s] w fun e w'=>e=.returned (.tuple #[.pointer (some ⟨b,0,none⟩),.int .u8 ty])∧Below w.heap.size w w':=by
 obtain⟨b,⟨r1,-,-,r4⟩,c⟩:=hX.word ht;exact⟨b,r4,r1,c⟩
theorem dW.elem (hX:dW p cf u n aN d m ve F fb g cap ms w) {s:ByteArray} {t ln:Int} (hv:getM s cf.vs=some (t,ln)):
  ∃(i gx:Nat) (hi:i<p.xs.length) (gq:i<m.held.length),getM s cf.pl=some (i:Int)∧placeOf cf s=i∧p.xs[i].ownBlock=some gx∧sy p.xs[i]=gx∧bI cf m s=m.held[i]:=by
 obtain⟨i,hp,hi⟩:=hX.c.st.pl s _ hv;have gq:i<m.held.length:=by have:=hX.c.me.len;omega
 have hpl:placeOf cf s=i:=by unfold placeOf;rw[hp];rfl
 obtain⟨gx,cx,e1,-,-⟩:=eV (hX.c.me.words i hi gq) (hX.c.pos _ (List.getElem_mem gq)).1;exact⟨i,gx,hi,gq,hp,hpl,by rw[e1];rfl,by rw[e1];rfl,by unfold bI;rw[hpl,List.getD_eq_getElem?_getD,List.getElem?_eq_getElem gq];rfl⟩
theorem dW.yG (hX:dW p cf u n aN d m ve F fb g cap ms w) {i gx:Nat} (hi:i<p.xs.length) (gq:i<m.held.length) (hb:p.xs[i].ownBlock=some gx) (j:Nat) (hj:j<m.held[i].length):w.cell? ⟨gx,j,none⟩=some (.int .u32 m.held[i][j])∧w.frozen? ⟨gx,j,none⟩=false:=by
 have hw:=hX.c.me.words i hi gq;obtain⟨cs,dT⟩:=dz hw hb;refine⟨?_,dT.free j⟩;obtain⟨gx',cx,e1,-,-⟩:=eV hw (by omega);have:gx'=gx:=by rw[e1] at hb;simpa[Value.ownBlock] using hb
 subst this;rw[e1] at hw;have:=hw.cellAt j (by omega);rw[this];simp[hj]
end
theorem KS.kk {p:Pt} {ve aR:EvS} {old new:Nat→Prop} {w w1:World} (h:KS p ve aR old new w w1):aU (fun b=>p.TE ve b∨old b) w.heap.size w w1:=h.k
theorem dW.oq {p:Pt} {cf:Cf} {u:UT} {n:Nat} {aN:List Nat} {d:Nat} {m:MS} {ve:EvS} {F:Nat} {fb:List dQ} {g cap:Nat} {ms:List Nat} {w w':World} (hX:dW p cf u n aN d m ve F fb g cap ms w) (hk:aU (fun b=>p.TE ve b∨FS F g ms fb b) w.heap.size w w'):Cells (aA w (bJ p.B)) (aA w' (bJ p.B)):=
 (hk.mono hX.c.me.size (U:=p.TE ve) fun b hb q=>q.elim id fun q=>by have:=(hX.c.fr.fs q).1;omega).cells fun b hb=>⟨by have:=hX.c.st.Bn;simp at hb;omega,hX.c.me.old hX.c.st.M hX.c.st.Bn (by simpa using hb)⟩
theorem dW.jO {p:Pt} {cf:Cf} {u:UT} {n:Nat} {aN:List Nat} {d:Nat} {m:MS} {ve:EvS} {F:Nat} {fb:List dQ} {g cap:Nat} {ms:List Nat} {w w':World} (hX:dW p cf u n aN d m ve F fb g cap ms w) (hk:aU (fun b=>p.TE ve b∨FS F g ms fb b) w.heap.size w w') {q:Nat} {cs:Array Value} {t:TypeId} (hb:Bx w q cs t) (h1:t≠119∧t≠52∧t≠127) (h2:t≠213∧t≠210∧t≠201):Bx w' q cs t:=by
 refine hk.box hb hb.lt ?_;rintro(q1|q1)
 ·exact hX.c.me.dB hb h1.1 h1.2.1 h1.2.2 q1
 ·rcases q1 with rfl|rfl|q1|⟨y,hy,rfl⟩
  ·exact hb.dc hX.c.fr.box h2.1 rfl
  ·obtain⟨lq,hc⟩:=dz hX.c.fr.row (b:=q) rfl;exact hb.dc hc h2.2.1 rfl
  ·obtain⟨i,hi,rfl⟩:=List.getElem_of_mem q1;exact hb.dF (hX.c.fr.maps i hi (by have:=hX.c.fr.len;omega)) rfl
  ·exact hb.dc (hX.c.fr.flat hy).1 h2.2.2 rfl
end
end Go.Proofs.YtlabadkfkbenoaaGreatDoor
