/- Walks and plain laws, merged: SenE ChkE ChkF TreeE ChkG ChkH ChkI. No condition. -/
import Derived.Laws.OwnMore
import Derived.Outline
import Derived.Deep.RegionHeld3
import Derived.Test.YtlabadkfkbenoaaGreatDoorKp01
import Derived.Test.YtlabadkfkbenoaaGreatDoorKp04
import Derived.Test.YtlabadkfkbenoaaGreatDoorProg
namespace Go.Proofs.YtlabadkfkbenoaaGreatDoor
open Go.RowKit
set_option linter.unusedVariables false
set_option linter.unusedSimpArgs false
set_option maxRecDepth 100000
set_option maxHeartbeats 64000000
section
def Ol (w:World) (ks:List Int) (v:Value):Prop:=∃B,w.ownsRow B 40 1 v ks.length (ks.map (Value.int .u8))
theorem Ol.open {w:World} {ks:List Int} {v:Value} (h:Ol w ks v):∃ka kb kc,v=.slice ka ks.length kc∧(ks.length=0∨ka=some ⟨kb,0,none⟩)∧∀i (hi:i<ks.length),w.cell? ⟨kb,i,none⟩=some (.int .u8 ks[i]):=by
 obtain⟨B,h⟩:=h;have h2:=h.2;rcases h2 with⟨rfl,hn⟩|⟨g,cap,cur,rfl,_⟩
 ·exact⟨none,0,0,by rw[hn],.inl hn,fun i hi=>by omega⟩
 ·refine⟨_,g,cap,rfl,.inr rfl,fun i hi=>?_⟩;have:=h.cellAt i (by omega);rw[this];simp[hi]
theorem Ol.mono {w w':World} {ks:List Int} {v:Value} (h:Ol w ks v) (hb:Below w.heap.size w w'):Ol w' ks v:=by
 obtain⟨B,h⟩:=h;exact⟨B,h.kept (row:=none) ⟨hb.os,hb.tape,hb.output,hb.size,fun k hk _=>hb.block k hk⟩ (by cases hq:v.ownBlock;exact .inl rfl;exact .inr (by simp))⟩
def xE (ps:List PW) (ks:List Int):Bool:=(ps.zip ks).all fun x=>x.1.2==x.2
def fj (cs:List (ByteArray×eE)) (s:ByteArray) (ks:List Int):Except Int Int:=
 match getM s cs with
 |none=>.error 291
 |some g=>if g.params.length≠ks.length then .error 293 else if xE g.params ks then .ok g.type else .error 292
theorem Gz {ps:List PW} {ks:List Int} (hl:ps.length=ks.length) (h:∀i (h1:i<ps.length) (h2:i<ks.length),ps[i].2=ks[i]):xE ps ks=true:=by
 unfold xE;rw[List.all_eq_true];intro x hx;obtain⟨i,hi,rfl⟩:=List.getElem_of_mem hx;simp only[List.getElem_zip,beq_iff_eq];have gq:i<min ps.length ks.length:=by simpa using hi
 exact h i (by omega) (by omega)
theorem Li {ps:List PW} {ks:List Int} {i:Nat} (h1:i<ps.length) (h2:i<ks.length) (h:¬ps[i].2=ks[i]):xE ps ks=false:=by
 unfold xE;rw[List.all_eq_false];refine⟨(ps[i],ks[i]),?_,by simpa using h⟩;rw[List.mem_iff_getElem];exact⟨i,by simp;omega,by simp⟩
theorem call211 (s:ByteArray) (ks:List Int) (kv:Value) (vs:List (ByteArray×(Int×Int))) (cs:List (ByteArray×eE)) (C:Nat) (ss:List Scope) (vb cb g cap:Nat) (ms:List Nat) (w:World) (h:N7 w vs cs C ss vb cb g cap ms) (hk:Ol w ks kv)
  (hp:∀x,getM s cs=some x→x.params.length≤100000000) (pL:ks.length≤100000000):
  Calls Tryz.prog 211 #[.pointer (some ⟨C,0,none⟩),.string s,kv] w fun e w'=>e=outT (fj cs s ks)∧Below w.heap.size w w':=by
 have c1:=h.c1;have HV:=af (h.nm.call s);obtain⟨ka,kb,kc,rfl,hka,SY⟩:=hk.open;have HK:=af SY;clear h hk SY;rcases HV.out with⟨e1,l1⟩|⟨y,pa,pc,e1,S6,l1⟩
 ·have hh:=af (show fj cs s ks=.error 291 by unfold fj;rw[e1]);have c5:=af (eA 291 (w.alloc (.cells #[.slice none 0 0,.int .u8 0,.int .i64 0,.int .i64 0] 114)));clear HV e1 hka;go_enter Tryz.func211,Tryz.ntmps211;go_wp2_with fail
  refine c5.mono ?_;rintro e w2 ⟨rfl,hw⟩;subst w2;clear c5;go_wp2_with fail
  refine ar ?_;rw[hh.out];exact⟨rfl,by(repeat(first|exact Below.refl _ _|refine Below.drew ?_ |refine Below.alloc ?_ (by simp<;>omega) _))⟩
 ·have hpl:=hp y e1;obtain⟨ps,ty,ho,fn⟩:=y;simp only[] at hpl l1 S6;have c5:=af (fG 291 (w.alloc (.cells #[.slice pa ps.length pc,.int .u8 ty,.int .i64 ho,.int .i64 fn] 114)));obtain⟨ka2,qb,qo,kc2,hq,hqa,hqi⟩:=S6;cases hq;have HQ:=af hqi;clear HV hqi;by_cases hlen:ps.length=ks.length
  ·have c6:=af (fG 293 (w.alloc (.cells #[.slice pa ps.length pc,.int .u8 ty,.int .i64 ho,.int .i64 fn] 114)));have hN:=af hlen;have E1:=af e1;obtain⟨n,hn⟩:∃n,n=ks.length:=⟨_,rfl⟩;have Le:ps.length=n:=by omega
   have hM:=af hn;have dC:=af Le;rw[Le] at hpl hqa c5 c6 l1;rw[←hn] at hka pL;rw[←hn];clear e1 hlen hn Le;go_enter Tryz.func211,Tryz.ntmps211;go_wp2_with fail
   refine c5.mono ?_;rintro e w2 ⟨rfl,hw⟩;subst w2;clear c5;go_wp2_with fail
   refine c6.mono ?_;rintro e w2 ⟨rfl,hw⟩;subst w2;clear c6;go_wp2_with fail
   go_loopw [33] (fun y wr=>∃k:Nat,y=.int .i64 k∧k≤n∧(∀i (h1:i<ps.length) (h2:i<ks.length),i<k→ps[i].2=ks[i])∧Below w.heap.size w wr∧Bx wr w.heap.size #[.slice pa n pc,.int .u8 ty,.int .i64 ho,.int .i64 fn] 114) (fun y _=>n- (intOf y).toNat)
   case atStart=>exact⟨0,rfl,Nat.zero_le _,fun _ _ _ h=>by omega,by(repeat(first|exact Below.refl _ _|refine Below.drew ?_ |refine Below.alloc ?_ (by simp<;>omega) _)),Bx.new _ _ _⟩
   case round=>
    obtain⟨k,rfl,hk,iN,hb,dT⟩:=hrel;have PRE:=af iN;have BX:=af dT;have HB:=af hb;clear iN dT hb;by_cases hlt:k<n
    ·have h1:k<ps.length:=by have:=dC.out;omega
     have h2:k<ks.length:=by have:=hM.out;omega
     have x1:=HQ.out k h1;have x2:=ag (HK.out k h2) HB.out;have x3:=ag x1.1 HB.out;have x4:=ag x1.2 HB.out;have xF:pa=some ⟨qb,qo,none⟩:=by rcases hqa with q|q;(·omega);(·exact q)
     have tM:ka=some ⟨kb,0,none⟩:=by rcases hka with q|q;(·omega);(·exact q)
     subst xF tM;have Lj:=af (fun(hq:ps[k].2=ks[k]) (i:Nat) (h1:i<ps.length) (h2:i<ks.length) (h3:i<k+1)=>by
      rcases Nat.lt_or_eq_of_le (Nat.le_of_lt_succ h3) with q|q
      ·exact PRE.out i h1 h2 q
      ·subst i;exact hq:ps[k].2=ks[k]→∀i (h1:i<ps.length) (h2:i<ks.length),i<k+1→ps[i].2=ks[i])
     have NO:=af (fun(hq:¬ps[k].2=ks[k])=>Li h1 h2 hq);generalize ps[k]=pk at x3 x4 Lj NO;generalize ks[k]=kk at x2 Lj NO;obtain⟨nm,pt⟩:=pk;simp only[] at x3 x4 Lj NO;have Ll:=fun{w2:World} (h:Below (wr.alloc (.cells #[.string nm,.int .u8 pt] 46)).heap.size (wr.alloc (.cells #[.string nm,.int .u8 pt] 46)) w2)=>((Below.refl wr.heap.size wr).alloc (Nat.le_refl _) (.cells #[.string nm,.int .u8 pt] 46)).trans (h.mono (by simp))
     have bx1:=fun{w2:World} (h:Below (wr.alloc (.cells #[.string nm,.int .u8 pt] 46)).heap.size (wr.alloc (.cells #[.string nm,.int .u8 pt] 46)) w2)=>((Bx.new wr #[.string nm,.int .u8 pt] 46).on (ah h) (by simp)).cell
     clear x1;go_wp2_with fail
     refine wp_region_held_drew (S:=(Below (wr.alloc (.cells #[.string nm,.int .u8 pt] 46)).heap.size (wr.alloc (.cells #[.string nm,.int .u8 pt] 46)))) (by kernel_rfl) (Below.refl _ _).drew (fun hHeld=>?_);refine tk 0 ?_;refine tk 1 ?_ (hy:=by intro w' hSw;have q1:=bx1 hSw 1;simp at q1;go_simp;(try with_reducible rfl));refine tk 2 ?_;refine tk 3 ?_;refine tk 4 ?_;refine tk 5 ?_ (hy:=by intro w' hSw;have q2:=ag x2 (Ll hSw);go_simp;(try with_reducible rfl));refine tk 6 ?_;refine tr 7 fun K hK=>?_
     go_simp;go_at_call 146;by_cases hpk:pt=kk
     ·subst kk;have PRE2:=af (Lj.out rfl);have c7:=af (fG 292 (wr.alloc (.cells #[.string nm,.int .u8 pt] 46)).drew);rw[show(pt==pt)=true by simp];refine c7.mono ?_;rintro e w2 ⟨rfl,hw⟩;subst w2;have hk:=(Below.refl (wr.alloc (.cells #[.string nm,.int .u8 pt] 46)).heap.size (wr.alloc (.cells #[.string nm,.int .u8 pt] 46))).drew;clear hHeld c7;go_wp2_with fail
      refine hK.out _ _ hk (fun hHeld=>?_);clear hK K hk
      try simp only[bK,bL,bM,bN,bO]
      refine td ?_;go_wp2_with fail
      exact⟨⟨k+1,rfl,by omega,PRE2.out,HB.trans ((Ll ((Below.refl _ _).drew)).mono HB.size),(BX.on (ah (Ll ((Below.refl _ _).drew))) (by simp))⟩,by simp only[intOf];omega⟩
     ·have c7:=af (eA 292 (wr.alloc (.cells #[.string nm,.int .u8 pt] 46)).drew);have hh:=af (show fj cs s ks=.error 292 by unfold fj;rw[E1.out];simp[hN.out,NO.out hpk]);rw[show(pt==kk)=false by simpa using hpk];refine c7.mono ?_;rintro e w2 ⟨rfl,hw⟩;subst w2;clear hHeld c7 hK;go_wp2_with fail
      refine ar ?_;rw[hh.out];exact⟨rfl,HB.trans ((Ll ((Below.refl _ _).drew)).mono HB.size)⟩
    ·have hke:k=n:=by omega
     subst k;have hh:=af (show fj cs s ks=.ok ty by unfold fj;rw[E1.out];simp[hN.out,Gz hN.out (fun i h1 h2=>PRE.out i h1 h2 (by have:=dC.out;omega))]);have p1:=BX.cell 1;simp at p1;clear hN E1 hM dC PRE;go_wp2_with fail
     go_ret;rw[hh.out];exact⟨rfl,HB.out⟩
  ·have hh:=af (show fj cs s ks=.error 293 by unfold fj;rw[e1];simp[hlen]);have c6:=af (eA 293 (w.alloc (.cells #[.slice pa ps.length pc,.int .u8 ty,.int .i64 ho,.int .i64 fn] 114)));clear e1;go_enter Tryz.func211,Tryz.ntmps211;go_wp2_with fail
   refine c5.mono ?_;rintro e w2 ⟨rfl,hw⟩;subst w2;clear c5;go_wp2_with fail
   rw[show(((ps.length:Nat):Int)==((ks.length:Nat):Int))=false by simp only[beq_eq_false_iff_ne,ne_eq,Int.ofNat_inj];exact hlen];refine c6.mono ?_;rintro e w2 ⟨rfl,hw⟩;subst w2;clear c6;go_wp2_with fail
   refine ar ?_;rw[hh.out];exact⟨rfl,by(repeat(first|exact Below.refl _ _|refine Below.drew ?_ |refine Below.alloc ?_ (by simp<;>omega) _))⟩
end
section
open Go.Shelf
def EH.Wf (h:EH):Prop:=(0≤h.word∧h.word<4294967296)∧h.name.size≤1048576∧h.sign.size≤1048576
def az.Wf:az→Prop
 | .nil=>True
 | .cons h k r=>h.Wf∧k.Wf∧r.Wf
def tN (h:EH) (n:Nat):Bool:=
 if h.kind=1 then dv 0 h.type h.name h.sign n 0
 else if h.kind=2 then dv 0 h.type h.name h.sign n 0&&(xC h.word&&decide (h.word<2147483648))
 else if h.kind=3 then((n:Int)==0)&&(dv h.word h.type ⟨#[]⟩ h.sign n n&&aS h.name)
 else if h.kind=4 then((n:Int)==1)&&(dv h.word h.type ⟨#[]⟩ h.sign n n&&aS h.name)
 else if h.kind=5 then decide ((n:Int)≤15)&&(dv h.word h.type ⟨#[]⟩ h.sign n n&&aS h.name)
 else if h.kind=6 then dv h.word h.type h.name ⟨#[]⟩ n 1&&cv DT h.sign
 else if h.kind=7 then dv h.word h.type h.name ⟨#[]⟩ n 2&&zY h.sign
 else if h.kind=8 then dv h.word 0 h.name h.sign n 1&&fh h.type
 else false
theorem U5 (a0 a2 a3:Int) (a4 a5:ByteArray) (n:Nat):tN ⟨a0,1,a2,a3,a4,a5⟩ n=dv 0 a3 a4 a5 n 0:=rfl
theorem GA (a0 a2 a3:Int) (a4 a5:ByteArray) (n:Nat):tN ⟨a0,2,a2,a3,a4,a5⟩ n=(dv 0 a3 a4 a5 n 0&&(xC a2&&decide (a2<2147483648))):=rfl
theorem GD (a0 a2 a3:Int) (a4 a5:ByteArray) (n:Nat):tN ⟨a0,3,a2,a3,a4,a5⟩ n=(((n:Int)==0)&&(dv a2 a3 ⟨#[]⟩ a5 n n&&aS a4)):=rfl
theorem xG (a0 a2 a3:Int) (a4 a5:ByteArray) (n:Nat):tN ⟨a0,4,a2,a3,a4,a5⟩ n=(((n:Int)==1)&&(dv a2 a3 ⟨#[]⟩ a5 n n&&aS a4)):=rfl
theorem Cb (a0 a2 a3:Int) (a4 a5:ByteArray) (n:Nat):tN ⟨a0,5,a2,a3,a4,a5⟩ n=(decide ((n:Int)≤15)&&(dv a2 a3 ⟨#[]⟩ a5 n n&&aS a4)):=rfl
theorem Cc (a0 a2 a3:Int) (a4 a5:ByteArray) (n:Nat):tN ⟨a0,6,a2,a3,a4,a5⟩ n=(dv a2 a3 a4 ⟨#[]⟩ n 1&&cv DT a5):=rfl
theorem Ce (a0 a2 a3:Int) (a4 a5:ByteArray) (n:Nat):tN ⟨a0,7,a2,a3,a4,a5⟩ n=(dv a2 a3 a4 ⟨#[]⟩ n 2&&zY a5):=rfl
theorem GF (a0 a2 a3:Int) (a4 a5:ByteArray) (n:Nat):tN ⟨a0,8,a2,a3,a4,a5⟩ n=(dv a2 0 a4 a5 n 1&&fh a3):=rfl
theorem Om (a0 a1 a2 a3:Int) (a4 a5:ByteArray) (n:Nat) (h:¬a1=1∧¬a1=2∧¬a1=3∧¬a1=4∧¬a1=5∧¬a1=6∧¬a1=7∧¬a1=8):tN ⟨a0,a1,a2,a3,a4,a5⟩ n=false:=by
 obtain⟨h1,h2,h3,h4,h5,h6,h7,h8⟩:=h;simp only[tN,h1,h2,h3,h4,h5,h6,h7,h8,if_false]
theorem cK {w wr w2:World} {o:Obj} (h:Below w.heap.size w wr) (hb:Below (wr.alloc o).heap.size (wr.alloc o) w2):Below w.heap.size w w2:=(h.alloc h.size o).trans (hb.mono (h.alloc h.size o).size)
theorem fD {wr w2:World} {o:Obj} {q:Nat} {cs:Array Value} {t:TypeId} (hX:Bx wr q cs t) (hb:Below (wr.alloc o).heap.size (wr.alloc o) w2):Bx w2 q cs t:=(hX.on (World.grownBy_alloc wr o none) (by simp)).on (ah hb) (by simp)
theorem PN (w:World):∀i (hi:i<DT.length),(w.alloc (.cells (DT.map Value.string).toArray 9)).cell? ⟨w.heap.size,i,none⟩=some (.string DT[i]):=fun i hi=>gK (Bx.new w _ 9) i hi
def jS:az→Bool
 | .nil=>true
 | .cons h k r=>jS k&&tN h k.len&&jS r
theorem PO:∀(n:Nat) (t:Int) (h:EH) (kids:az) (v:Value) (w:World),kids.sz<n→kids.sz≤100000000→h.Wf→kids.Wf→dI w false none kids v→
  Calls Tryz.prog 168 #[qq t h v] w fun e w'=>e=.returned (.bool (jS kids&&tN h kids.len))∧Below w.heap.size w w':=by
 intro n
 induction n with
 |zero=>intro t h kids v w hn;omega
 | succ n ih=>
  have IH:=af ih;clear ih;intro t h kids v w hn hs Cg U6 hv;obtain⟨ka,b,off,c,rfl,hka,fz⟩:=hv;have hl:=kids.bU;have hS:=af (And.intro hn hs);have hI:=af fz;have hkb:kids.len≤100000000:=by omega
  have hW:=af Cg;have hKW:=af U6;obtain⟨a0,a1,a2,a3,a4,a5⟩:=h;obtain⟨len,hlen⟩:∃m,m=kids.len:=⟨_,rfl⟩;rw[←hlen] at hka hl hkb⊢;have bq:=af hlen;clear hn hs fz Cg U6 hlen;have cG:=af (Bx.new w #[.int .i64 t,.int .u8 a1,.int .u32 a2,.int .u8 a3,.string a4,.string a5,.slice ka len c] 134);have cF:=af ((Below.refl w.heap.size w).alloc (Nat.le_refl _) (.cells #[.int .i64 t,.int .u8 a1,.int .u32 a2,.int .u8 a3,.string a4,.string a5,.slice ka len c] 134));go_enter Tryz.func168,Tryz.ntmps168;go_wp2_with fail
  go_loopw [2,11] (fun z i wr=>∃(k:Nat) (r:az),z=.bool false∧k+r.len=len∧i=.int .i64 k∧bw w false none r b off k∧r.sz≤kids.sz∧r.Wf∧jS kids=jS r∧Bx wr w.heap.size #[.int .i64 t,.int .u8 a1,.int .u32 a2,.int .u8 a3,.string a4,.string a5,.slice ka len c] 134∧Below w.heap.size w wr) (fun _ i _=>len- (intOf i).toNat)
  case atStart=>exact⟨0,kids,rfl,by have:=bq.out;omega,rfl,hI.out,Nat.le_refl _,hKW.out,rfl,cG.out,cF.out⟩
  case round=>
   clear hI cG cF;obtain⟨k,r,rfl,hk,rfl,hr,hz,Fy,wO,dT,hb⟩:=hrel;have hX:=af (And.intro dT hb);have Ke:=af wO;cases r with
   | nil=>
    simp only[az.len,Nat.add_zero] at hk;subst k;clear hr hz Fy wO dT hb;have bz:Hid (jS kids=true):=Ke;have p0:=hX.1.cell 0;have p1:=hX.1.cell 1;have p2:=hX.1.cell 2;have p3:=hX.1.cell 3;have p4:=hX.1.cell 4;have p5:=hX.1.cell 5;have p6:=hX.1.cell 6;have pl:=hX.1.lt;simp at p0 p1 p2 p3 p4 p5 p6;by_cases h1:a1=1
    ·subst h1;go_wp2_with fail
     refine(kO t 1 0 a3 a4 a5 ka len c 0 _).mono ?_;rintro e w2 ⟨rfl,hb2⟩;have aL:=af (fD hX.1 hb2);have aQ:=af (cK hX.2 hb2);clear hb2 p0 p1 p2 p3 p4 p5 p6 pl;go_wp2_with fail
     go_ret;exact⟨aq (by rw[bz.out];simp only[U5,Bool.true_and,Bool.false_and]),aQ.out⟩
    by_cases h2:a1=2
    ·subst h2;go_wp2_with fail
     refine(kO t 2 0 a3 a4 a5 ka len c 0 _).mono ?_;rintro e w2 ⟨rfl,hb2⟩;have aL:=af (fD hX.1 hb2);have aQ:=af (cK hX.2 hb2);clear hb2 p0 p1 p2 p3 p4 p5 p6 pl;have p2:=aL.cell 2;have p3:=aL.cell 3;have p4:=aL.cell 4;have p5:=aL.cell 5;simp at p2 p3 p4 p5;cases fq:dv 0 a3 a4 a5 len 0
     ·go_wp2_with fail
      go_ret;exact⟨aq (by rw[bz.out];simp only[GA,fq,Bool.true_and,Bool.false_and]),aQ.out⟩
     have oY:=af (xD a2 hW.1 w2);go_wp2_with fail
     refine oY.mono ?_;rintro e w3 ⟨rfl,hw⟩;subst w3;cases hf:xC a2
     ·go_wp2_with fail
      go_ret;exact⟨aq (by rw[bz.out];simp only[GA,fq,hf,Bool.true_and,Bool.false_and]),aQ.out⟩
     go_wp2_with fail
     go_ret;exact⟨aq (by rw[bz.out];simp only[GA,fq,hf,Bool.true_and,Bool.false_and]),aQ.out⟩
    by_cases h3:a1=3
    ·subst h3;cases hq:(len:Int)==0
     ·go_wp2_with fail
      go_ret;exact⟨aq (by rw[bz.out];simp only[GD,hq,Bool.true_and,Bool.false_and]),hX.2.alloc hX.2.size _⟩
     go_wp2_with fail
     refine(kO t 3 a2 a3 ⟨#[]⟩ a5 ka len c len _).mono ?_;rintro e w2 ⟨rfl,hb2⟩;have aL:=af (fD hX.1 hb2);have aQ:=af (cK hX.2 hb2);clear hb2 p0 p1 p2 p3 p4 p5 p6 pl;have p2:=aL.cell 2;have p3:=aL.cell 3;have p4:=aL.cell 4;have p5:=aL.cell 5;simp at p2 p3 p4 p5;cases fq:dv a2 a3 ⟨#[]⟩ a5 len len
     ·go_wp2_with fail
      go_ret;exact⟨aq (by rw[bz.out];simp only[GD,hq,fq,Bool.true_and,Bool.false_and]),aQ.out⟩
     have oY:=af (fS a4 w2 hW.2.1);go_wp2_with fail
     refine oY.mono ?_;rintro e w3 ⟨rfl,hb3⟩;have gQ:=af (aQ.trans (hb3.mono aQ.size));clear hb3;go_wp2_with fail
     go_ret;exact⟨aq (by rw[bz.out];simp only[GD,hq,fq,Bool.true_and,Bool.false_and]),gQ.out⟩
    by_cases h4:a1=4
    ·subst h4;cases hq:(len:Int)==1
     ·go_wp2_with fail
      go_ret;exact⟨aq (by rw[bz.out];simp only[xG,hq,Bool.true_and,Bool.false_and]),hX.2.alloc hX.2.size _⟩
     go_wp2_with fail
     refine(kO t 4 a2 a3 ⟨#[]⟩ a5 ka len c len _).mono ?_;rintro e w2 ⟨rfl,hb2⟩;have aL:=af (fD hX.1 hb2);have aQ:=af (cK hX.2 hb2);clear hb2 p0 p1 p2 p3 p4 p5 p6 pl;have p2:=aL.cell 2;have p3:=aL.cell 3;have p4:=aL.cell 4;have p5:=aL.cell 5;simp at p2 p3 p4 p5;cases fq:dv a2 a3 ⟨#[]⟩ a5 len len
     ·go_wp2_with fail
      go_ret;exact⟨aq (by rw[bz.out];simp only[xG,hq,fq,Bool.true_and,Bool.false_and]),aQ.out⟩
     have oY:=af (fS a4 w2 hW.2.1);go_wp2_with fail
     refine oY.mono ?_;rintro e w3 ⟨rfl,hb3⟩;have gQ:=af (aQ.trans (hb3.mono aQ.size));clear hb3;go_wp2_with fail
     go_ret;exact⟨aq (by rw[bz.out];simp only[xG,hq,fq,Bool.true_and,Bool.false_and]),gQ.out⟩
    by_cases h5:a1=5
    ·subst h5;cases hq:decide ((len:Int)≤15)
     ·go_wp2_with fail
      go_ret;exact⟨aq (by rw[bz.out];simp only[Cb,hq,Bool.true_and,Bool.false_and]),hX.2.alloc hX.2.size _⟩
     go_wp2_with fail
     refine(kO t 5 a2 a3 ⟨#[]⟩ a5 ka len c len _).mono ?_;rintro e w2 ⟨rfl,hb2⟩;have aL:=af (fD hX.1 hb2);have aQ:=af (cK hX.2 hb2);clear hb2 p0 p1 p2 p3 p4 p5 p6 pl;have p2:=aL.cell 2;have p3:=aL.cell 3;have p4:=aL.cell 4;have p5:=aL.cell 5;simp at p2 p3 p4 p5;cases fq:dv a2 a3 ⟨#[]⟩ a5 len len
     ·go_wp2_with fail
      go_ret;exact⟨aq (by rw[bz.out];simp only[Cb,hq,fq,Bool.true_and,Bool.false_and]),aQ.out⟩
     have oY:=af (fS a4 w2 hW.2.1);go_wp2_with fail
     refine oY.mono ?_;rintro e w3 ⟨rfl,hb3⟩;have gQ:=af (aQ.trans (hb3.mono aQ.size));clear hb3;go_wp2_with fail
     go_ret;exact⟨aq (by rw[bz.out];simp only[Cb,hq,fq,Bool.true_and,Bool.false_and]),gQ.out⟩
    by_cases h6:a1=6
    ·subst h6;go_wp2_with fail
     refine(kO t 6 a2 a3 a4 ⟨#[]⟩ ka len c 1 _).mono ?_;rintro e w2 ⟨rfl,hb2⟩;have aL:=af (fD hX.1 hb2);have aQ:=af (cK hX.2 hb2);clear hb2 p0 p1 p2 p3 p4 p5 p6 pl;have p2:=aL.cell 2;have p3:=aL.cell 3;have p4:=aL.cell 4;have p5:=aL.cell 5;simp at p2 p3 p4 p5;cases fq:dv a2 a3 a4 ⟨#[]⟩ len 1
     ·go_wp2_with fail
      go_ret;exact⟨aq (by rw[bz.out];simp only[Cc,fq,Bool.true_and,Bool.false_and]),aQ.out⟩
     have pl2:=aL.lt;have oY:=af (jY DT w2.heap.size a5 _ (by decide) (PN w2));go_wp2_with fail
     refine oY.mono ?_;rintro e w3 ⟨rfl,hw⟩;subst w3;go_wp2_with fail
     go_ret;exact⟨aq (by rw[bz.out];simp only[Cc,fq,Bool.true_and,Bool.false_and]),aQ.alloc aQ.size _⟩
    by_cases h7:a1=7
    ·subst h7;go_wp2_with fail
     refine(kO t 7 a2 a3 a4 ⟨#[]⟩ ka len c 2 _).mono ?_;rintro e w2 ⟨rfl,hb2⟩;have aL:=af (fD hX.1 hb2);have aQ:=af (cK hX.2 hb2);clear hb2 p0 p1 p2 p3 p4 p5 p6 pl;have p2:=aL.cell 2;have p3:=aL.cell 3;have p4:=aL.cell 4;have p5:=aL.cell 5;simp at p2 p3 p4 p5;cases fq:dv a2 a3 a4 ⟨#[]⟩ len 2
     ·go_wp2_with fail
      go_ret;exact⟨aq (by rw[bz.out];simp only[Ce,fq,Bool.true_and,Bool.false_and]),aQ.out⟩
     have oY:=af (Ab a5 w2);go_wp2_with fail
     refine oY.mono ?_;rintro e w3 ⟨rfl,hb3⟩;have gQ:=af (aQ.trans (hb3.mono aQ.size));clear hb3;go_wp2_with fail
     go_ret;exact⟨aq (by rw[bz.out];simp only[Ce,fq,Bool.true_and,Bool.false_and]),gQ.out⟩
    by_cases h8:a1=8
    ·subst h8;go_wp2_with fail
     refine(kO t 8 a2 0 a4 a5 ka len c 1 _).mono ?_;rintro e w2 ⟨rfl,hb2⟩;have aL:=af (fD hX.1 hb2);have aQ:=af (cK hX.2 hb2);clear hb2 p0 p1 p2 p3 p4 p5 p6 pl;have p2:=aL.cell 2;have p3:=aL.cell 3;have p4:=aL.cell 4;have p5:=aL.cell 5;simp at p2 p3 p4 p5;cases fq:dv a2 0 a4 a5 len 1
     ·go_wp2_with fail
      go_ret;exact⟨aq (by rw[bz.out];simp only[GF,fq,Bool.true_and,Bool.false_and]),aQ.out⟩
     have oY:=af (jC a3 w2);go_wp2_with fail
     refine oY.mono ?_;rintro e w3 ⟨rfl,hw⟩;subst w3;go_wp2_with fail
     go_ret;exact⟨aq (by rw[bz.out];simp only[GF,fq,Bool.true_and,Bool.false_and]),aQ.out⟩
    have q1:(a1==1)=false:=by simpa using h1
    have q2:(a1==2)=false:=by simpa using h2
    have q3:(a1==3)=false:=by simpa using h3
    have q4:(a1==4)=false:=by simpa using h4
    have q5:(a1==5)=false:=by simpa using h5
    have q6:(a1==6)=false:=by simpa using h6
    have q7:(a1==7)=false:=by simpa using h7
    have q8:(a1==8)=false:=by simpa using h8
    have hnone:=af (Om t a1 a2 a3 a4 a5 len ⟨h1,h2,h3,h4,h5,h6,h7,h8⟩);clear h1 h2 h3 h4 h5 h6 h7 h8;go_wp2_with fail
    go_ret;exact⟨aq (by rw[bz.out];exact hnone.symm),hX.2.alloc hX.2.size _⟩
   | cons h' bD rest=>
    simp only[az.len,az.sz] at hk hz;obtain⟨gO,hw2,hw3⟩:=Fy;obtain⟨⟨⟨t',y0,_⟩,y1,y2,y3,y4,y5⟩,⟨u,y6,hu⟩,hR⟩:=hr.cons;have x0:=ag y0 hb;have x1:=ag y1 hb;have x2:=ag y2 hb;have x3:=ag y3 hb;have x4:=ag y4 hb;have x5:=ag y5 hb;have x6:=ag y6 hb;have oB:k<len:=by omega
    have bG:ka=some ⟨b,off,none⟩:=by rcases hka with q|q;(·omega);(·exact q.1)
    subst bG;obtain⟨ua,uc,rfl⟩:∃a c,u=.slice a bD.len c:=by obtain⟨a,_,_,c,e,_⟩:=hu;exact⟨a,c,e⟩
    have au:=af (fun w2 (hb2:Below wr.heap.size wr w2)=>IH.out t' h' bD (.slice ua bD.len uc) w2 (by have:=hS.out;omega) (by have:=hS.out;omega) gO hw2 (hu.mono (hb.trans (hb2.mono hb.size))));have fE:=af (And.intro hR (And.intro hz hw3));have dU:=af ((Below.refl wr.heap.size wr).alloc (Nat.le_refl _) (.cells #[.int .i64 t',.int .u8 h'.kind,.int .u32 h'.word,.int .u8 h'.type,.string h'.name,.string h'.sign,.slice ua bD.len uc] 134));clear hka hr hu hR hz hb y0 y1 y2 y3 y4 y5 y6 dT wO gO hw2 hw3;go_wp2_with fail
    refine(au.out _ dU.out).mono ?_;rintro e w2 ⟨rfl,hb2⟩;have aL:=af (And.intro (hX.1.on (ah (dU.trans (hb2.mono (by simp)))) (by simp)) (hX.2.trans ((dU.trans (hb2.mono (by simp))).mono hX.2.size)));clear hb2 au x0 x1 x2 x3 x4 x5 x6 dU;cases hh:jS bD&&tN h' bD.len
    ·have hE:Hid (jS kids=false):=af (by rw[Ke.out];simp only[jS,hh];rfl);go_wp2_with fail
     go_ret;exact⟨aq (by rw[hE.out];rfl),aL.2⟩
    ·have hE:Hid (jS kids=jS rest):=af (by rw[Ke.out];simp only[jS,hh];rfl);go_wp2_with fail
     go_roundw
     case rel=>exact⟨k+1,rest,rfl,by omega,by go_num,fE.1,by have:=fE.2.1;omega,fE.2.2,hE.out,aL.1,aL.2⟩
     case measure=>simp[intOf];omega
end
section
open Go.Shelf
end
section
abbrev Lm (t:Int) (h:SH) (v5 v6 v7:Value):Value:=.agg #[.int .i64 t,.int .u8 h.kind,.string h.name,.int .u8 h.type,.string h.sign,v5,v6,v7]
end
section
open Go.Shelf
def SH.Wf (h:SH):Prop:=h.name.size≤1048576∧h.sign.size≤1048576
def aH.Wf:aH→Prop
 | .nil=>True
 | .cons h x b e r=>h.Wf∧x.Wf∧b.Wf∧e.Wf∧r.Wf
def az.fk:az→Int
 | .nil=>0
 | .cons h _ _=>h.kind
def gy (h:SH) (n:Nat) (fk:Int) (nb ne:Nat):Bool:=
 if h.kind=1 then bE ⟨#[]⟩ 0 h.sign n 1 nb ne&&(aS h.name&&fh h.type)
 else if h.kind=2 then bE ⟨#[]⟩ h.type ⟨#[]⟩ n 1 nb ne&&(aS h.name&&cv iX h.sign)
 else if h.kind=3 then bE ⟨#[]⟩ h.type ⟨#[]⟩ n 2 nb ne&&(aS h.name&&cv iX h.sign)
 else if h.kind=4 then bE h.name h.type h.sign n 1 0 0
 else if h.kind=5 then bE h.name h.type h.sign n 1 0 ne
 else if h.kind=6 then bE h.name h.type h.sign n 0 nb ne
 else if h.kind=7 then bE h.name h.type h.sign n 0 nb ne
 else if h.kind=8 then bE h.name h.type h.sign n 1 nb ne
 else if h.kind=9 then bE h.name h.type h.sign n 1 nb ne&&(fk==5)
 else false
theorem vu (a0:Int) (a2:ByteArray) (a3:Int) (a4:ByteArray) (n:Nat) (fk:Int) (nb ne:Nat):gy ⟨a0,1,a2,a3,a4⟩ n fk nb ne=(bE ⟨#[]⟩ 0 a4 n 1 nb ne&&(aS a2&&fh a3)):=rfl
theorem vw (a0:Int) (a2:ByteArray) (a3:Int) (a4:ByteArray) (n:Nat) (fk:Int) (nb ne:Nat):gy ⟨a0,2,a2,a3,a4⟩ n fk nb ne=(bE ⟨#[]⟩ a3 ⟨#[]⟩ n 1 nb ne&&(aS a2&&cv iX a4)):=rfl
theorem vy (a0:Int) (a2:ByteArray) (a3:Int) (a4:ByteArray) (n:Nat) (fk:Int) (nb ne:Nat):gy ⟨a0,3,a2,a3,a4⟩ n fk nb ne=(bE ⟨#[]⟩ a3 ⟨#[]⟩ n 2 nb ne&&(aS a2&&cv iX a4)):=rfl
theorem GG (a0:Int) (a2:ByteArray) (a3:Int) (a4:ByteArray) (n:Nat) (fk:Int) (nb ne:Nat):gy ⟨a0,4,a2,a3,a4⟩ n fk nb ne=bE a2 a3 a4 n 1 0 0:=rfl
theorem GI (a0:Int) (a2:ByteArray) (a3:Int) (a4:ByteArray) (n:Nat) (fk:Int) (nb ne:Nat):gy ⟨a0,5,a2,a3,a4⟩ n fk nb ne=bE a2 a3 a4 n 1 0 ne:=rfl
theorem PQ (a0:Int) (a2:ByteArray) (a3:Int) (a4:ByteArray) (n:Nat) (fk:Int) (nb ne:Nat):gy ⟨a0,6,a2,a3,a4⟩ n fk nb ne=bE a2 a3 a4 n 0 nb ne:=rfl
theorem PR (a0:Int) (a2:ByteArray) (a3:Int) (a4:ByteArray) (n:Nat) (fk:Int) (nb ne:Nat):gy ⟨a0,7,a2,a3,a4⟩ n fk nb ne=bE a2 a3 a4 n 0 nb ne:=rfl
theorem GJ (a0:Int) (a2:ByteArray) (a3:Int) (a4:ByteArray) (n:Nat) (fk:Int) (nb ne:Nat):gy ⟨a0,8,a2,a3,a4⟩ n fk nb ne=bE a2 a3 a4 n 1 nb ne:=rfl
theorem vA (a0:Int) (a2:ByteArray) (a3:Int) (a4:ByteArray) (n:Nat) (fk:Int) (nb ne:Nat):gy ⟨a0,9,a2,a3,a4⟩ n fk nb ne=(bE a2 a3 a4 n 1 nb ne&&(fk==5)):=rfl
theorem GK (a0 a1:Int) (a2:ByteArray) (a3:Int) (a4:ByteArray) (n:Nat) (fk:Int) (nb ne:Nat) (h:¬a1=1∧¬a1=2∧¬a1=3∧¬a1=4∧¬a1=5∧¬a1=6∧¬a1=7∧¬a1=8∧¬a1=9):gy ⟨a0,a1,a2,a3,a4⟩ n fk nb ne=false:=by
 obtain⟨h1,h2,h3,h4,h5,h6,h7,h8,h9⟩:=h;simp only[gy,h1,h2,h3,h4,h5,h6,h7,h8,h9,if_false]
theorem Ln (w:World):∀i (hi:i<iX.length),(w.alloc (.cells (iX.map Value.string).toArray 9)).cell? ⟨w.heap.size,i,none⟩=some (.string iX[i]):=fun i hi=>gK (Bx.new w _ 9) i hi
theorem jE (a0 a1:Int) (a2:ByteArray) (a3:Int) (a4:ByteArray) (xa ba ea:Option Addr) (n xc nb bc ne ec k:Nat) (w:World) (x:Bool) (hx:bE a2 a3 a4 n k nb ne=x):
  Calls Tryz.prog 206 #[.agg #[.int .i64 a0,.int .u8 a1,.string a2,.int .u8 a3,.string a4,.slice xa n xc,.slice ba nb bc,.slice ea ne ec],.int .i64 k] w fun e w'=>e=.returned (.bool x)∧Below w.heap.size w w':=by
 subst hx;exact iW a0 a1 a2 a3 a4 xa ba ea n xc nb bc ne ec k w
structure l8 (w:World) (q q2:Nat) (box own:Array Value) (w':World):Prop where
 box:Bx w' q box 109
 own:Bx w' q2 own 109
 below:Below w.heap.size w w'
theorem l8.on {w w1 w2:World} {q q2:Nat} {box own:Array Value} (h:l8 w q q2 box own w1) (hb:Below w1.heap.size w1 w2):l8 w q q2 box own w2:=
 ⟨h.box.on (ah hb) (by simp),h.own.on (ah hb) (by simp),h.below.trans (hb.mono h.below.size)⟩
theorem l8.same {w w1 w2:World} {q q2:Nat} {box own:Array Value} (h:l8 w q q2 box own w1) (hb:w2=w1):l8 w q q2 box own w2:=by rw[hb];exact h
theorem l8.alloc' {w w1 w2:World} {q q2:Nat} {box own:Array Value} (h:l8 w q q2 box own w1) {o:Obj} (hb:w2=w1.alloc o):l8 w q q2 box own w2:=by
 rw[hb];exact h.on ((Below.refl _ _).alloc (Nat.le_refl _) _)
theorem l8.drew {w w1:World} {q q2:Nat} {box own:Array Value} (h:l8 w q q2 box own w1):l8 w q q2 box own w1.drew:=h.on (Below.refl _ _).drew
theorem l8.start {w:World} {box:Array Value} (h1:Bx (w.alloc (.cells box 109)) w.heap.size box 109) (h2:Below w.heap.size w (w.alloc (.cells box 109))) (PT:Array Value):l8 w w.heap.size (w.heap.size+1) box PT ((w.alloc (.cells box 109)).alloc (.cells PT 109)):=
 ⟨h1.on (World.grownBy_alloc _ _ none) (by simp),by have:=Bx.new (w.alloc (.cells box 109)) PT 109;simpa using this,h2.alloc h2.size _⟩
theorem lu (s:ByteArray) (w:World) (hs:s.size≤1048576) (x:Bool) (hx:aS s=x):Calls Tryz.prog 134 #[.string s] w fun e w'=>e=.returned (.bool x)∧Below w.heap.size w w':=by
 subst hx;exact fS s w hs
theorem Ci (w:World):Calls Tryz.prog 208 #[] w fun e w'=>e=.returned (.slice (some ⟨w.heap.size,0,none⟩) 11 11)∧w'=w.alloc (.cells (iX.map Value.string).toArray 9):=PH w
theorem Cj {w w':World} (h:w'=w.alloc (.cells (iX.map Value.string).toArray 9)):∀i (hi:i<iX.length),w'.cell? ⟨w.heap.size,i,none⟩=some (.string iX[i]):=by
 rw[h];exact Ln w
theorem pM (L:List ByteArray) (B:Nat) (x:ByteArray) (w:World) (hn:L.length≤1000) (h:∀i (hi:i<L.length),w.cell? ⟨B,i,none⟩=some (.string L[i])):
  Calls Tryz.prog 207 #[.slice (some ⟨B,0,none⟩) L.length L.length,.string x] w fun e w'=>e=.returned (.bool (cv L x))∧w'=w:=jY L B x w hn h
theorem PU (t a1:Int) (a2:ByteArray) (a3:Int) (a4:ByteArray) (xa ba ea:Option Addr) (n xc nb bc ne ec:Nat) (fk:Int) (w:World) (Cg:a2.size≤1048576∧a4.size≤1048576) (hfk:n=0∨∃b o,xa=some ⟨b,o,none⟩∧w.cell? ⟨b,o+1,none⟩=some (.int .u8 fk)) (hn:n≤100000000):
  Calls Tryz.prog 167 #[Lm t ⟨t,a1,a2,a3,a4⟩ (.slice xa n xc) (.slice ba nb bc) (.slice ea ne ec)] w fun e w'=>e=.returned (.bool (gy ⟨t,a1,a2,a3,a4⟩ n fk nb ne))∧Below w.heap.size w w':=by
 have hX:=af (And.intro (Bx.new w #[.int .i64 t,.int .u8 a1,.string a2,.int .u8 a3,.string a4,.slice xa n xc,.slice ba nb bc,.slice ea ne ec] 109) ((Below.refl w.heap.size w).alloc (Nat.le_refl _) (.cells #[.int .i64 t,.int .u8 a1,.string a2,.int .u8 a3,.string a4,.slice xa n xc,.slice ba nb bc,.slice ea ne ec] 109)));have hW:=af Cg;have hF:=af hfk;clear Cg hfk;go_enter Tryz.func167,Tryz.ntmps167;by_cases h1:a1=1
 ·subst h1;go_wp2_with fail
  refine(iW t 1 ⟨#[]⟩ 0 a4 xa ba ea n xc nb bc ne ec 1 _).mono ?_;rintro e w2 ⟨rfl,hb2⟩;have aL:=af (fD hX.1 hb2);have aQ:=af (cK hX.2 hb2);clear hb2;have p2:=aL.cell 2;have p3:=aL.cell 3;have p4:=aL.cell 4;have p5:=aL.cell 5;have pl:=aL.lt;simp at p2 p3 p4 p5;cases hp:bE ⟨#[]⟩ 0 a4 n 1 nb ne
  ·go_wp2_with fail
   go_ret;exact⟨aq (by simp only[vu,hp,Bool.true_and,Bool.false_and]),aQ.out⟩
  have oY:=af (fS a2 w2 hW.1);go_wp2_with fail
  refine oY.mono ?_;rintro e w3 ⟨rfl,hb3⟩;have gQ:=af (aQ.trans (hb3.mono aQ.size));have cq:=af (aL.on (ah hb3) (by simp));have pq:=cq.cell 3;simp at pq;clear hb3 p2 p3 p4 p5 pl oY;cases hno:aS a2
  ·go_wp2_with fail
   go_ret;exact⟨aq (by simp only[vu,hp,hno,Bool.true_and,Bool.false_and]),gQ.out⟩
  have oY:=af (jC a3 w3);go_wp2_with fail
  refine oY.mono ?_;rintro e w4 ⟨rfl,hw⟩;subst w4;go_wp2_with fail
  go_ret;exact⟨aq (by simp only[vu,hp,hno,Bool.true_and,Bool.false_and]),gQ.out⟩
 by_cases h2:a1=2
 ·subst h2;cases hp:bE ⟨#[]⟩ a3 ⟨#[]⟩ n 1 nb ne
  ·go_wp2_with fail
   have mH:Hid (l8 w w.heap.size (w.heap.size+1) #[.int .i64 t,.int .u8 2,.string a2,.int .u8 a3,.string a4,.slice xa n xc,.slice ba nb bc,.slice ea ne ec] #[.int .i64 t,.int .u8 2,.string ⟨#[]⟩,.int .u8 a3,.string ⟨#[]⟩,.slice xa n xc,.slice ba nb bc,.slice ea ne ec] _):=af (l8.start hX.1 hX.2 #[.int .i64 t,.int .u8 2,.string ⟨#[]⟩,.int .u8 a3,.string ⟨#[]⟩,.slice xa n xc,.slice ba nb bc,.slice ea ne ec]);have hX:=hX;clear hF;refine wp_region_held_drew (S:=(l8 w w.heap.size (w.heap.size+1) #[.int .i64 t,.int .u8 2,.string a2,.int .u8 a3,.string a4,.slice xa n xc,.slice ba nb bc,.slice ea ne ec] #[.int .i64 t,.int .u8 2,.string ⟨#[]⟩,.int .u8 a3,.string ⟨#[]⟩,.slice xa n xc,.slice ba nb bc,.slice ea ne ec])) (by kernel_rfl) mH.drew (fun hHeld=>?_);refine tk 0 ?_ (hy:=by intro w' hSw;have c0:=hSw.own.cell 0;have c1:=hSw.own.cell 1;have c2:=hSw.own.cell 2;have c3:=hSw.own.cell 3;have c4:=hSw.own.cell 4;have c5:=hSw.own.cell 5;have c6:=hSw.own.cell 6;have c7:=hSw.own.cell 7;simp at c0 c1 c2 c3 c4 c5 c6 c7;go_simp;(try with_reducible rfl));refine tk 1 ?_;refine tr 2 fun K hK=>?_
   go_simp;go_at_call 206;refine(jE t 2 ⟨#[]⟩ a3 ⟨#[]⟩ xa ba ea n xc nb bc ne ec 1 _ false hp).mono ?_;rintro e w2 ⟨rfl,hb2⟩;have hk:=hHeld.on hb2;clear hHeld;go_wp2_with fail
   refine hK.out _ _ hk (fun hHeld=>?_);clear hK K hk
   try simp only[bK,bL,bM,bN,bO]
   refine tk 3 ?_;refine tn 4 ?_;refine tn 5 ?_;refine tn 6 ?_;refine tk 7 ?_;refine tk 8 ?_;refine tn 9 ?_;refine tn 10 ?_;refine tn 11 ?_;refine tn 12 ?_;refine tk 13 ?_;refine tk 14 ?_;refine td ?_;have dS:=af hHeld.below;clear hHeld;go_wp2_with fail
   go_ret;exact⟨aq (by simp only[vw,hp,Bool.true_and,Bool.false_and]),dS.out⟩
  cases hno:aS a2
  ·go_wp2_with fail
   have mH:Hid (l8 w w.heap.size (w.heap.size+1) #[.int .i64 t,.int .u8 2,.string a2,.int .u8 a3,.string a4,.slice xa n xc,.slice ba nb bc,.slice ea ne ec] #[.int .i64 t,.int .u8 2,.string ⟨#[]⟩,.int .u8 a3,.string ⟨#[]⟩,.slice xa n xc,.slice ba nb bc,.slice ea ne ec] _):=af (l8.start hX.1 hX.2 #[.int .i64 t,.int .u8 2,.string ⟨#[]⟩,.int .u8 a3,.string ⟨#[]⟩,.slice xa n xc,.slice ba nb bc,.slice ea ne ec]);have hX:=hX;clear hF;refine wp_region_held_drew (S:=(l8 w w.heap.size (w.heap.size+1) #[.int .i64 t,.int .u8 2,.string a2,.int .u8 a3,.string a4,.slice xa n xc,.slice ba nb bc,.slice ea ne ec] #[.int .i64 t,.int .u8 2,.string ⟨#[]⟩,.int .u8 a3,.string ⟨#[]⟩,.slice xa n xc,.slice ba nb bc,.slice ea ne ec])) (by kernel_rfl) mH.drew (fun hHeld=>?_);refine tk 0 ?_ (hy:=by intro w' hSw;have c0:=hSw.own.cell 0;have c1:=hSw.own.cell 1;have c2:=hSw.own.cell 2;have c3:=hSw.own.cell 3;have c4:=hSw.own.cell 4;have c5:=hSw.own.cell 5;have c6:=hSw.own.cell 6;have c7:=hSw.own.cell 7;simp at c0 c1 c2 c3 c4 c5 c6 c7;go_simp;(try with_reducible rfl));refine tk 1 ?_;refine tr 2 fun K hK=>?_
   go_simp;go_at_call 206;refine(jE t 2 ⟨#[]⟩ a3 ⟨#[]⟩ xa ba ea n xc nb bc ne ec 1 _ true hp).mono ?_;rintro e w2 ⟨rfl,hb2⟩;have hk:=hHeld.on hb2;clear hHeld;go_wp2_with fail
   refine hK.out _ _ hk (fun hHeld=>?_);clear hK K hk
   try simp only[bK,bL,bM,bN,bO]
   refine tk 3 ?_;refine tk 4 ?_;refine tk 5 ?_ (hy:=by intro w' hSw;have c2:=hSw.box.cell 2;have c4:=hSw.box.cell 4;simp at c2 c4;go_simp;(try with_reducible rfl));refine tr 6 fun K hK=>?_
   go_simp;go_at_call 134;refine(lu a2 _ hW.1 false hno).mono ?_;rintro e w2 ⟨rfl,hb2⟩;have hk:=hHeld.on hb2;clear hHeld;go_wp2_with fail
   refine hK.out _ _ hk (fun hHeld=>?_);clear hK K hk
   try simp only[bK,bL,bM,bN,bO]
   refine tk 7 ?_;refine tk 8 ?_;refine tn 9 ?_;refine tn 10 ?_;refine tn 11 ?_;refine tn 12 ?_;refine tk 13 ?_;refine tk 14 ?_;refine td ?_;have dS:=af hHeld.below;clear hHeld;go_wp2_with fail
   go_ret;exact⟨aq (by simp only[vw,hp,hno,Bool.true_and,Bool.false_and]),dS.out⟩
  go_wp2_with fail
  have mH:Hid (l8 w w.heap.size (w.heap.size+1) #[.int .i64 t,.int .u8 2,.string a2,.int .u8 a3,.string a4,.slice xa n xc,.slice ba nb bc,.slice ea ne ec] #[.int .i64 t,.int .u8 2,.string ⟨#[]⟩,.int .u8 a3,.string ⟨#[]⟩,.slice xa n xc,.slice ba nb bc,.slice ea ne ec] _):=af (l8.start hX.1 hX.2 #[.int .i64 t,.int .u8 2,.string ⟨#[]⟩,.int .u8 a3,.string ⟨#[]⟩,.slice xa n xc,.slice ba nb bc,.slice ea ne ec]);have hX:=hX;clear hF;refine wp_region_held_drew (S:=(l8 w w.heap.size (w.heap.size+1) #[.int .i64 t,.int .u8 2,.string a2,.int .u8 a3,.string a4,.slice xa n xc,.slice ba nb bc,.slice ea ne ec] #[.int .i64 t,.int .u8 2,.string ⟨#[]⟩,.int .u8 a3,.string ⟨#[]⟩,.slice xa n xc,.slice ba nb bc,.slice ea ne ec])) (by kernel_rfl) mH.drew (fun hHeld=>?_);refine tk 0 ?_ (hy:=by intro w' hSw;have c0:=hSw.own.cell 0;have c1:=hSw.own.cell 1;have c2:=hSw.own.cell 2;have c3:=hSw.own.cell 3;have c4:=hSw.own.cell 4;have c5:=hSw.own.cell 5;have c6:=hSw.own.cell 6;have c7:=hSw.own.cell 7;simp at c0 c1 c2 c3 c4 c5 c6 c7;go_simp;(try with_reducible rfl));refine tk 1 ?_;refine tr 2 fun K hK=>?_
  go_simp;go_at_call 206;refine(jE t 2 ⟨#[]⟩ a3 ⟨#[]⟩ xa ba ea n xc nb bc ne ec 1 _ true hp).mono ?_;rintro e w2 ⟨rfl,hb2⟩;have hk:=hHeld.on hb2;clear hHeld;go_wp2_with fail
  refine hK.out _ _ hk (fun hHeld=>?_);clear hK K hk
  try simp only[bK,bL,bM,bN,bO]
  refine tk 3 ?_;refine tk 4 ?_;refine tk 5 ?_ (hy:=by intro w' hSw;have c2:=hSw.box.cell 2;have c4:=hSw.box.cell 4;simp at c2 c4;go_simp;(try with_reducible rfl));refine tr 6 fun K hK=>?_
  go_simp;go_at_call 134;refine(lu a2 _ hW.1 true hno).mono ?_;rintro e w2 ⟨rfl,hb2⟩;have hk:=hHeld.on hb2;clear hHeld;go_wp2_with fail
  refine hK.out _ _ hk (fun hHeld=>?_);clear hK K hk
  try simp only[bK,bL,bM,bN,bO]
  refine tk 7 ?_;refine tk 8 ?_;refine tk 10 ?_;refine tk 11 ?_ (hy:=by intro w' hSw;have c2:=hSw.box.cell 2;have c4:=hSw.box.cell 4;simp at c2 c4;go_simp;(try with_reducible rfl));refine tr 9 fun K hK=>?_
  go_simp;go_at_call 208;refine(Ci _).mono ?_;rintro e w2 ⟨rfl,hw2⟩;have hk:=hHeld.alloc' hw2;have GL:=af (Cj hw2);clear hw2;clear hHeld;go_wp2_with fail
  refine hK.out _ _ hk (fun hHeld=>?_);clear hK K hk
  try simp only[bK,bL,bM,bN,bO]
  refine tr 12 fun K hK=>?_
  go_simp;go_at_call 207;refine(pM iX _ a4 _ (by decide) GL.out).mono ?_;rintro e w2 ⟨rfl,hw2⟩;have hk:=hHeld.same hw2;subst hw2;clear hHeld;go_wp2_with fail
  refine hK.out _ _ hk (fun hHeld=>?_);clear hK K hk
  try simp only[bK,bL,bM,bN,bO]
  refine tk 13 ?_;refine tk 14 ?_;refine td ?_;have dS:=af hHeld.below;clear hHeld;go_wp2_with fail
  go_ret;exact⟨aq (by simp only[vw,hp,hno,Bool.true_and,Bool.false_and]),dS.out⟩
 by_cases h3:a1=3
 ·subst h3;cases hp:bE ⟨#[]⟩ a3 ⟨#[]⟩ n 2 nb ne
  ·go_wp2_with fail
   have mH:Hid (l8 w w.heap.size (w.heap.size+1) #[.int .i64 t,.int .u8 3,.string a2,.int .u8 a3,.string a4,.slice xa n xc,.slice ba nb bc,.slice ea ne ec] #[.int .i64 t,.int .u8 3,.string ⟨#[]⟩,.int .u8 a3,.string ⟨#[]⟩,.slice xa n xc,.slice ba nb bc,.slice ea ne ec] _):=af (l8.start hX.1 hX.2 #[.int .i64 t,.int .u8 3,.string ⟨#[]⟩,.int .u8 a3,.string ⟨#[]⟩,.slice xa n xc,.slice ba nb bc,.slice ea ne ec]);have hX:=hX;clear hF;refine wp_region_held_drew (S:=(l8 w w.heap.size (w.heap.size+1) #[.int .i64 t,.int .u8 3,.string a2,.int .u8 a3,.string a4,.slice xa n xc,.slice ba nb bc,.slice ea ne ec] #[.int .i64 t,.int .u8 3,.string ⟨#[]⟩,.int .u8 a3,.string ⟨#[]⟩,.slice xa n xc,.slice ba nb bc,.slice ea ne ec])) (by kernel_rfl) mH.drew (fun hHeld=>?_);refine tk 0 ?_ (hy:=by intro w' hSw;have c0:=hSw.own.cell 0;have c1:=hSw.own.cell 1;have c2:=hSw.own.cell 2;have c3:=hSw.own.cell 3;have c4:=hSw.own.cell 4;have c5:=hSw.own.cell 5;have c6:=hSw.own.cell 6;have c7:=hSw.own.cell 7;simp at c0 c1 c2 c3 c4 c5 c6 c7;go_simp;(try with_reducible rfl));refine tk 1 ?_;refine tr 2 fun K hK=>?_
   go_simp;go_at_call 206;refine(jE t 3 ⟨#[]⟩ a3 ⟨#[]⟩ xa ba ea n xc nb bc ne ec 2 _ false hp).mono ?_;rintro e w2 ⟨rfl,hb2⟩;have hk:=hHeld.on hb2;clear hHeld;go_wp2_with fail
   refine hK.out _ _ hk (fun hHeld=>?_);clear hK K hk
   try simp only[bK,bL,bM,bN,bO]
   refine tk 3 ?_;refine tn 4 ?_;refine tn 5 ?_;refine tn 6 ?_;refine tk 7 ?_;refine tk 8 ?_;refine tn 9 ?_;refine tn 10 ?_;refine tn 11 ?_;refine tn 12 ?_;refine tk 13 ?_;refine tk 14 ?_;refine td ?_;have dS:=af hHeld.below;clear hHeld;go_wp2_with fail
   go_ret;exact⟨aq (by simp only[vy,hp,Bool.true_and,Bool.false_and]),dS.out⟩
  cases hno:aS a2
  ·go_wp2_with fail
   have mH:Hid (l8 w w.heap.size (w.heap.size+1) #[.int .i64 t,.int .u8 3,.string a2,.int .u8 a3,.string a4,.slice xa n xc,.slice ba nb bc,.slice ea ne ec] #[.int .i64 t,.int .u8 3,.string ⟨#[]⟩,.int .u8 a3,.string ⟨#[]⟩,.slice xa n xc,.slice ba nb bc,.slice ea ne ec] _):=af (l8.start hX.1 hX.2 #[.int .i64 t,.int .u8 3,.string ⟨#[]⟩,.int .u8 a3,.string ⟨#[]⟩,.slice xa n xc,.slice ba nb bc,.slice ea ne ec]);have hX:=hX;clear hF;refine wp_region_held_drew (S:=(l8 w w.heap.size (w.heap.size+1) #[.int .i64 t,.int .u8 3,.string a2,.int .u8 a3,.string a4,.slice xa n xc,.slice ba nb bc,.slice ea ne ec] #[.int .i64 t,.int .u8 3,.string ⟨#[]⟩,.int .u8 a3,.string ⟨#[]⟩,.slice xa n xc,.slice ba nb bc,.slice ea ne ec])) (by kernel_rfl) mH.drew (fun hHeld=>?_);refine tk 0 ?_ (hy:=by intro w' hSw;have c0:=hSw.own.cell 0;have c1:=hSw.own.cell 1;have c2:=hSw.own.cell 2;have c3:=hSw.own.cell 3;have c4:=hSw.own.cell 4;have c5:=hSw.own.cell 5;have c6:=hSw.own.cell 6;have c7:=hSw.own.cell 7;simp at c0 c1 c2 c3 c4 c5 c6 c7;go_simp;(try with_reducible rfl));refine tk 1 ?_;refine tr 2 fun K hK=>?_
   go_simp;go_at_call 206;refine(jE t 3 ⟨#[]⟩ a3 ⟨#[]⟩ xa ba ea n xc nb bc ne ec 2 _ true hp).mono ?_;rintro e w2 ⟨rfl,hb2⟩;have hk:=hHeld.on hb2;clear hHeld;go_wp2_with fail
   refine hK.out _ _ hk (fun hHeld=>?_);clear hK K hk
   try simp only[bK,bL,bM,bN,bO]
   refine tk 3 ?_;refine tk 4 ?_;refine tk 5 ?_ (hy:=by intro w' hSw;have c2:=hSw.box.cell 2;have c4:=hSw.box.cell 4;simp at c2 c4;go_simp;(try with_reducible rfl));refine tr 6 fun K hK=>?_
   go_simp;go_at_call 134;refine(lu a2 _ hW.1 false hno).mono ?_;rintro e w2 ⟨rfl,hb2⟩;have hk:=hHeld.on hb2;clear hHeld;go_wp2_with fail
   refine hK.out _ _ hk (fun hHeld=>?_);clear hK K hk
   try simp only[bK,bL,bM,bN,bO]
   refine tk 7 ?_;refine tk 8 ?_;refine tn 9 ?_;refine tn 10 ?_;refine tn 11 ?_;refine tn 12 ?_;refine tk 13 ?_;refine tk 14 ?_;refine td ?_;have dS:=af hHeld.below;clear hHeld;go_wp2_with fail
   go_ret;exact⟨aq (by simp only[vy,hp,hno,Bool.true_and,Bool.false_and]),dS.out⟩
  go_wp2_with fail
  have mH:Hid (l8 w w.heap.size (w.heap.size+1) #[.int .i64 t,.int .u8 3,.string a2,.int .u8 a3,.string a4,.slice xa n xc,.slice ba nb bc,.slice ea ne ec] #[.int .i64 t,.int .u8 3,.string ⟨#[]⟩,.int .u8 a3,.string ⟨#[]⟩,.slice xa n xc,.slice ba nb bc,.slice ea ne ec] _):=af (l8.start hX.1 hX.2 #[.int .i64 t,.int .u8 3,.string ⟨#[]⟩,.int .u8 a3,.string ⟨#[]⟩,.slice xa n xc,.slice ba nb bc,.slice ea ne ec]);have hX:=hX;clear hF;refine wp_region_held_drew (S:=(l8 w w.heap.size (w.heap.size+1) #[.int .i64 t,.int .u8 3,.string a2,.int .u8 a3,.string a4,.slice xa n xc,.slice ba nb bc,.slice ea ne ec] #[.int .i64 t,.int .u8 3,.string ⟨#[]⟩,.int .u8 a3,.string ⟨#[]⟩,.slice xa n xc,.slice ba nb bc,.slice ea ne ec])) (by kernel_rfl) mH.drew (fun hHeld=>?_);refine tk 0 ?_ (hy:=by intro w' hSw;have c0:=hSw.own.cell 0;have c1:=hSw.own.cell 1;have c2:=hSw.own.cell 2;have c3:=hSw.own.cell 3;have c4:=hSw.own.cell 4;have c5:=hSw.own.cell 5;have c6:=hSw.own.cell 6;have c7:=hSw.own.cell 7;simp at c0 c1 c2 c3 c4 c5 c6 c7;go_simp;(try with_reducible rfl));refine tk 1 ?_;refine tr 2 fun K hK=>?_
  go_simp;go_at_call 206;refine(jE t 3 ⟨#[]⟩ a3 ⟨#[]⟩ xa ba ea n xc nb bc ne ec 2 _ true hp).mono ?_;rintro e w2 ⟨rfl,hb2⟩;have hk:=hHeld.on hb2;clear hHeld;go_wp2_with fail
  refine hK.out _ _ hk (fun hHeld=>?_);clear hK K hk
  try simp only[bK,bL,bM,bN,bO]
  refine tk 3 ?_;refine tk 4 ?_;refine tk 5 ?_ (hy:=by intro w' hSw;have c2:=hSw.box.cell 2;have c4:=hSw.box.cell 4;simp at c2 c4;go_simp;(try with_reducible rfl));refine tr 6 fun K hK=>?_
  go_simp;go_at_call 134;refine(lu a2 _ hW.1 true hno).mono ?_;rintro e w2 ⟨rfl,hb2⟩;have hk:=hHeld.on hb2;clear hHeld;go_wp2_with fail
  refine hK.out _ _ hk (fun hHeld=>?_);clear hK K hk
  try simp only[bK,bL,bM,bN,bO]
  refine tk 7 ?_;refine tk 8 ?_;refine tk 10 ?_;refine tk 11 ?_ (hy:=by intro w' hSw;have c2:=hSw.box.cell 2;have c4:=hSw.box.cell 4;simp at c2 c4;go_simp;(try with_reducible rfl));refine tr 9 fun K hK=>?_
  go_simp;go_at_call 208;refine(Ci _).mono ?_;rintro e w2 ⟨rfl,hw2⟩;have hk:=hHeld.alloc' hw2;have GL:=af (Cj hw2);clear hw2;clear hHeld;go_wp2_with fail
  refine hK.out _ _ hk (fun hHeld=>?_);clear hK K hk
  try simp only[bK,bL,bM,bN,bO]
  refine tr 12 fun K hK=>?_
  go_simp;go_at_call 207;refine(pM iX _ a4 _ (by decide) GL.out).mono ?_;rintro e w2 ⟨rfl,hw2⟩;have hk:=hHeld.same hw2;subst hw2;clear hHeld;go_wp2_with fail
  refine hK.out _ _ hk (fun hHeld=>?_);clear hK K hk
  try simp only[bK,bL,bM,bN,bO]
  refine tk 13 ?_;refine tk 14 ?_;refine td ?_;have dS:=af hHeld.below;clear hHeld;go_wp2_with fail
  go_ret;exact⟨aq (by simp only[vy,hp,hno,Bool.true_and,Bool.false_and]),dS.out⟩
 by_cases h4:a1=4
 ·subst h4;go_wp2_with fail
  refine(iW t 4 a2 a3 a4 xa none none n xc 0 0 0 0 1 _).mono ?_;rintro e w2 ⟨rfl,hb2⟩;have aL:=af (fD hX.1 hb2);have aQ:=af (cK hX.2 hb2);clear hb2;go_wp2_with fail
  go_ret;exact⟨aq (by simp only[GG,Bool.true_and,Bool.false_and]),aQ.out⟩
 by_cases h5:a1=5
 ·subst h5;go_wp2_with fail
  refine(iW t 5 a2 a3 a4 xa none ea n xc 0 0 ne ec 1 _).mono ?_;rintro e w2 ⟨rfl,hb2⟩;have aL:=af (fD hX.1 hb2);have aQ:=af (cK hX.2 hb2);clear hb2;go_wp2_with fail
  go_ret;exact⟨aq (by simp only[GI,Bool.true_and,Bool.false_and]),aQ.out⟩
 by_cases h6:a1=6
 ·subst h6;go_wp2_with fail
  refine(iW t 6 a2 a3 a4 xa ba ea n xc nb bc ne ec 0 _).mono ?_;rintro e w2 ⟨rfl,hb2⟩;have aL:=af (fD hX.1 hb2);have aQ:=af (cK hX.2 hb2);clear hb2;go_wp2_with fail
  go_ret;exact⟨aq (by simp only[PQ,Bool.true_and,Bool.false_and]),aQ.out⟩
 by_cases h7:a1=7
 ·subst h7;go_wp2_with fail
  refine(iW t 7 a2 a3 a4 xa ba ea n xc nb bc ne ec 0 _).mono ?_;rintro e w2 ⟨rfl,hb2⟩;have aL:=af (fD hX.1 hb2);have aQ:=af (cK hX.2 hb2);clear hb2;go_wp2_with fail
  go_ret;exact⟨aq (by simp only[PR,Bool.true_and,Bool.false_and]),aQ.out⟩
 by_cases h8:a1=8
 ·subst h8;go_wp2_with fail
  refine(iW t 8 a2 a3 a4 xa ba ea n xc nb bc ne ec 1 _).mono ?_;rintro e w2 ⟨rfl,hb2⟩;have aL:=af (fD hX.1 hb2);have aQ:=af (cK hX.2 hb2);clear hb2;go_wp2_with fail
  go_ret;exact⟨aq (by simp only[GJ,Bool.true_and,Bool.false_and]),aQ.out⟩
 by_cases h9:a1=9
 ·subst h9;go_wp2_with fail
  refine(iW t 9 a2 a3 a4 xa ba ea n xc nb bc ne ec 1 _).mono ?_;rintro e w2 ⟨rfl,hb2⟩;have aL:=af (fD hX.1 hb2);have aQ:=af (cK hX.2 hb2);clear hb2;have p2:=aL.cell 2;have p3:=aL.cell 3;have p4:=aL.cell 4;have p5:=aL.cell 5;have pl:=aL.lt;simp at p2 p3 p4 p5;cases hp:bE a2 a3 a4 n 1 nb ne
  ·go_wp2_with fail
   go_ret;exact⟨aq (by simp only[vA,hp,Bool.true_and,Bool.false_and]),aQ.out⟩
  have zU:n=1:=by
   have:((n:Int)==(1:Nat))=true:=by
    simp only[bE,Bool.and_eq_true] at hp;exact hp.2.2.2.1
   have:(n:Int)=1:=by simpa using this
   omega
  subst zU;obtain⟨b,o,rH,hc⟩:∃b o,xa=some ⟨b,o,none⟩∧w.cell? ⟨b,o+1,none⟩=some (.int .u8 fk):=by rcases hF.out with q|q;(·omega);(·exact q)
  subst rH;have hc2:=ag hc aQ.out;clear hc;go_wp2_with fail
  go_ret;exact⟨aq (by simp only[vA,hp,Bool.true_and,Bool.false_and]),aQ.out⟩
 have q1:(a1==1)=false:=by simpa using h1
 have q2:(a1==2)=false:=by simpa using h2
 have q3:(a1==3)=false:=by simpa using h3
 have q4:(a1==4)=false:=by simpa using h4
 have q5:(a1==5)=false:=by simpa using h5
 have q6:(a1==6)=false:=by simpa using h6
 have q7:(a1==7)=false:=by simpa using h7
 have q8:(a1==8)=false:=by simpa using h8
 have q9:(a1==9)=false:=by simpa using h9
 have hnone:=af (GK t a1 a2 a3 a4 n fk nb ne ⟨h1,h2,h3,h4,h5,h6,h7,h8,h9⟩);clear h1 h2 h3 h4 h5 h6 h7 h8 h9;go_wp2_with fail
 go_ret;exact⟨aq hnone.symm,hX.2.alloc hX.2.size _⟩
end
section
open Go.Shelf
def gU:aH→Bool
 | .nil=>true
 | .cons h x b e r=>gy h x.len x.fk b.len e.len&&(gU b&&(gU e&&(jS x&&gU r)))
theorem dI.first {w:World} {p:Bool} {o:Option (Nat→Prop)} {l:az} {ka:Option Addr} {n cap:Nat} (h:dI w p o l (.slice ka n cap)):n=l.len∧(n=0∨∃b o,ka=some ⟨b,o,none⟩∧w.cell? ⟨b,o+1,none⟩=some (.int .u8 l.fk)):=by
 obtain⟨PE,kb,aD,aK,hv,y2,y3⟩:=h;cases hv;refine⟨rfl,?_⟩;cases l with
 |nil=>exact .inl rfl
 | cons h k r=>
  rcases y2 with⟨q,_⟩|⟨rfl,_⟩
  ·simp[az.len] at q
  ·have:=y3.cons.1.c1;refine .inr ⟨_,_,rfl,?_⟩;simpa[az.fk] using this
theorem dI.ay {w:World} {p:Bool} {o:Option (Nat→Prop)} {l:az} {v:Value} (h:dI w p o l v):∃a c,v=.slice a l.len c:=by
 obtain⟨PE,kb,aD,aK,hv,y2,y3⟩:=h;exact⟨_,_,hv⟩
theorem dR.ay {w:World} {p:Bool} {o:Option (Nat→Prop)} {l:aH} {v:Value} (h:dR w p o l v):∃a c,v=.slice a l.len c:=by
 obtain⟨PE,kb,aD,aK,hv,y2,y3⟩:=h;exact⟨_,_,hv⟩
theorem U7 {h:SH} {x:az} {b e r:aH} (h1:gy h x.len x.fk b.len e.len=false):gU (.cons h x b e r)=false:=by simp only[gU,h1,Bool.false_and]
theorem U8 {h:SH} {x:az} {b e r:aH} (h1:gU b=false):gU (.cons h x b e r)=false:=by simp only[gU,h1,Bool.false_and,Bool.and_false]
theorem U9 {h:SH} {x:az} {b e r:aH} (h1:gU e=false):gU (.cons h x b e r)=false:=by simp only[gU,h1,Bool.false_and,Bool.and_false]
theorem Va {h:SH} {x:az} {b e r:aH} (h1:jS x=false):gU (.cons h x b e r)=false:=by simp only[gU,h1,Bool.false_and,Bool.and_false]
theorem Vb {h:SH} {x:az} {b e r:aH} (h1:gy h x.len x.fk b.len e.len=true) (h2:gU b=true) (h3:gU e=true) (h4:jS x=true):gU (.cons h x b e r)=gU r:=by simp only[gU,h1,h2,h3,h4,Bool.true_and]
theorem PV:∀(n:Nat) (l:aH) (v:Value) (w:World),l.sz<n→l.sz≤100000000→l.Wf→dR w false none l v→
  Calls Tryz.prog 137 #[v] w fun e w'=>e=.returned (.bool (gU l))∧Below w.heap.size w w':=by
 intro n
 induction n with
 |zero=>intro l v w hn;omega
 | succ n ih=>
  have IH:=af ih;clear ih;intro l v w hn hs Cg hv;obtain⟨ka,b,off,c,rfl,hka,fz⟩:=hv;have hl:=l.bU;have hS:=af (And.intro hn hs);have hI:=af fz;have hkb:l.len≤100000000:=by omega
  have hW:=af Cg;obtain⟨len,hlen⟩:∃m,m=l.len:=⟨_,rfl⟩;rw[←hlen] at hka hl hkb⊢;have bq:=af hlen;clear hn hs fz Cg hlen;go_enter Tryz.func137,Tryz.ntmps137;go_wp2_with fail
  go_loopw [2,9] (fun z i wr=>∃(k:Nat) (r:aH),z=.bool false∧k+r.len=len∧i=.int .i64 k∧bC w false none r b off k∧r.sz≤l.sz∧r.Wf∧gU l=gU r∧Below w.heap.size w wr) (fun _ i _=>len- (intOf i).toNat)
  case atStart=>exact⟨0,l,rfl,by have:=bq.out;omega,rfl,hI.out,Nat.le_refl _,hW.out,rfl,Below.refl _ _⟩
  case round=>
   clear hI;obtain⟨k,r,rfl,hk,rfl,hr,hz,Fy,wO,hb⟩:=hrel;obtain⟨wo,rfl⟩:∃wo:World,wo=wr:=⟨_,rfl⟩;have hB:=af hb;have Ke:=af wO;cases r with
   |nil=>
    simp only[aH.len,Nat.add_zero] at hk;subst k;clear hr hz Fy wO hb;go_wp2_with fail
    go_ret;exact⟨aq Ke.symm,hB.out⟩
   | cons h x body els rest=>
    simp only[aH.len,aH.sz] at hk hz;obtain⟨gO,hw2,hw3,hw4,wP⟩:=Fy;obtain⟨⟨⟨t,y0,_⟩,y1,y2,y3,y4⟩,⟨vx,y5,hx⟩,⟨vb,y6,lS⟩,⟨ve,y7,he⟩,hR⟩:=hr.cons;have x0:=ag y0 hb;have x1:=ag y1 hb;have x2:=ag y2 hb;have x3:=ag y3 hb;have x4:=ag y4 hb;have x5:=ag y5 hb;have x6:=ag y6 hb;have x7:=ag y7 hb;have oB:k<len:=by omega
    have bG:ka=some ⟨b,off,none⟩:=by rcases hka with q|q;(·omega);(·exact q.1)
    subst bG;obtain⟨xa,xc,rfl⟩:=hx.ay;obtain⟨ba,bc,rfl⟩:=lS.ay;obtain⟨ea,ec,rfl⟩:=he.ay;obtain⟨xb,xo,rH,nH⟩:∃xb xo,(x.len=0∨xa=some ⟨xb,xo,none⟩)∧bw w false none x xb xo 0:=by
     obtain⟨PE,kb,aD,aK,hv,y2,y3⟩:=hx;cases hv;exact⟨kb,aD,y2.imp And.left And.left,y3⟩
    have zD:=x.bU;have hbl:=body.bU;have YG:=els.bU;obtain⟨a0,a1,a2,a3,a4⟩:=h;have xH:x.len≤100000000:=by have:=hS.out;omega
    have hX:=af (And.intro hx (And.intro lS he));have hXW:=af (And.intro hw2 (And.intro hw3 hw4));have Kg:=af nH;have tO:Hid (∀{w2:World},Below (wo.alloc (.cells #[.int .i64 t,.int .u8 a1,.string a2,.int .u8 a3,.string a4,.slice xa x.len xc,.slice ba body.len bc,.slice ea els.len ec] 109)).heap.size (wo.alloc (.cells #[.int .i64 t,.int .u8 a1,.string a2,.int .u8 a3,.string a4,.slice xa x.len xc,.slice ba body.len bc,.slice ea els.len ec] 109)) w2→Below w.heap.size w w2):=af (fun h=>cK hB.out h);have hBx:=af (Bx.new wo #[.int .i64 t,.int .u8 a1,.string a2,.int .u8 a3,.string a4,.slice xa x.len xc,.slice ba body.len bc,.slice ea els.len ec] 109);have GM:=(hX.1.mono (tO.out (Below.refl _ _))).first.2;have au:=af (PU t a1 a2 a3 a4 xa ba ea x.len xc body.len bc els.len ec x.fk (wo.alloc (.cells #[.int .i64 t,.int .u8 a1,.string a2,.int .u8 a3,.string a4,.slice xa x.len xc,.slice ba body.len bc,.slice ea els.len ec] 109)) gO GM xH);have eT:=af hz;have fE:=af (And.intro hR wP);clear hka hr hR hz hb y0 y1 y2 y3 y4 y5 y6 y7 wO gO hw2 hw3 hw4 wP hx lS he nH GM zD hbl YG;go_wp2_with fail
    refine au.mono ?_;rintro e w2 ⟨rfl,hb2⟩;have aL:=af (hBx.on (ah hb2) (by simp));have aQ:=af (tO.out hb2);have p5:=aL.cell 5;have p6:=aL.cell 6;have p7:=aL.cell 7;have pl:=aL.lt;simp at p5 p6 p7;clear hb2 au x0 x1 x2 x3 x4 x5 x6 x7 tO hBx;have e1:Hid (gy ⟨t,a1,a2,a3,a4⟩ x.len x.fk body.len els.len=gy ⟨a0,a1,a2,a3,a4⟩ x.len x.fk body.len els.len):=af rfl;cases h1:gy ⟨t,a1,a2,a3,a4⟩ x.len x.fk body.len els.len
    ·have hE:=af (Ke.trans (U7 (by rw[←e1.out];exact h1)));go_wp2_with fail
     go_ret;exact⟨aq hE.symm,aQ.out⟩
    have g1:=af (e1.symm.trans h1);clear h1 e1;have au:=af (IH.out body (.slice ba body.len bc) w2 (by have:=hS.out;have:=eT.out;omega) (by have:=hS.out;have:=eT.out;omega) hXW.2.1 (hX.2.1.mono aQ.out));go_wp2_with fail
    refine au.mono ?_;rintro e w3 ⟨rfl,hb3⟩;have cq:=af (aL.on (ah hb3) (by simp));have gQ:=af (aQ.trans (hb3.mono aQ.size));clear hb3 au p5 p6 p7 pl aL aQ;have p5:=cq.cell 5;have p7:=cq.cell 7;simp at p5 p7;cases h2:gU body
    ·have hE:=af (Ke.trans (U8 h2));go_wp2_with fail
     go_ret;exact⟨aq hE.symm,gQ.out⟩
    have g2:=af h2;clear h2;have au:=af (IH.out els (.slice ea els.len ec) w3 (by have:=hS.out;have:=eT.out;omega) (by have:=hS.out;have:=eT.out;omega) hXW.2.2 (hX.2.2.mono gQ.out));go_wp2_with fail
    refine au.mono ?_;rintro e w4 ⟨rfl,hb4⟩;have gl:=af (cq.on (ah hb4) (by simp));have xI:=af (gQ.trans (hb4.mono gQ.size));clear hb4 au p5 p7 cq gQ;have p5:=gl.cell 5;simp at p5;cases h3:gU els
    ·have hE:=af (Ke.trans (U9 h3));go_wp2_with fail
     go_ret;exact⟨aq hE.symm,xI.out⟩
    have g3:=af h3;clear h3;go_wp2_with fail
    clear p5
    go_loopw [2,31] (fun z i wr=>∃(j:Nat) (q:az),z=.bool false∧j+q.len=x.len∧i=.int .i64 j∧bw w false none q xb xo j∧q.sz≤x.sz∧q.Wf∧jS x=jS q∧Below w.heap.size w wr) (fun _ i _=>x.len- (intOf i).toNat)
    case atStart=>exact⟨0,x,rfl,by omega,rfl,Kg.out,Nat.le_refl _,hXW.1,rfl,xI.out⟩
    case round=>
     clear Kg gl xI;obtain⟨j,q,rfl,hj,rfl,hq,Ck,hqw,PX,hb⟩:=hrel;have zW:=af hb;have PY:=af PX;cases q with
     |nil=>
      simp only[az.len,Nat.add_zero] at hj;subst j;have hE:=af (Ke.trans (Vb g1.out g2.out g3.out PY.out));clear hq Ck hqw PX hb;go_wp2_with fail
      go_roundw
      case rel=>exact⟨k+1,rest,rfl,by omega,by go_num,fE.1,by have:=eT.out;omega,fE.2,hE.out,zW.out⟩
      case measure=>simp[intOf];omega
     | cons h' bD rest'=>
      simp only[az.len,az.sz] at hj Ck;obtain⟨gO,hw2,hw3⟩:=hqw;obtain⟨⟨⟨t',y0,_⟩,y1,y2,y3,y4,y5⟩,⟨u,y6,hu⟩,Oo⟩:=hq.cons;have x0:=ag y0 hb;have x1:=ag y1 hb;have x2:=ag y2 hb;have x3:=ag y3 hb;have x4:=ag y4 hb;have x5:=ag y5 hb;have x6:=ag y6 hb;have hkj:j<x.len:=by omega
      have tP:xa=some ⟨xb,xo,none⟩:=by rcases rH with q|q;(·omega);(·exact q)
      subst tP;obtain⟨ua,uc,rfl⟩:=hu.ay;have dU:=af ((Below.refl wr.heap.size wr).alloc (Nat.le_refl _) (.cells #[.int .i64 t',.int .u8 h'.kind,.int .u32 h'.word,.int .u8 h'.type,.string h'.name,.string h'.sign,.slice ua bD.len uc] 134));have au:=af (PO _ t' h' bD (.slice ua bD.len uc) (wr.alloc (.cells #[.int .i64 t',.int .u8 h'.kind,.int .u32 h'.word,.int .u8 h'.type,.string h'.name,.string h'.sign,.slice ua bD.len uc] 134)) (Nat.lt_succ_self _) (by have:=hS.out;have:=eT.out;omega) gO hw2 (hu.mono (hb.trans (dU.mono hb.size))));have vB:=af (And.intro Oo (And.intro Ck hw3));clear rH hq hu Oo Ck hb y0 y1 y2 y3 y4 y5 y6 PX gO hw2 hw3;go_wp2_with fail
      refine au.mono ?_;rintro e w6 ⟨rfl,Cl⟩;have GP:=af (zW.trans ((dU.trans (Cl.mono (by simp))).mono zW.size));clear Cl au x0 x1 x2 x3 x4 x5 x6 dU;cases hh:jS bD&&tN h' bD.len
      ·have hE:Hid (gU l=false):=af (Ke.trans (Va (by rw[PY.out];simp only[jS,hh];rfl)));go_wp2_with fail
       go_ret;exact⟨aq hE.symm,GP.out⟩
      ·have hE:Hid (jS x=jS rest'):=af (by rw[PY.out];simp only[jS,hh];rfl);go_wp2_with fail
       go_roundw
       case rel=>exact⟨j+1,rest',rfl,by omega,by go_num,vB.1,by have:=vB.2.1;omega,vB.2.2,hE.out,GP.out⟩
       case measure=>simp[intOf];omega
end
section
open Go.Shelf
end
end Go.Proofs.YtlabadkfkbenoaaGreatDoor
