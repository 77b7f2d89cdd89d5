/- Walks and plain laws, merged: CalL CalS LocC EvlC LarA LarB LocE LocF LocG. No condition. -/
import Derived.Test.YtlabadkfkbenoaaGreatDoorKp17
import Derived.Test.YtlabadkfkbenoaaGreatDoorKp09
import Derived.Test.YtlabadkfkbenoaaGreatDoorKp08
import Derived.Test.YtlabadkfkbenoaaGreatDoorKp01
import Derived.Test.YtlabadkfkbenoaaGreatDoorKp05
import Derived.Test.YtlabadkfkbenoaaGreatDoorKp14
import Derived.Test.YtlabadkfkbenoaaGreatDoorKp04
namespace Go.Proofs.YtlabadkfkbenoaaGreatDoor
open Go.RowKit
set_option linter.unusedVariables false
set_option linter.unusedSimpArgs false
set_option maxRecDepth 100000
set_option maxHeartbeats 64000000
section
open Go.Shelf
theorem yN (w:World) (q i j:Nat) (a b:Value):w.grownBy ((w.setCell ⟨q,i,none⟩ a).setCell ⟨q,j,none⟩ b) (some q):=
 have h:=((Below.refl 0 w).setCell (p:=⟨q,i,none⟩) (Nat.zero_le _) a).setCell (p:=⟨q,j,none⟩) (Nat.zero_le _) b
 ⟨h.os,h.tape,h.output,h.size,fun k hk hn=>by
  have hq:k≠q:=fun e=>hn (by rw[e])
  rw[Below.heap_setCell _ ⟨q,j,none⟩ _ k hq,Below.heap_setCell _ ⟨q,i,none⟩ _ k hq]⟩
section
variable {w:World} {B:Nat} {u:UT} {vs:VS} {cs:dM} {hd:HD} {xs:List Value} {X vb cb pb:Nat} {vg vh vf hv:Value}
theorem ik.sig {pl:List (ByteArray×Int)} (h:ik w B u vs cs pl hd xs X vb cb pb vg vh vf hv) (s:ByteArray):
  (getM s cs=none∧∀w',Below w.heap.size w w'→(Instr.lookup 89 (.map (some cb)) (.string s) true).run Tryz.prog w'=.ok (.tuple #[.agg #[.slice none 0 0,.int .u8 0,.int .i64 0,.int .i64 0],.bool false]) w')∨
  ∃g ka kc,getM s cs=some g∧wW (aA w (bJ B)) g.params (.slice ka g.params.length kc)∧∀w',Below w.heap.size w w'→(Instr.lookup 89 (.map (some cb)) (.string s) true).run Tryz.prog w'=.ok (.tuple #[.agg #[.slice ka g.params.length kc,.int .u8 g.type,.int .i64 g.host,.int .i64 g.fn],.bool true]) w':=by
 obtain⟨l,h2,h3⟩:=h.nm.calls;have hm:=ew h2 (by simpa using h.lc);rcases h3.get s with⟨e1,e2⟩|⟨g',v,e1,e2,pv,rfl,h5⟩
 ·refine .inl ⟨e1,fun w' hb=>?_⟩;have hl:=(hm.mono hb).lookup jW bm s _ (nv w') true;rw[e2] at hl;simpa using hl
 ·have h6:=h5;obtain⟨ka,kb,aD,kc,rfl,-⟩:=h6;refine .inr ⟨g',ka,kc,e1,h5,fun w' hb=>?_⟩;have hl:=(hm.mono hb).lookup jW bm s _ (nv w') true;rw[e2] at hl;simpa using hl
theorem yO {al d:Nat} {vv:Value} {zw w1 w2 w' w'':World} {m:MS} {ve:EvS} (h:ik w B u vs cs (pW u.gs 0 []) hd xs X vb cb pb vg vh vf hv) (hb:Below w.heap.size w zw)
  (hM:iy (Pd w.heap.size B X vb cb pb vg vh vf hv vv xs hd) al (w.heap.size+5) d m ve w1) (hK:aU ((Pd w.heap.size B X vb cb pb vg vh vf hv vv xs hd).TE ⟨.slice none 0 0,[]⟩) zw.heap.size zw w1) (hb2:Below w1.heap.size w1 w2)
  (hg:w2.grownBy w' (some (w.heap.size+2))) (hg2:w'.grownBy w'' (some w.heap.size)) {c1:Array Value} (hx:Bx w' w.heap.size c1 56) (hp:∀q∈m.held,0<q.length):
  ik w'' B u vs cs (pW u.gs 0 []) (iR hd m.held) xs X vb cb pb vg vh vf hv∧aU (dV xs) w.heap.size w w''∧∃ats,uA w'' w.heap.size m.evs ve.eZ ats ve.v:=by
 have hs10:=hb.size;have k1:aU (dV xs) w.heap.size w w1:=(aU.of hb).trans (hK.mono hs10 fun b hb2 hT=>by
  rcases hT with(q|q)|q
  ·have q:b=w.heap.size+2:=q;omega
  ·exact q
  ·cases q)
 have k2:aU (dV xs) w.heap.size w w2:=k1.trans (aU.of (hb2.mono k1.size));have k3:aU (dV xs) w.heap.size w w':=k2.trans (aU.gr hg k2.size fun k e=>by cases e;exact .inr (by omega));have k4:aU (dV xs) w.heap.size w w'':=k3.trans (aU.gr hg2 k3.size fun k e=>by cases e;exact .inr (Nat.le_refl _));have M2:=hM.below hb2;obtain⟨en,va,fa,hx2⟩:=M2.box;have nr:∀{base:Nat} {e:TypeId} {size k:Nat} {v:Value} {ys:List Value},w2.ownsRow base e size v k ys→(119:TypeId)≠e→(56:TypeId)≠e→w''.ownsRow base e size v k ys:=fun{base e size k v ys} hr h1 h2=>by
  have r1:=hr.kept hg (.inr fun q=>hx2.not_row hr h1 q.symm);exact r1.kept hg2 (.inr fun q=>hx.not_row r1 h2 q.symm)
 have hlen:m.held.length=hd.length:=by have h1:=M2.len;have h2:=h.held.len;exact h1.symm.trans h2
 refine⟨h.move k4 hlen (fun i h1 h2=>nr (M2.words i h1 h2) (by decide) (by decide)) hp,k4,?_⟩;obtain⟨ats,he⟩:=M2.evs;exact⟨ats,he.len,he.at_,kn (nr he.row (by decide) (by decide)) (by omega),fun i h1 h2=>kn (nr (he.args i h1 h2) (by decide) (by decide)) (by omega)⟩
def Jt (B:Nat) (u:UT) (vs:VS) (cs:dM) (hd:HD) (xs:List Value) (X vb cb pb:Nat) (vg vh vf hv:Value) (o:Out Int) (w:World) (e:Ending) (w':World):Prop:=
 ∃(m:MS) (en v fa:Int) (ve:EvS),((o=.ok v m∧en=1∧fa=0)∨(o=.stop en fa m∧v=0))∧e=.returned (.tuple #[.agg #[.int .u8 en,.int .u32 v,.int .u8 fa,.int .i64 m.steps,.int .i64 m.reps,ve.v],.int .i64 0])∧
  ik w' B u vs cs (pW u.gs 0 []) (iR hd m.held) xs X vb cb pb vg vh vf hv∧aU (dV xs) w.heap.size w w'∧(∃ats,uA w' w.heap.size m.evs ve.eZ ats ve.v)∧ju u (iR hd m.held)
theorem qg (h:ik w B u vs cs (pW u.gs 0 []) hd xs X vb cb pb vg vh vf hv) (wf:u.Wf) (hs:aW u=0) (hg:dJ u=some (vs,cs)) (ho:ju u hd) {s:ByteArray} {g:eE} {args:List Int} {va:Value} {al:Nat} {values:List Int} {vv:Value} {k:Nat}
  (hq:getM s cs=some g) (hh:g.host<0) (hl:args.length=g.params.length) (hU:∀x∈args,U x) (nJ:eN w args va) (ha:al≤65536) (Xq:∀x∈values,U x) (hv0:yx w w.heap.size (dV xs) values vv) (Aj:values.length≤1000000000)
  (ey:(aI (qa u vs cs al values) k).F 0 g args ⟨hd.map (·.2),0,0,[]⟩≠.lost):
  Calls Tryz.prog 17 #[.pointer (some ⟨X,0,none⟩),.string s,va,.int .i64 al,vv] w (Jt B u vs cs hd xs X vb cb pb vg vh vf hv ((aI (qa u vs cs al values) k).F 0 g args ⟨hd.map (·.2),0,0,[]⟩) w):=by
 rcases h.sig s with⟨e1,-⟩|⟨g',ka,kc,e1,hsp,hlk⟩
 ·rw[hq] at e1;cases e1
 rw[hq] at e1;cases e1;obtain⟨aa,ab,ao,ac,rfl,ra2,ra3⟩:=nJ;have Wo:=hv0;obtain⟨ka9,_,_,kc9,rfl,-⟩:=Wo;have oY:=Jr (allowed:=al) (values:=values) wf hs hg ha Xq;obtain⟨p,hp⟩:∃p,p=Pd w.heap.size B X vb cb pb vg vh vf hv (.slice ka9 values.length kc9) xs hd:=⟨_,rfl⟩;obtain⟨o,kE⟩:∃o,o=(aI (qa u vs cs al values) k).F 0 g args ⟨hd.map (·.2),0,0,[]⟩:=⟨_,rfl⟩;have hX:=h.box.lt;have hinv:Inv (qa u vs cs al values) ((hd.map (·.2)).map List.length) ⟨hd.map (·.2),0,0,[]⟩:=⟨Nat.zero_le _,Nat.zero_le _,rfl,rfl⟩;have hrg:MS.Rg ⟨hd.map (·.2),0,0,[]⟩:=ho.rg;have Ju:=(gF (qa u vs cs al values) ((hd.map (·.2)).map List.length) k).F 0 g args _ hinv;have Rx:=(pz oY.rg k).F 0 g args _ hU hrg;rw[←kE] at ey Ju Rx⊢;have iO:∀m,(Inv (qa u vs cs al values) ((hd.map (·.2)).map List.length) m)→m.Rg→ju u (iR hd m.held)∧∀q∈m.held,0<q.length:=fun m h1 h2=>by
  have hk:=ho.of h1.shape h2;refine⟨hk,fun q hq=>?_⟩;have hn:m.held.length=hd.length:=by have:=congrArg List.length h1.shape;simpa using this
  have:=hk.pos wf hs q (by rw[jJ hd m.held hn];exact hq);exact this.1
 have ln:(args.length:Int)=(g.params.length:Int):=by omega
 rw[hl];refine yL X pb cb s ka g.params.length kc g.type g.host g.fn aa ac al ka9 values.length kc9 w
  (fun e w'=>∃w9 e0 w1,F9 w.heap.size X al (.slice ka9 values.length kc9) ka g.params.length kc g.type g.host g.fn w w9∧e=.returned (.tuple #[])∧
   aX p al (w.heap.size+5) 0 ((w9.alloc (.cells #[.pointer (some ⟨w.heap.size+2,0,none⟩)] 116)).alloc (.cells #[.slice ka g.params.length kc,.int .u8 g.type,.int .i64 g.host,.int .i64 g.fn] 114)).heap.size ⟨.slice none 0 0,[]⟩ (fun x=>.returned (.int .u32 x)) o ((w9.alloc (.cells #[.pointer (some ⟨w.heap.size+2,0,none⟩)] 116)).alloc (.cells #[.slice ka g.params.length kc,.int .u8 g.type,.int .i64 g.host,.int .i64 g.fn] 114)) e0 w1∧
   ((∃v w2,e0=.returned (.int .u32 v)∧Below w1.heap.size w1 w2∧w'=(w2.setCell ⟨w.heap.size+2,3,none⟩ (.int .u8 1)).setCell ⟨w.heap.size+2,4,none⟩ (.int .u32 v))∨
    ∃x y w2,e0=dy x y∧Below w1.heap.size w1 w2∧w'=(w2.setCell ⟨w.heap.size+2,3,none⟩ (.int .u8 x)).setCell ⟨w.heap.size+2,5,none⟩ (.int .u8 y)))
  _ hX (by simpa using h.box.cell 6) (by simpa using h.box.cell 4) hh (by omega) (by omega) (hlk _ (by(repeat(first|exact Below.refl _ _|refine Below.drew ?_ |refine Below.alloc ?_ (by simp<;>omega) _)))) (af fun w9 h9=>?_) (af fun e w' hr=>?_)
 ·obtain⟨zw,Br⟩:∃x,x=(w9.alloc (.cells #[.pointer (some ⟨w.heap.size+2,0,none⟩)] 116)).alloc (.cells #[.slice ka g.params.length kc,.int .u8 g.type,.int .i64 g.host,.int .i64 g.fn] 114):=⟨_,rfl⟩;have pw:Below w9.heap.size w9 zw:=by rw[Br];(repeat(first|exact Below.refl _ _|refine Below.drew ?_ |refine Below.alloc ?_ (by simp<;>omega) _))
  have qA:=h9.below.trans (pw.mono h9.below.size);have hst:=sP (w':=zw) h hg ho (allowed:=al) hv0 Aj qA (h9.box.on (ah pw) (by simp)) (h9.kc.on (ah pw) (by simp)) (by obtain⟨es,c,q1,q2⟩:=h9.kinds;exact⟨es,c,(pw.block _ (lt_of_block q1)).trans q1,q2⟩) (by have:=h9.size;have:=pw.size;omega);have hF:=Nr p (qa u vs cs al values) u (w.heap.size+5) ((hd.map (·.2)).map List.length) oY k 0 ⟨hd.map (·.2),0,0,[]⟩ ⟨.slice none 0 0,[]⟩ s g args (.slice aa g.params.length ac) ka kc zw hq hh hl hU ⟨aa,ab,ao,ac,by rw[hl],ra2,fun i hi=>ag (ra3 i hi) qA⟩
   (by rw[hp];exact hsp.sub (bt fun a u h1 h2=>⟨h1,ag h2 qA⟩)) (by rw[hp];exact hst.1) (by rw[hp];exact hst.2) (ho.pos wf hs) hinv hrg (by rw[←kE];exact ey)
  rw[←kE] at hF;have hpM:p.M=w.heap.size+2:=by rw[hp];rfl
  have hM0:iy p al (w.heap.size+5) 0 ⟨hd.map (·.2),0,0,[]⟩ ⟨.slice none 0 0,[]⟩ zw:=by rw[hp];exact hst.2
  have bc:Bx zw w9.heap.size #[.pointer (some ⟨w.heap.size+2,0,none⟩)] 116:=by rw[Br];exact(Bx.new w9 _ 116).al _
  rw[hpM] at hF;rw[Br] at hF;refine(Xo (w.heap.size+2) ka g.params.length kc g.type g.host g.fn (.slice aa g.params.length ac) w9 _ (af hF) (af fun e w' hr=>?_)).mono fun e w' hq=>?_
  ·rw[←Br] at hr;cases o with
   |lost=>exact absurd rfl ey
   |ok v m=>
    obtain⟨rfl,fJ,hM,hK,-⟩:=hr;refine⟨hK.box bc bc.lt (hM0.dB bc (by decide) (by decide) (by decide)),?_,.inl ⟨v,rfl⟩⟩;obtain⟨en,va,fa,hx⟩:=hM.box;rw[hpM] at hx;exact⟨_,_,_,_,_,_,_,_,_,_,_,hx⟩
   |stop x y m=>
    obtain⟨rfl,fJ,d',hM,hK,-⟩:=hr;refine⟨hK.box bc bc.lt (hM0.dB bc (by decide) (by decide) (by decide)),?_,.inr ⟨x,y,rfl⟩⟩;obtain⟨en,va,fa,hx⟩:=hM.box;rw[hpM] at hx;exact⟨_,_,_,_,_,_,_,_,_,_,_,hx⟩
  ·obtain⟨h1,e0,w1,h2,h3⟩:=hq;exact⟨w9,e0,w1,h9,h1,h2,h3⟩
 ·obtain⟨w9,e0,w1,h9,rfl,hpm,wG⟩:=hr;refine⟨rfl,?_⟩;obtain⟨zw,Br⟩:∃x,x=(w9.alloc (.cells #[.pointer (some ⟨w.heap.size+2,0,none⟩)] 116)).alloc (.cells #[.slice ka g.params.length kc,.int .u8 g.type,.int .i64 g.host,.int .i64 g.fn] 114):=⟨_,rfl⟩;rw[←Br] at hpm;have pw:Below w9.heap.size w9 zw:=by rw[Br];(repeat(first|exact Below.refl _ _|refine Below.drew ?_ |refine Below.alloc ?_ (by simp<;>omega) _))
  have qA:=h9.below.trans (pw.mono h9.below.size);have hst:=sP (w':=zw) h hg ho (allowed:=al) hv0 Aj qA (h9.box.on (ah pw) (by simp)) (h9.kc.on (ah pw) (by simp)) (by obtain⟨es,c,q1,q2⟩:=h9.kinds;exact⟨es,c,(pw.block _ (lt_of_block q1)).trans q1,q2⟩) (by have:=h9.size;have:=pw.size;omega);have hO:=h9.out.on (ah pw) (by simp);have nO:=hst.2.dB hO (by decide) (by decide) (by decide);subst hp;cases o with
  |lost=>exact absurd rfl ey
  | ok v m=>
   obtain⟨rfl,fJ,hM,hK,-⟩:=hpm;rcases wG with⟨v',w2,hv',hb2,rfl⟩|⟨x,y,w2,hv',-,-⟩
   ·cases hv';have hO1:=(hK.box hO hO.lt nO).on (ah hb2) (by simp);obtain⟨en,va,fa,hx⟩:=(hM.below hb2).box;obtain⟨ats9,he9⟩:=hM.evs;obtain⟨ea,ec,Nv,-⟩:=aP he9.row;rw[Nv] at hx;have uZ:=yN w2 (w.heap.size+2) 3 4 (.int .u8 1) (.int .u32 v);have oU:=hO1.on uZ (by simp);obtain⟨f1,f2⟩:=iO m Ju Rx.2;refine⟨_,_,_,_,_,_,_,_,_,_,_,_,_,(hx.set 3 (.int .u8 1)).set 4 (.int .u32 v),oU,fun w'' hg2=>?_⟩;obtain⟨r1,r2,r3⟩:=yO h qA hM hK hb2 uZ hg2 oU f2;exact⟨m,1,v,0,fJ,.inl ⟨rfl,rfl,rfl⟩,by rw[Nv];rfl,r1,r2,r3,f1⟩
   ·cases hv'
  | stop x y m=>
   obtain⟨rfl,fJ,d',hM,hK,-⟩:=hpm;rcases wG with⟨v',w2,hv',hb2,rfl⟩|⟨x',y',w2,hv',hb2,rfl⟩
   ·cases hv'
   ·have hxy:x=x'∧y=y':=by simpa[dy] using hv'
    obtain⟨rfl,rfl⟩:=hxy;have hO1:=(hK.box hO hO.lt nO).on (ah hb2) (by simp);obtain⟨en,va,fa,hx⟩:=(hM.below hb2).box;obtain⟨ats9,he9⟩:=hM.evs;obtain⟨ea,ec,Nv,-⟩:=aP he9.row;rw[Nv] at hx;have uZ:=yN w2 (w.heap.size+2) 3 5 (.int .u8 x) (.int .u8 y);have oU:=hO1.on uZ (by simp);obtain⟨f1,f2⟩:=iO m Ju.1 Rx;refine⟨_,_,_,_,_,_,_,_,_,_,_,_,_,(hx.set 3 (.int .u8 x)).set 5 (.int .u8 y),oU,fun w'' hg2=>?_⟩;obtain⟨r1,r2,r3⟩:=yO h qA hM hK hb2 uZ hg2 oU f2;exact⟨m,x,0,y,fJ,.inr ⟨rfl,rfl⟩,by rw[Nv];rfl,r1,r2,r3,f1⟩
end
end
section
open Go.Shelf
theorem Ry {A A2 Z:Nat} (h:A≤A2):nd A Z 0 0 0≤nd A2 Z 0 0 0:=by
 unfold nd;have h1:(A+1)* (Z+4)≤(A2+1)* (Z+4):=Nat.mul_le_mul_right _ (by omega);have h2:(A-0)* (Z+4)≤(A2-0)* (Z+4):=Nat.mul_le_mul_right _ (by omega);have h3:(17-0)* ((A+1)* (Z+4))≤(17-0)* ((A2+1)* (Z+4)):=Nat.mul_le_mul_left _ h1;omega
theorem Fc:∃K:Nat,∀(u:UT) (vs:VS) (cs:dM) (al:Nat) (values:List Int) (s:ByteArray) (g:eE) (args:List Int) (held:List (List Int)),u.Wf→aW u=0→dJ u=some (vs,cs)→al≤65536→(∀x∈values,U x)→getM s cs=some g→g.host<0→args.length=g.params.length→
  (aI (qa u vs cs al values) K).F 0 g args ⟨held,0,0,[]⟩≠.lost:=by
 refine⟨nd 65536 16384 0 0 0,fun u vs cs al values s g args held wf hs hg ha hv hq hh hl=>?_⟩;have hc:=Jr (allowed:=al) (values:=values) wf hs hg ha hv;exact(sH hc.ok hc.size _).F 0 s g args _ (by omega) hq hh hl (Ry ha)
def eO (cs:dM) (s:ByteArray) (n:Nat):Int:=
 match getM s cs with
 |none=>291
 |some g=>if 0≤g.host then 291 else if n=g.params.length then 0 else 293
section
variable {w:World} {B:Nat} {u:UT} {vs:VS} {cs:dM} {hd:HD} {xs:List Value} {X vb cb pb:Nat} {vg vh vf hv:Value}
theorem Bt (h:ik w B u vs cs (pW u.gs 0 []) hd xs X vb cb pb vg vh vf hv) (wf:u.Wf) (hs:aW u=0) (hg:dJ u=some (vs,cs)) (ho:ju u hd) {s:ByteArray} {args:List Int} {va:Value} {al:Nat} {values:List Int} {vv:Value} {k:Nat}
  (hU:∀x∈args,U x) (nJ:eN w args va) (ha:al≤65536) (Xq:∀x∈values,U x) (hv0:yx w w.heap.size (dV xs) values vv) (Aj:values.length≤1000000000)
  (ey:∀g,getM s cs=some g→g.host<0→args.length=g.params.length→(aI (qa u vs cs al values) k).F 0 g args ⟨hd.map (·.2),0,0,[]⟩≠.lost):
  Calls Tryz.prog 17 #[.pointer (some ⟨X,0,none⟩),.string s,va,.int .i64 al,vv] w fun e w'=>
   (eO cs s args.length≠0∧e=.returned (.tuple #[sQ,.int .i64 (eO cs s args.length)])∧Below w.heap.size w w')∨
   (eO cs s args.length=0∧∃g,getM s cs=some g∧g.host<0∧args.length=g.params.length∧Jt B u vs cs hd xs X vb cb pb vg vh vf hv ((aI (qa u vs cs al values) k).F 0 g args ⟨hd.map (·.2),0,0,[]⟩) w e w'):=by
 have c6:w.cell? ⟨X,6,none⟩=some (.map (some pb)):=by simpa using h.box.cell 6
 have c4:w.cell? ⟨X,4,none⟩=some (.map (some cb)):=by simpa using h.box.cell 4
 have hX:=h.box.lt;rcases h.sig s with⟨e1,hlk⟩|⟨g,ka,kc,e1,hsp,hlk⟩
 ·have e:eO cs s args.length=291:=by unfold eO;rw[e1]
  rw[e];exact(tY X pb cb s .nilIface va al vv w hX c6 c4 (by omega) (by omega) (hlk _ (by(repeat(first|exact Below.refl _ _|refine Below.drew ?_ |refine Below.alloc ?_ (by simp<;>omega) _))))).mono fun e w' q=>.inl ⟨by decide,q.1,q.2⟩
 by_cases hh:0≤g.host
 ·have e:eO cs s args.length=291:=by unfold eO;rw[e1];simp only[hh,if_true]
  rw[e];exact(yM X pb cb s ka g.params.length kc g.type g.host g.fn va al vv w hX c6 c4 hh (by omega) (by omega) (hlk _ (by(repeat(first|exact Below.refl _ _|refine Below.drew ?_ |refine Below.alloc ?_ (by simp<;>omega) _))))).mono fun e w' q=>.inl ⟨by decide,q.1,q.2⟩
 by_cases hl:args.length=g.params.length
 ·have e:eO cs s args.length=0:=by unfold eO;rw[e1];simp only[hh,if_false,hl,if_true]
  rw[e];exact(qg h wf hs hg ho e1 (by omega) hl hU nJ ha Xq hv0 Aj (ey g e1 (by omega) hl)).mono fun e w' q=>.inr ⟨rfl,g,e1,by omega,hl,q⟩
 ·have e:eO cs s args.length=293:=by unfold eO;rw[e1];simp only[hh,if_false,hl]
  rw[e];obtain⟨aa,ab,ao,ac,rfl,-,-⟩:=nJ;exact(wF X pb cb s ka g.params.length kc g.type g.host g.fn aa args.length ac al vv w hX c6 c4 (by omega) (fun q=>hl q.symm) (by omega) (by omega) (hlk _ (by(repeat(first|exact Below.refl _ _|refine Below.drew ?_ |refine Below.alloc ?_ (by simp<;>omega) _))))).mono fun e w' q=>.inl ⟨by decide,q.1,q.2⟩
end
end
section
def eY (o n s:ByteArray):ByteArray:=if s=o then n else s
def oN (o n s:ByteArray):ByteArray:=if s=o then n else if s=n then o else s
theorem C6 (o n s:ByteArray):oN o n (oN o n s)=s:=by
 unfold oN;by_cases h1:s=o
 ·subst h1;rw[if_pos rfl];by_cases h2:n=s
  ·rw[if_pos h2,h2]
  ·rw[if_neg h2,if_pos rfl]
 by_cases h2:s=n
 ·subst h2;rw[if_neg h1,if_pos rfl,if_pos rfl]
 ·rw[if_neg h1,if_neg h2,if_neg h1,if_neg h2]
theorem Nw (o n:ByteArray):Kq (oN o n):=fun s t h=>by rw[←C6 o n s,h,C6]
theorem Bu {o n s:ByteArray} (h:s≠n):eY o n s=oN o n s:=by
 unfold eY oN;rw[if_neg h]
/-! ### names that stand in a tree -/
def ld (n:ByteArray):az→Bool
 | .nil=>false
 | .cons h k r=>h.name==n||(ld n k||ld n r)
def eG (n:ByteArray):aH→Bool
 | .nil=>false
 | .cons h x b e r=>h.name==n||(ld n x||(eG n b||(eG n e||eG n r)))
def cA (o:ByteArray):aH→Bool
 | .nil=>false
 | .cons h _ b e r=>(h.kind==1&&h.name==o)||(cA o b||(cA o e||cA o r))
def mW (f:FH) (o:ByteArray):Bool:=f.params.any (fun a=>a.1==o)||cA o f.body
def sR (u:UT) (n:ByteArray):Bool:=
 !(u.gs.any (fun g=>g.name==n)||(u.hs.any (fun g=>g.name==n)||u.fs.any (fun f=>f.name==n||(eG n f.body||f.params.any fun a=>a.1==n))))
theorem pD {a b:ByteArray} (h:(a==b)=false):a≠b:=fun e=>by
 rw[(MapKept.bytes_beq a b).2 e] at h;cases h
theorem Bv {o n:ByteArray}:∀{l:az},ld n l=false→jq (eY o n) l=jq (oN o n) l
 | .nil,_=>rfl
 | .cons h k r,q=>by
  simp only[ld,Bool.or_eq_false_iff] at q;simp only[jq,Bv q.2.1,Bv q.2.2,mr,Bu (pD q.1)]
theorem wH {o n:ByteArray}:∀{l:aH},eG n l=false→jz (eY o n) l=jz (oN o n) l
 | .nil,_=>rfl
 | .cons h x b e r,q=>by
  simp only[eG,Bool.or_eq_false_iff] at q;simp only[jz,Bv q.2.1,wH q.2.2.1,wH q.2.2.2.1,wH q.2.2.2.2,qy,Bu (pD q.1)]
theorem Rz {o n:ByteArray} {f:FH} (h1:eG n f.body=false) (h2:f.params.any (fun a=>a.1==n)=false):rX (eY o n) f=rX (oN o n) f:=by
 unfold rX;rw[wH h1]
 congr 1
 refine List.map_congr_left fun a ha=>?_
 unfold oK;have:(a.1==n)=false:=by
  have:=(List.any_eq_false.1 h2) a ha;simpa using this
 rw[Bu (pD this)]
/-! ### a unit -/
theorem Jv (f:FH):rX id f=f:=by
 unfold rX;rw[vM,show oK id=id from rfl,List.map_id]
def uL (j:Nat) (r:ByteArray→ByteArray):List FH→Nat→List FH
 |[],_=>[]
 |f::l,i=>rX (if i=j then r else id) f::uL j r l (i+1)
def mU (j:Nat) (r:ByteArray→ByteArray) (u:UT):UT:={u with fs:=uL j r u.fs 0}
section
variable {j:Nat} {r:ByteArray→ByteArray}
theorem qV:∀(l:List FH) (i:Nat),(uL j r l i).length=l.length
 |[],_=>rfl
 |f::l,i=>by simp only[uL,List.length_cons,qV l]
theorem ov:∀(l:List FH) (i k:Nat),(uL j r l i)[k]? =l[k]?.map (rX (if i+k=j then r else id))
 |[],_,_=>by simp[uL]
 |f::l,i,0=>rfl
 |f::l,i,k+1=>by
  simp only[uL,List.getElem?_cons_succ];rw[ov l (i+1) k,show i+1+k=i+ (k+1) by omega]
theorem ow {l:List FH} {i:Nat} {f:FH} (h:f∈uL j r l i):∃g∈l,∃r0,(r0=r∨r0=id)∧f=rX r0 g:=by
 obtain⟨k,hk⟩:=List.mem_iff_getElem?.1 h;rw[ov] at hk;cases hg:l[k]? with
 |none=>rw[hg] at hk;cases hk
 |some g=>
  rw[hg] at hk;refine⟨g,List.mem_of_getElem? hg,_,?_,(Option.some.inj hk).symm⟩;split
  ·exact .inl rfl
  ·exact .inr rfl
theorem uM {r':ByteArray→ByteArray}:∀(l:List FH) (i:Nat),(∀f∈l,rX r f=rX r' f)→uL j r l i=uL j r' l i
 |[],_,_=>rfl
 |f::l,i,h=>by
  simp only[uL];rw[uM l (i+1) fun f hf=>h f (List.mem_cons_of_mem _ hf)];split
  ·rw[h f List.mem_cons_self]
  ·rfl
structure SgT (j:Nat) (r:ByteArray→ByteArray) (g g':eE):Prop where
 host:g'.host=g.host
 fn:g'.fn=g.fn
 type:g'.type=g.type
 params:g'.params=g.params.map (oK (if g.host<0∧g.fn.toNat=j then r else id))
def uN (j:Nat) (r:ByteArray→ByteArray) (cs cs':dM):Prop:=∀s,(getM s cs=none∧getM s cs'=none)∨∃g g',getM s cs=some g∧getM s cs'=some g'∧SgT j r g g'
theorem uN.isS {cs cs':dM} (h:uN j r cs cs') (s:ByteArray):(getM s cs').isSome=(getM s cs).isSome:=by
 rcases h s with⟨a,b⟩|⟨g,g',a,b,-⟩<;>rw[a,b]<;>rfl
theorem uN.has {cs cs':dM} (h:uN j r cs cs') (vs:VS) (s:ByteArray):eQ vs cs' s=eQ vs cs s:=by unfold eQ;rw[h.isS]
theorem uN.put {cs cs':dM} (h:uN j r cs cs') {t:ByteArray} {g g':eE} (hg:SgT j r g g'):uN j r (aY t g cs) (aY t g' cs'):=fun s=>by
 rw[et,et];split
 ·exact .inr ⟨g,g',rfl,rfl,hg⟩
 ·exact h s
theorem RD {l:List HH} {vs:VS}:∀{i:Nat} {cs cs' c2:dM},uN j r cs cs'→kQ l i vs cs=some c2→∃Xr,kQ l i vs cs'=some Xr∧uN j r c2 Xr:=by
 induction l with
 |nil=>intro i cs cs' c2 h e;cases e;exact⟨cs',rfl,h⟩
 | cons a l ih=>
  intro i cs cs' c2 h e;simp only[kQ,h.has] at e⊢;split at e
  ·cases e
  ·rename_i q;rw[if_neg q];exact ih (h.put ⟨rfl,rfl,rfl,by rw[if_neg (by simp only[];omega),show oK id=id from rfl,List.map_id]⟩) e
theorem Jw {vs:VS}:∀{l:List FH} {i:Nat} {cs cs' c2:dM},uN j r cs cs'→kR l i vs cs=some c2→∃Xr,kR (uL j r l i) i vs cs'=some Xr∧uN j r c2 Xr
 |[],_,_,cs',_,h,e=>by cases e;exact⟨cs',rfl,h⟩
 | a::l,i,cs,cs',c2,h,e=>by
  simp only[kR] at e;simp only[uL,kR];rw[show(rX (if i=j then r else id) a).name=a.name from rfl,h.has];split at e
  ·cases e
  ·rename_i q;rw[if_neg q];refine Jw (h.put (g:=⟨a.params,a.type,-1,i⟩) ⟨rfl,rfl,rfl,?_⟩) e;simp only[Int.toNat_natCast,show((-1:Int)<0)=True by simp,true_and];rfl
theorem RF {u:UT} {vs:VS} {cs:dM} (h:dJ u=some (vs,cs)):∃cs',dJ (mU j r u)=some (vs,cs')∧uN j r cs cs':=by
 obtain⟨h0,c1,h1,h2⟩:=iI h;obtain⟨d1,e1,f1⟩:=RD (j:=j) (r:=r) (cs:=[]) (cs':=[]) (fun s=>.inl ⟨rfl,rfl⟩) h1;obtain⟨d2,e2,f2⟩:=Jw f1 h2;refine⟨d2,?_,f2⟩;unfold dJ mU;simp only[h0,e1,e2]
theorem C7 (r0:ByteArray→ByteArray):∀(ps:List PW) (ks:List Int),xE (ps.map (oK r0)) ks=xE ps ks
 |[],_=>rfl
 |p::ps,[]=>rfl
 |p::ps,k::ks=>by
  have:=C7 r0 ps ks;unfold xE at this⊢;simp only[List.map_cons,List.zip_cons_cons,List.all_cons,this];rfl
theorem uN.call {cs cs':dM} (h:uN j r cs cs') (s:ByteArray) (ks:List Int):fj cs' s ks=fj cs s ks:=by
 unfold fj;rcases h s with⟨a,b⟩|⟨g,g',a,b,q⟩
 ·rw[a,b]
 ·rw[a,b];simp only[q.params,q.type,List.length_map,C7]
theorem uN.eO {cs cs':dM} (h:uN j r cs cs') (s:ByteArray) (n:Nat):eO cs' s n=eO cs s n:=by
 unfold Go.Proofs.YtlabadkfkbenoaaGreatDoor.eO;rcases h s with⟨a,b⟩|⟨g,g',a,b,q⟩
 ·rw[a,b]
 ·rw[a,b];simp only[q.params,q.host,List.length_map]
theorem uN.rn {cs cs':dM} (h:uN j r cs cs') {vs:VS} {o n:ByteArray} (ho:eQ vs cs o=false) (hn:eQ vs cs n=false):Rn vs cs cs' (oN o n):=by
 unfold eQ at ho hn;simp only[Bool.or_eq_false_iff] at ho hn;have key:∀s,s≠o→s≠n→oN o n s=s:=fun s h1 h2=>by unfold oN;rw[if_neg h1,if_neg h2]
 exact⟨Nw o n,fun s q=>key s (fun e=>by rw[e,ho.1] at q;cases q) (fun e=>by rw[e,hn.1] at q;cases q),fun s q=>key s (fun e=>by rw[e,ho.2] at q;cases q) (fun e=>by rw[e,hn.2] at q;cases q),h.call,h.isS⟩
theorem uN.Xs {cs cs':dM} (h:uN j r cs cs') {vs:VS}:Rn vs cs cs' id:=⟨fun _ _ e=>e,fun _ _=>rfl,fun _ _=>rfl,h.call,h.isS⟩
theorem Jy {vs:VS} {cs cs':dM} (h1:Rn vs cs cs' r) (h2:Rn vs cs cs' id):∀(l:List FH) (i:Nat),kB vs cs' (uL j r l i)=kB vs cs l
 |[],_=>rfl
 | f::l,i=>by
  have e:vG vs cs' (rX (if i=j then r else id) f)=vG vs cs f:=by
   split
   ·exact Hu h1 f
   ·exact Hu h2 f
  simp only[uL,kB,e,Jy h1 h2 l]
theorem RH {u:UT} (hn:∀s,aS s=true→aS (r s)=true) (h:jG u=0):jG (mU j r u)=0:=by
 obtain⟨c1,c2,c3⟩:=j8 h;obtain⟨f1,f2,f3⟩:=k9 c1;have af:∀r0,(r0=r∨r0=id)→∀s,aS s=true→aS (r0 s)=true:=by
  rintro r0 (rfl|rfl)
  ·exact hn
  ·exact fun s q=>q
 have e1:ej (mU j r u)=true:=by
  unfold ej mU;simp only[Bool.and_eq_true,List.all_eq_true];refine⟨f1,f2,fun f hf=>?_⟩;obtain⟨g,hg,r0,h0,rfl⟩:=ow hf;have:=f3 g hg;unfold iC rX at*;simp only[Bool.and_eq_true] at this⊢;exact⟨this.1,this.2.1,Qt (af r0 h0) this.2.2.1,vN (af r0 h0) this.2.2.2⟩
 have e2:(mU j r u).fs.any gu=false:=by
  rw[List.any_eq_false] at c2⊢;intro f hf;obtain⟨g,hg,r0,h0,rfl⟩:=ow hf;have:=c2 g hg;unfold gu rX at*;rwa[vL]
 have e3:iP (mU j r u).fs=iP u.fs:=by
  have:∀(l:List FH) (i:Nat),iP (uL j r l i)=iP l:=by
   intro l
   induction l with
   |nil=>intro i;rfl
   |cons f l ih=>
    intro i;have:=ih (i+1);unfold iP at this⊢;simp only[uL,List.map_cons,List.sum_cons,this];rw[show(rX (if i=j then r else id) f).body.sz=f.body.sz from rV _ _]
  exact this u.fs 0
 unfold jG;rw[e1,e2,e3];simp only[if_true,Bool.false_eq_true,if_false];rw[if_neg (by omega)]
end
end
section
def yP:az→Bool
 | .nil=>true
 | .cons h k r=>h.kind !=5&&(yP k&&yP r)
def yQ:aH→Bool
 | .nil=>true
 | .cons h x b e r=>h.kind !=2&&(h.kind !=3&&(h.kind !=9&&(yP x&&(yQ b&&(yQ e&&yQ r)))))
def MS.same (a b:MS):Prop:=b.held=a.held∧b.reps=a.reps∧b.evs=a.evs
def Out.calm {α:Type} (m:MS):Out α→Prop
 | .ok _ m'=>MS.same m m'
 | .stop _ _ m'=>MS.same m m'
 | .lost=>True
structure ic.Calm (ev:ic):Prop where
 E:∀d fr h k m,h.kind≠5→yP k=true→(ev.E d fr h k m).calm m
 L:∀d fr l m,yQ l=true→(ev.L d fr l m).calm m
 W:∀d fr h k b m,h.kind≠5→yP k=true→yQ b=true→(ev.W d fr h k b m).calm m
section
variable {cf:Cf} {ev:ic} (hg:ev.Calm)
include hg
end
end
section
open Go.Shelf
def fY (n m:Int):Prop:=m≤n∧(0≤m∨m=n)
theorem fY.refl (n:Int):fY n n:=⟨by omega,.inr rfl⟩
theorem fY.trans {a b c:Int} (h:fY a b) (k:fY b c):fY a c:=by
 obtain⟨h1,h2⟩:=h;obtain⟨k1,k2⟩:=k;exact⟨by omega,by omega⟩
def H62 (n:Nat):Prop:=∀(l:az) (q:Int) (v:Value) (w:World),l.sz<n→l.sz≤100000000→ -1000000000≤q→q≤1000000000→dI w false none l v→
 Calls Tryz.prog 62 #[v,.int .i64 q] w fun e w'=>(∃m,e=.returned (.int .i64 m)∧fY q m)∧Below w.heap.size w w'
theorem RI:∀n,H62 n:=by
 intro n
 induction n with
 |zero=>intro l q v w hn;omega
 | succ n ih=>
  have IH:=af ih;clear ih;intro kids q v w hn hs jx jy hv;obtain⟨ka,b,off,c,rfl,hka,fz⟩:=hv;have hl:=kids.bU;have hS:=af (And.intro hn hs);have hQ:=af (And.intro jx jy);have hI:=af fz;have hkb:kids.len≤100000000:=by omega
  obtain⟨len,hlen⟩:∃m,m=kids.len:=⟨_,rfl⟩;rw[←hlen] at hka hl hkb⊢;have bq:=af hlen;clear hn hs fz hlen hl jx jy;go_enter Tryz.func62,Tryz.ntmps62;go_wp2_with fail
  go_loopw [1,5] (fun z i wr=>∃(k:Nat) (m:Int) (r:az),z=.int .i64 m∧k+r.len=len∧i=.int .i64 k∧bw w false none r b off k∧r.sz≤kids.sz∧fY q m∧Below w.heap.size w wr) (fun _ i _=>len- (intOf i).toNat)
  case atStart=>exact⟨0,q,kids,rfl,by have:=bq.out;omega,rfl,hI.out,Nat.le_refl _,fY.refl _,Below.refl _ _⟩
  case round=>
   clear hI;obtain⟨k,m,r,rfl,hk,rfl,hr,hz,hm,hb⟩:=hrel;have hB:=af hb;have hM:=af hm;cases r with
   |nil=>
    simp only[az.len,Nat.add_zero] at hk;subst k;have Ki:=hm.1;clear hr hz hm hb;go_wp2_with fail
    go_ret;exact⟨⟨m,rfl,hM.out⟩,hB.out⟩
   | cons h' bD rest=>
    simp only[az.len,az.sz] at hk hz;have oB:k<len:=by omega
    by_cases tX:0<m
    ·obtain⟨⟨⟨t',y0,_⟩,y1,y2,y3,y4,y5⟩,⟨u,y6,hu⟩,hR⟩:=hr.cons;have x6:=ag y6 hb;have bG:ka=some ⟨b,off,none⟩:=by rcases hka with q|q;(·omega);(·exact q.1)
     subst bG;obtain⟨ua,uc,rfl⟩:=hu.ay;have hq:=hQ.out;have fH:=hm.1;have au:=af (IH.out bD (m-1) (.slice ua bD.len uc) wr (by have:=hS.out;omega) (by have:=hS.out;omega) (by omega) (by omega) (hu.mono hb));have fE:=af (And.intro hR hz);have hpos2:¬m≤0:=by omega
     have hwr:IntKind.i64.wrap (m-1)=m-1:=IntWalk.i64_in _ (by omega);have Qf:wrap64 (m-1)=m-1:=by simp only[wrap64];omega
     clear hka hr hu hR hz hb y0 y1 y2 y3 y4 y5 y6 hm hq;go_wp2_with fail
     refine au.mono ?_;rintro e w2 ⟨⟨m2,rfl,dX⟩,hb2⟩;have aQ:=af (hB.trans (hb2.mono hB.size));have hL2:=af (hM.trans (fY.trans (show fY m (m-1) from⟨by omega,by omega⟩) dX));clear hb2 au x6 dX;go_wp2_with fail
     go_roundw
     case rel=>exact⟨k+1,m2,rest,rfl,by omega,by go_num,fE.1,by have:=fE.2;omega,hL2.out,aQ.out⟩
     case measure=>simp[intOf];omega
    ·clear hr hz hm hb;go_wp2_with fail
     go_ret;exact⟨⟨m,rfl,hM.out⟩,hB.out⟩
def H33 (n:Nat):Prop:=∀(l:aH) (q:Int) (v:Value) (w:World),l.sz<n→l.sz≤100000000→ -1000000000≤q→q≤1000000000→dR w false none l v→
 Calls Tryz.prog 33 #[v,.int .i64 q] w fun e w'=>(∃m,e=.returned (.int .i64 m)∧fY q m)∧Below w.heap.size w w'
theorem Nx:∀n,H33 n:=by
 intro n
 induction n with
 |zero=>intro l q v w hn;omega
 | succ n ih=>
  have IH:=af ih;clear ih;intro l q v w hn hs jx jy hv;obtain⟨ka,b,off,c,rfl,hka,fz⟩:=hv;have hl:=l.bU;have hS:=af (And.intro hn hs);have hQ:=af (And.intro jx jy);have hI:=af fz;have hkb:l.len≤100000000:=by omega
  obtain⟨len,hlen⟩:∃m,m=l.len:=⟨_,rfl⟩;rw[←hlen] at hka hl hkb⊢;have bq:=af hlen;clear hn hs fz hlen hl jx jy;go_enter Tryz.func33,Tryz.ntmps33;go_wp2_with fail
  go_loopw [1,5] (fun z i wr=>∃(k:Nat) (m:Int) (r:aH),z=.int .i64 m∧k+r.len=len∧i=.int .i64 k∧bC w false none r b off k∧r.sz≤l.sz∧fY q m∧Below w.heap.size w wr) (fun _ i _=>len- (intOf i).toNat)
  case atStart=>exact⟨0,q,l,rfl,by have:=bq.out;omega,rfl,hI.out,Nat.le_refl _,fY.refl _,Below.refl _ _⟩
  case round=>
   clear hI;obtain⟨k,m,r,rfl,hk,rfl,hr,hz,hm,hb⟩:=hrel;have hB:=af hb;have hM:=af hm;cases r with
   |nil=>
    simp only[aH.len,Nat.add_zero] at hk;subst k;have Ki:=hm.1;clear hr hz hm hb;go_wp2_with fail
    go_ret;exact⟨⟨m,rfl,hM.out⟩,hB.out⟩
   | cons h' x' b' e' rest=>
    simp only[aH.len,aH.sz] at hk hz;have oB:k<len:=by omega
    by_cases tX:0<m
    ·obtain⟨-,⟨u5,y5,Jz⟩,⟨u6,y6,JA⟩,⟨u7,y7,JB⟩,hR⟩:=hr.cons;have x5:=ag y5 hb;have bG:ka=some ⟨b,off,none⟩:=by rcases hka with q|q;(·omega);(·exact q.1)
     subst bG;obtain⟨a5,c5,rfl⟩:=Jz.ay;obtain⟨a6,c6,rfl⟩:=JA.ay;obtain⟨a7,c7,rfl⟩:=JB.ay;have hq:=hQ.out;have fH:=hm.1;have au:=af (RI (x'.sz+1) x' (m-1) (.slice a5 x'.len c5) wr (by omega) (by have:=hS.out;omega) (by omega) (by omega) (Jz.mono hb));have H6:=af JA;have H7:=af JB;have Y6:=af y6;have Y7:=af y7;have fE:=af (And.intro hR hz);have hwr:IntKind.i64.wrap (m-1)=m-1:=IntWalk.i64_in _ (by omega);have Qf:wrap64 (m-1)=m-1:=by simp only[wrap64];omega
     clear hka hr Jz JA JB hR hz hb y5 y6 y7 hm hq;go_wp2_with fail
     refine au.mono ?_;rintro e w2 ⟨⟨m2,rfl,dX⟩,hb2⟩;have aQ:=af (hB.trans (hb2.mono hB.size));have hL2:=af (hM.trans (fY.trans (show fY m (m-1) from⟨by omega,by omega⟩) dX));have x6:=ag Y6.out aQ.out;have hc6:=af (IH.out b' m2 (.slice a6 b'.len c6) w2 (by have:=hS.out;have:=fE.2;omega) (by have:=hS.out;have:=fE.2;omega) (by have h9:=hL2.out;have h8:=hQ.out;unfold fY at h9;omega) (by have:=hL2.1;have:=hQ.out;omega) (H6.mono aQ.out));clear hb2 au x5 dX;go_wp2_with fail
     refine hc6.mono ?_;rintro e w3 ⟨⟨m3,rfl,Lq⟩,hb3⟩;have gQ:=af (aQ.trans (hb3.mono aQ.size));have hL3:=af (hL2.trans Lq);have x7:=ag Y7.out gQ.out;have hc7:=af (IH.out e' m3 (.slice a7 e'.len c7) w3 (by have:=hS.out;have:=fE.2;omega) (by have:=hS.out;have:=fE.2;omega) (by have h9:=hL3.out;have h8:=hQ.out;unfold fY at h9;omega) (by have:=hL3.1;have:=hQ.out;omega) (H7.mono gQ.out));clear hb3 hc6 x6 Lq;go_wp2_with fail
     refine hc7.mono ?_;rintro e w4 ⟨⟨m4,rfl,hm4⟩,hb4⟩;have xI:=af (gQ.trans (hb4.mono gQ.size));have hL4:=af (hL3.trans hm4);clear hb4 hc7 x7 hm4;go_wp2_with fail
     go_roundw
     case rel=>exact⟨k+1,m4,rest,rfl,by omega,by go_num,fE.1,by have:=fE.2;omega,hL4.out,xI.out⟩
     case measure=>simp[intOf];omega
    ·clear hr hz hm hb;go_wp2_with fail
     go_ret;exact⟨⟨m,rfl,hM.out⟩,hB.out⟩
end
section
open Go.Shelf
theorem qi (l:List Int) (va vb:Value) (w:World) (ha:eN w l va) (hb:eN w l vb) (hl:l.length≤9223372036854775807):Calls Tryz.prog 44 #[va,vb] w fun e w'=>e=.returned (.bool true)∧Below w.heap.size w w':=by
 obtain⟨aa,ab,ao,ac,rfl,ha2,Bq⟩:=ha;obtain⟨ba,bb,bo,bc,rfl,hb2,hb3⟩:=hb;have HA:=af Bq;have HB:=af hb3;obtain⟨len,hlen⟩:∃m,m=l.length:=⟨_,rfl⟩;rw[←hlen] at ha2 hb2 hl⊢;have bq:=af hlen;clear Bq hb3 hlen;go_enter Tryz.func44,Tryz.ntmps44;go_wp2_with fail
 go_loopw [4,5] (fun z i wr=>∃(k:Nat),z=.bool false∧k≤len∧i=.int .i64 k∧Below w.heap.size w wr) (fun _ i _=>len- (intOf i).toNat)
 case atStart=>exact⟨0,rfl,Nat.zero_le _,rfl,Below.refl _ _⟩
 case round=>
  obtain⟨k,rfl,hk,rfl,hb⟩:=hrel;have fB:=af hb;by_cases oB:k<len
  ·have hk2:k<l.length:=by have:=bq.out;omega
   have RJ:=Below.refl wr.heap.size wr;have x1:wr.drew.cell? ⟨ab,ao+k,none⟩=some (.int .u32 l[k]):=ag (ag (HA.out k hk2) hb) RJ.drew;have x2:wr.drew.cell? ⟨bb,bo+k,none⟩=some (.int .u32 l[k]):=ag (ag (HB.out k hk2) hb) RJ.drew;have e1:aa=some ⟨ab,ao,none⟩:=by rcases ha2 with q|q;(·omega);(·exact q)
   have e2:ba=some ⟨bb,bo,none⟩:=by rcases hb2 with q|q;(·omega);(·exact q)
   subst e1;subst e2;have aQ:=af (fB.trans (RJ.drew.mono fB.size));generalize l[k]=x at x1 x2;clear hb RJ ha2 hb2;go_wp2_with fail
   go_region
   go_wp2_with fail
   go_roundw
   case rel=>exact⟨k+1,rfl,by omega,by go_num,aQ.out⟩
   case measure=>simp[intOf];omega
  ·obtain rfl:k=len:=by omega
   clear hb;go_wp2_with fail
   go_ret;exact⟨rfl,fB.out⟩
end
section
open Go.Shelf
theorem yR (a b:ByteArray):(a==b)=(a.toList==b.toList):=by
 rw[Bool.eq_iff_iff,MapKept.bytes_beq,beq_iff_eq,ByteArray.toList_eq,ByteArray.toList_eq,Array.toList_inj];exact⟨fun h=>by rw[h],fun h=>by cases a;cases b;simpa using h⟩
theorem Xt (nm:ByteArray):∀(n:Nat) (l:az) (v:Value) (w:World),l.sz<n→l.sz≤100000000→dI w false none l v→Calls Tryz.prog 67 #[v,.string nm] w fun e w'=>e=.returned (.bool (ld nm l))∧Below w.heap.size w w':=by
 intro n
 induction n with
 |zero=>intro l v w hn;omega
 | succ n ih=>
  have IH:=af ih;clear ih;intro kids v w hn hs hv;obtain⟨ka,b,off,c,rfl,hka,fz⟩:=hv;have hl:=kids.bU;have hS:=af (And.intro hn hs);have hI:=af fz;have hkb:kids.len≤100000000:=by omega
  obtain⟨len,hlen⟩:∃m,m=kids.len:=⟨_,rfl⟩;obtain⟨R,hR⟩:∃m,m=ld nm kids:=⟨_,rfl⟩;rw[←hlen] at hka hl hkb⊢;rw[←hR];have bq:=af hlen;have Cq:=af hR;clear hn hs fz hlen hl hR;go_enter Tryz.func67,Tryz.ntmps67;go_wp2_with fail
  go_loopw [4,5] (fun z i wr=>∃(k:Nat) (r:az),z=.bool false∧k+r.len=len∧i=.int .i64 k∧bw w false none r b off k∧r.sz≤kids.sz∧R=ld nm r∧Below w.heap.size w wr) (fun _ i _=>len- (intOf i).toNat)
  case atStart=>exact⟨0,kids,rfl,by have:=bq.out;omega,rfl,hI.out,Nat.le_refl _,Cq.out,Below.refl _ _⟩
  case round=>
   clear hI;obtain⟨k,r,rfl,hk,rfl,hr,hz,hm,hb⟩:=hrel;have hB:=af hb;have hM:=af hm;cases r with
   |nil=>
    simp only[az.len,Nat.add_zero] at hk;subst k;clear hr hz hm hb;go_wp2_with fail
    go_ret;exact⟨by rw[hM.out];rfl,hB.out⟩
   | cons h' bD rest=>
    simp only[az.len,az.sz] at hk hz;have oB:k<len:=by omega
    obtain⟨⟨⟨t',y0,_⟩,y1,y2,y3,y4,y5⟩,⟨u,y6,hu⟩,hR⟩:=hr.cons;have x4:=ag y4 hb;have x6:=ag y6 hb;have bG:ka=some ⟨b,off,none⟩:=by rcases hka with q|q;(·omega);(·exact q.1)
    subst bG;obtain⟨ua,uc,rfl⟩:=hu.ay;have au:=af (IH.out bD (.slice ua bD.len uc) wr (by have:=hS.out;omega) (by have:=hS.out;omega) (hu.mono hb));have fE:=af (And.intro hR hz);have hE:=af (show R=((h'.name.toList==nm.toList)||(ld nm bD||ld nm rest)) by rw[hm,←yR];rfl);clear hka hr hu hR hz hb y0 y1 y2 y3 y4 y5 y6 hm;cases hq:(h'.name.toList==nm.toList) with
    |true=>
     have hF:=af (show R=true by rw[hE.out,hq];rfl);clear hE au x6;go_wp2_with fail
     go_ret;exact⟨by rw[hF.out];rfl,hB.out⟩
    | false=>
     have C8:=af (show R=(ld nm bD||ld nm rest) by rw[hE.out,hq];rfl);clear hE;cases hc:ld nm bD with
     |false=>
      rw[hc] at au;have RL:=af (show R=ld nm rest by rw[C8.out,hc];rfl);clear C8 hc;go_wp2_with fail
      refine au.mono ?_;rintro e w2 ⟨rfl,hb2⟩;have aQ:=af (hB.trans (hb2.mono hB.size));clear hb2 au x6 x4 hq;go_wp2_with fail
      go_roundw
      case rel=>exact⟨k+1,rest,rfl,by omega,by go_num,fE.1,by have:=fE.2;omega,RL.out,aQ.out⟩
      case measure=>simp[intOf];omega
     |true=>
      rw[hc] at au;have RL:=af (show R=true by rw[C8.out,hc];rfl);clear C8 hc;go_wp2_with fail
      refine au.mono ?_;rintro e w2 ⟨rfl,hb2⟩;have aQ:=af (hB.trans (hb2.mono hB.size));clear hb2 au x6 x4 hq;go_wp2_with fail
      go_ret;exact⟨by rw[RL.out];rfl,aQ.out⟩
theorem Xu (nm:ByteArray):∀(n:Nat) (l:aH) (v:Value) (w:World),l.sz<n→l.sz≤100000000→dR w false none l v→Calls Tryz.prog 37 #[v,.string nm] w fun e w'=>e=.returned (.bool (eG nm l))∧Below w.heap.size w w':=by
 intro n
 induction n with
 |zero=>intro l v w hn;omega
 | succ n ih=>
  have IH:=af ih;clear ih;intro l v w hn hs hv;obtain⟨ka,b,off,c,rfl,hka,fz⟩:=hv;have hl:=l.bU;have hS:=af (And.intro hn hs);have hI:=af fz;have hkb:l.len≤100000000:=by omega
  obtain⟨len,hlen⟩:∃m,m=l.len:=⟨_,rfl⟩;obtain⟨R,hR⟩:∃m,m=eG nm l:=⟨_,rfl⟩;rw[←hlen] at hka hl hkb⊢;rw[←hR];have bq:=af hlen;have Cq:=af hR;clear hn hs fz hlen hl hR;go_enter Tryz.func37,Tryz.ntmps37;go_wp2_with fail
  go_loopw [4,5] (fun z i wr=>∃(k:Nat) (r:aH),z=.bool false∧k+r.len=len∧i=.int .i64 k∧bC w false none r b off k∧r.sz≤l.sz∧R=eG nm r∧Below w.heap.size w wr) (fun _ i _=>len- (intOf i).toNat)
  case atStart=>exact⟨0,l,rfl,by have:=bq.out;omega,rfl,hI.out,Nat.le_refl _,Cq.out,Below.refl _ _⟩
  case round=>
   clear hI;obtain⟨k,r,rfl,hk,rfl,hr,hz,hm,hb⟩:=hrel;have hB:=af hb;have hM:=af hm;cases r with
   |nil=>
    simp only[aH.len,Nat.add_zero] at hk;subst k;clear hr hz hm hb;go_wp2_with fail
    go_ret;exact⟨by rw[hM.out];rfl,hB.out⟩
   | cons h' x' b' e' rest=>
    simp only[aH.len,aH.sz] at hk hz;have oB:k<len:=by omega
    obtain⟨⟨⟨t',y0,_⟩,y1,y2,y3,y4⟩,⟨u5,y5,Jz⟩,⟨u6,y6,JA⟩,⟨u7,y7,JB⟩,hR⟩:=hr.cons;have x1:=ag y1 hb;have x2:=ag y2 hb;have x5:=ag y5 hb;have x6:=ag y6 hb;have bG:ka=some ⟨b,off,none⟩:=by rcases hka with q|q;(·omega);(·exact q.1)
    subst bG;obtain⟨a5,c5,rfl⟩:=Jz.ay;obtain⟨a6,c6,rfl⟩:=JA.ay;obtain⟨a7,c7,rfl⟩:=JB.ay;have H5:=af Jz;have H6:=af JA;have H7:=af JB;have Y6:=af y6;have Y7:=af y7;have fE:=af (And.intro hR hz);have hE:=af (show R=((h'.name.toList==nm.toList)||(ld nm x'||(eG nm b'||(eG nm e'||eG nm rest)))) by rw[hm,←yR];rfl);clear hka hr Jz JA JB hR hz hb y0 y1 y2 y3 y4 y5 y6 y7 hm;cases hq:(h'.name.toList==nm.toList) with
    |true=>
     have hF:=af (show R=true by rw[hE.out,hq];rfl);skip;clear hE x5 x6 x1;go_wp2_with fail
     go_ret;exact⟨by rw[hF.out];rfl,hB.out⟩
    | false=>
     have hE:=af (show R=(ld nm x'||(eG nm b'||(eG nm e'||eG nm rest))) by rw[hE.out,hq];rfl);clear x1 x6;have au:=af (Xt nm (x'.sz+1) x' (.slice a5 x'.len c5) wr (by omega) (by have:=hS.out;have:=fE.2;omega) (H5.mono hB.out));cases hc:ld nm x' with
     |true=>
      rw[hc] at au;have hF:=af (show R=true by rw[hE.out,hc];rfl);clear hE hc;go_wp2_with fail
      refine au.mono ?_;rintro e w7 ⟨rfl,hb2⟩;have Kl:=af (hB.trans (hb2.mono hB.size));clear hb2 au;go_wp2_with fail
      go_ret;exact⟨by rw[hF.out];rfl,Kl.out⟩
     | false=>
      rw[hc] at au;have hE:=af (show R=(eG nm b'||(eG nm e'||eG nm rest)) by rw[hE.out,hc];rfl);clear hc;go_wp2_with fail
      refine au.mono ?_;rintro e w7 ⟨rfl,hb2⟩;have Kl:=af (hB.trans (hb2.mono hB.size));clear hb2 au;have x6:=ag Y6.out Kl.out;have au:=af (IH.out b' (.slice a6 b'.len c6) w7 (by have:=hS.out;have:=fE.2;omega) (by have:=hS.out;have:=fE.2;omega) (H6.mono Kl.out));cases hc:eG nm b' with
      |true=>
       rw[hc] at au;have hF:=af (show R=true by rw[hE.out,hc];rfl);clear hE hc;go_wp2_with fail
       refine au.mono ?_;rintro e w8 ⟨rfl,hb2⟩;have lC:=af (Kl.trans (hb2.mono Kl.size));clear hb2 au;go_wp2_with fail
       go_ret;exact⟨by rw[hF.out];rfl,lC.out⟩
      | false=>
       rw[hc] at au;have hE:=af (show R=(eG nm e'||eG nm rest) by rw[hE.out,hc];rfl);clear hc;go_wp2_with fail
       refine au.mono ?_;rintro e w8 ⟨rfl,hb2⟩;have lC:=af (Kl.trans (hb2.mono Kl.size));clear hb2 au;have x7:=ag Y7.out lC.out;have au:=af (IH.out e' (.slice a7 e'.len c7) w8 (by have:=hS.out;have:=fE.2;omega) (by have:=hS.out;have:=fE.2;omega) (H7.mono lC.out));cases hc:eG nm e' with
       |true=>
        rw[hc] at au;have hF:=af (show R=true by rw[hE.out,hc];rfl);clear hE hc;go_wp2_with fail
        refine au.mono ?_;rintro e w9 ⟨rfl,hb2⟩;have nL:=af (lC.trans (hb2.mono lC.size));clear hb2 au;go_wp2_with fail
        go_ret;exact⟨by rw[hF.out];rfl,nL.out⟩
       |false=>
        rw[hc] at au;have hE:=af (show R=(eG nm rest) by rw[hE.out,hc];rfl);clear hc;go_wp2_with fail
        refine au.mono ?_;rintro e w9 ⟨rfl,hb2⟩;have nL:=af (lC.trans (hb2.mono lC.size));clear hb2 au;go_wp2_with fail
        exact⟨⟨k+1,rest,rfl,by omega,by go_num,fE.1,by have:=fE.2;omega,hE.out,nL.out⟩,by simp only[intOf];omega⟩
theorem Ny (nm:ByteArray):∀(n:Nat) (l:aH) (v:Value) (w:World),l.sz<n→l.sz≤100000000→dR w false none l v→Calls Tryz.prog 36 #[v,.string nm] w fun e w'=>e=.returned (.bool (cA nm l))∧Below w.heap.size w w':=by
 intro n
 induction n with
 |zero=>intro l v w hn;omega
 | succ n ih=>
  have IH:=af ih;clear ih;intro l v w hn hs hv;obtain⟨ka,b,off,c,rfl,hka,fz⟩:=hv;have hl:=l.bU;have hS:=af (And.intro hn hs);have hI:=af fz;have hkb:l.len≤100000000:=by omega
  obtain⟨len,hlen⟩:∃m,m=l.len:=⟨_,rfl⟩;obtain⟨R,hR⟩:∃m,m=cA nm l:=⟨_,rfl⟩;rw[←hlen] at hka hl hkb⊢;rw[←hR];have bq:=af hlen;have Cq:=af hR;clear hn hs fz hlen hl hR;go_enter Tryz.func36,Tryz.ntmps36;go_wp2_with fail
  go_loopw [4,5] (fun z i wr=>∃(k:Nat) (r:aH),z=.bool false∧k+r.len=len∧i=.int .i64 k∧bC w false none r b off k∧r.sz≤l.sz∧R=cA nm r∧Below w.heap.size w wr) (fun _ i _=>len- (intOf i).toNat)
  case atStart=>exact⟨0,l,rfl,by have:=bq.out;omega,rfl,hI.out,Nat.le_refl _,Cq.out,Below.refl _ _⟩
  case round=>
   clear hI;obtain⟨k,r,rfl,hk,rfl,hr,hz,hm,hb⟩:=hrel;have hB:=af hb;have hM:=af hm;cases r with
   |nil=>
    simp only[aH.len,Nat.add_zero] at hk;subst k;clear hr hz hm hb;go_wp2_with fail
    go_ret;exact⟨by rw[hM.out];rfl,hB.out⟩
   | cons h' x' b' e' rest=>
    simp only[aH.len,aH.sz] at hk hz;have oB:k<len:=by omega
    obtain⟨⟨⟨t',y0,_⟩,y1,y2,y3,y4⟩,⟨u5,y5,Jz⟩,⟨u6,y6,JA⟩,⟨u7,y7,JB⟩,hR⟩:=hr.cons;have x1:=ag y1 hb;have x2:=ag y2 hb;have x5:=ag y5 hb;have x6:=ag y6 hb;have bG:ka=some ⟨b,off,none⟩:=by rcases hka with q|q;(·omega);(·exact q.1)
    subst bG;obtain⟨a5,c5,rfl⟩:=Jz.ay;obtain⟨a6,c6,rfl⟩:=JA.ay;obtain⟨a7,c7,rfl⟩:=JB.ay;have H5:=af Jz;have H6:=af JA;have H7:=af JB;have Y6:=af y6;have Y7:=af y7;have fE:=af (And.intro hR hz);have hE:=af (show R=((h'.kind==1&&(h'.name.toList==nm.toList))||((cA nm b'||(cA nm e'||cA nm rest)))) by rw[hm,←yR];rfl);clear hka hr Jz JA JB hR hz hb y0 y1 y2 y3 y4 y5 y6 y7 hm;cases hq:(h'.kind==1&&(h'.name.toList==nm.toList)) with
    |true=>
     have hF:=af (show R=true by rw[hE.out,hq];rfl);rw[Bool.and_eq_true,beq_iff_eq] at hq;obtain⟨k1,hq⟩:=hq;rw[k1] at x1;clear hE x5 x6;go_wp2_with fail
     go_ret;exact⟨by rw[hF.out];rfl,hB.out⟩
    | false=>
     have hE:=af (show R=((cA nm b'||(cA nm e'||cA nm rest))) by rw[hE.out,hq];rfl);by_cases k1:h'.kind=1
     ·have hq:(h'.name.toList==nm.toList)=false:=by simpa[k1] using hq
      rw[k1] at x1;clear x5 x6 k1;have x6:=ag Y6.out hB.out;have au:=af (IH.out b' (.slice a6 b'.len c6) wr (by have:=hS.out;have:=fE.2;omega) (by have:=hS.out;have:=fE.2;omega) (H6.mono hB.out));cases hc:cA nm b' with
      |true=>
       rw[hc] at au;have hF:=af (show R=true by rw[hE.out,hc];rfl);clear hE hc;go_wp2_with fail
       refine au.mono ?_;rintro e w8 ⟨rfl,hb2⟩;have lC:=af (hB.trans (hb2.mono hB.size));clear hb2 au;go_wp2_with fail
       go_ret;exact⟨by rw[hF.out];rfl,lC.out⟩
      | false=>
       rw[hc] at au;have hE:=af (show R=(cA nm e'||cA nm rest) by rw[hE.out,hc];rfl);clear hc;go_wp2_with fail
       refine au.mono ?_;rintro e w8 ⟨rfl,hb2⟩;have lC:=af (hB.trans (hb2.mono hB.size));clear hb2 au;have x7:=ag Y7.out lC.out;have au:=af (IH.out e' (.slice a7 e'.len c7) w8 (by have:=hS.out;have:=fE.2;omega) (by have:=hS.out;have:=fE.2;omega) (H7.mono lC.out));cases hc:cA nm e' with
       |true=>
        rw[hc] at au;have hF:=af (show R=true by rw[hE.out,hc];rfl);clear hE hc;go_wp2_with fail
        refine au.mono ?_;rintro e w9 ⟨rfl,hb2⟩;have nL:=af (lC.trans (hb2.mono lC.size));clear hb2 au;go_wp2_with fail
        go_ret;exact⟨by rw[hF.out];rfl,nL.out⟩
       |false=>
        rw[hc] at au;have hE:=af (show R=(cA nm rest) by rw[hE.out,hc];rfl);clear hc;go_wp2_with fail
        refine au.mono ?_;rintro e w9 ⟨rfl,hb2⟩;have nL:=af (lC.trans (hb2.mono lC.size));clear hb2 au;go_wp2_with fail
        exact⟨⟨k+1,rest,rfl,by omega,by go_num,fE.1,by have:=fE.2;omega,hE.out,nL.out⟩,by simp only[intOf];omega⟩
     ·have k2:(h'.kind==1)=false:=by simpa using k1
      clear x5 x6 k1 hq;have x6:=ag Y6.out hB.out;have au:=af (IH.out b' (.slice a6 b'.len c6) wr (by have:=hS.out;have:=fE.2;omega) (by have:=hS.out;have:=fE.2;omega) (H6.mono hB.out));cases hc:cA nm b' with
      |true=>
       rw[hc] at au;have hF:=af (show R=true by rw[hE.out,hc];rfl);clear hE hc;go_wp2_with fail
       refine au.mono ?_;rintro e w8 ⟨rfl,hb2⟩;have lC:=af (hB.trans (hb2.mono hB.size));clear hb2 au;go_wp2_with fail
       go_ret;exact⟨by rw[hF.out];rfl,lC.out⟩
      | false=>
       rw[hc] at au;have hE:=af (show R=(cA nm e'||cA nm rest) by rw[hE.out,hc];rfl);clear hc;go_wp2_with fail
       refine au.mono ?_;rintro e w8 ⟨rfl,hb2⟩;have lC:=af (hB.trans (hb2.mono hB.size));clear hb2 au;have x7:=ag Y7.out lC.out;have au:=af (IH.out e' (.slice a7 e'.len c7) w8 (by have:=hS.out;have:=fE.2;omega) (by have:=hS.out;have:=fE.2;omega) (H7.mono lC.out));cases hc:cA nm e' with
       |true=>
        rw[hc] at au;have hF:=af (show R=true by rw[hE.out,hc];rfl);clear hE hc;go_wp2_with fail
        refine au.mono ?_;rintro e w9 ⟨rfl,hb2⟩;have nL:=af (lC.trans (hb2.mono lC.size));clear hb2 au;go_wp2_with fail
        go_ret;exact⟨by rw[hF.out];rfl,nL.out⟩
       |false=>
        rw[hc] at au;have hE:=af (show R=(cA nm rest) by rw[hE.out,hc];rfl);clear hc;go_wp2_with fail
        refine au.mono ?_;rintro e w9 ⟨rfl,hb2⟩;have nL:=af (lC.trans (hb2.mono lC.size));clear hb2 au;go_wp2_with fail
        exact⟨⟨k+1,rest,rfl,by omega,by go_num,fE.1,by have:=fE.2;omega,hE.out,nL.out⟩,by simp only[intOf];omega⟩
end
section
open Go.Shelf
/-! ### a list of things in a list of cells, each with its blocks -/
section
variable {α:Type} (El:α→List Value→List Nat→Prop)
def iL:List α→List (List Value)→List Nat→Prop
 |[],cs,bs=>cs=[]∧bs=[]
 |a::l,cs,bs=>∃c c2 b1 b2,cs=c::c2∧bs=b1++b2∧El a c b1∧iL l c2 b2
end
section
variable {α:Type} {El El':α→List Value→List Nat→Prop}
theorem iL.app:∀{l1 l2:List α} {cs:List (List Value)} {bs:List Nat},iL El (l1++l2) cs bs↔∃c1 c2 b1 b2,cs=c1++c2∧bs=b1++b2∧iL El l1 c1 b1∧iL El l2 c2 b2
 |[],l2,cs,bs=>⟨fun h=>⟨[],cs,[],bs,rfl,rfl,⟨rfl,rfl⟩,h⟩,fun⟨c1,c2,b1,b2,h1,h2,⟨h3,h4⟩,h5⟩=>by subst h1;subst h2;subst h3;subst h4;exact h5⟩
 | a::l1,l2,cs,bs=>by
  constructor
  ·rintro⟨c,c2,b1,b2,rfl,rfl,h1,h2⟩;obtain⟨d1,d2,e1,e2,rfl,rfl,h3,h4⟩:=iL.app.1 h2;exact⟨c::d1,d2,b1++e1,e2,rfl,by rw[List.append_assoc],⟨c,d1,b1,e1,rfl,rfl,h1,h3⟩,h4⟩
  ·rintro⟨c1,c2,b1,b2,rfl,rfl,⟨c,d1,e1,e2,rfl,rfl,h1,h2⟩,h3⟩;exact⟨c,d1++c2,e1,e2++b2,rfl,by rw[List.append_assoc],h1,iL.app.2 ⟨d1,c2,e2,b2,rfl,rfl,h2,h3⟩⟩
theorem iL.len:∀{l:List α} {cs:List (List Value)} {bs:List Nat},iL El l cs bs→cs.length=l.length
 |[],_,_,⟨rfl,_⟩=>rfl
 |a::l,_,_,⟨c,c2,b1,b2,rfl,_,_,h⟩=>by rw[List.length_cons,List.length_cons,h.len]
theorem iL.imp:∀{l:List α} {cs:List (List Value)} {bs:List Nat},(∀a c b,(∀x∈b,x∈bs)→El a c b→El' a c b)→iL El l cs bs→iL El' l cs bs
 |[],_,_,_,h=>h
 |a::l,_,_,k,⟨c,c2,b1,b2,h1,h2,h3,h4⟩=>by
  subst h2;exact⟨c,c2,b1,b2,h1,rfl,k a c b1 (fun x hx=>List.mem_append_left _ hx) h3,iL.imp (fun a c b hb=>k a c b fun x hx=>List.mem_append_right _ (hb x hx)) h4⟩
theorem iL.one {a:α} {c:List Value} {b:List Nat} (h:El a c b):iL El [a] [c] b:=⟨c,[],b,[],rfl,by simp,h,rfl,rfl⟩
theorem iL.split {l:List α} {cs:List (List Value)} {bs:List Nat} (h:iL El l cs bs) (k:Nat) (hk:k<l.length):
  ∃c1 c c2 b1 b b2,cs=c1++c::c2∧bs=b1++(b++b2)∧c1.length=k∧iL El (l.take k) c1 b1∧El l[k] c b∧iL El (l.drop (k+1)) c2 b2:=by
 have e:l=l.take k++l[k]::l.drop (k+1):=by simp
 rw[e] at h;obtain⟨c1,c2,b1,b2,h1,h2,h3,c,c3,d1,d2,h4,h5,h6,h7⟩:=iL.app.1 h;subst h4;subst h5;exact⟨c1,c,c3,b1,d1,d2,h1,h2,by rw[h3.len,List.length_take];omega,h3,h6,h7⟩
end
def Kb (bs:List Nat) (w w':World):Prop:=∀b∈bs,w'.heap[b]? =w.heap[b]?
theorem Kb.sub {a b:List Nat} {w w':World} (h:Kb b w w') (hs:∀x∈a,x∈b):Kb a w w':=fun x hx=>h x (hs x hx)
theorem Kb.grown {bs:List Nat} {w w':World} {row:Option Nat} (h:w.grownBy w' row) (hb:∀b∈bs,b<w.heap.size∧some b≠row):Kb bs w w':=fun b q=>h.block b (hb b q).1 (hb b q).2
def fZ (w:World) (t:TypeId) (g:Nat) (cs:List (List Value)):Prop:=∃A:Array Value,Bx w g A t∧∀(j:Nat) (u:Value),cs.flatten[j]? =some u→A[j]? =some u
theorem fZ.keep {w w':World} {t:TypeId} {g:Nat} {cs:List (List Value)} (h:fZ w t g cs) (hk:w'.heap[g]? =w.heap[g]?):fZ w' t g cs:=by
 obtain⟨A,h1,h2⟩:=h;exact⟨A,hk.trans h1,h2⟩
theorem fZ.lt {w:World} {t:TypeId} {g:Nat} {cs:List (List Value)} (h:fZ w t g cs):g<w.heap.size:=by
 obtain⟨A,h1,_⟩:=h;exact h1.lt
theorem fZ.cell {w:World} {t:TypeId} {g:Nat} {cs:List (List Value)} (h:fZ w t g cs) {j:Nat} {u:Value} (hu:cs.flatten[j]? =some u):w.cell? ⟨g,j,none⟩=some u:=by
 obtain⟨A,h1,h2⟩:=h;rw[h1.cell];exact h2 j u hu
theorem fZ.free {w:World} {t:TypeId} {g:Nat} {cs:List (List Value)} (h:fZ w t g cs) (j:Nat):w.frozen? ⟨g,j,none⟩=false:=by
 obtain⟨A,h1,h2⟩:=h;exact h1.free j
theorem lK {n:Nat}:∀{c1:List (List Value)} {c:List Value} {c2:List (List Value)},(∀x∈c1,x.length=n)→∀j,j<c.length→(c1++c::c2).flatten[c1.length*n+j]? =c[j]?
 |[],c,c2,_,j,hj=>by
  simp only[List.nil_append,List.flatten_cons,List.length_nil,Nat.zero_mul,Nat.zero_add];rw[List.getElem?_append_left hj]
 |x::c1,c,c2,h,j,hj=>by
  have hx:=h x List.mem_cons_self;have:=lK (c1:=c1) (c2:=c2) (fun y hy=>h y (List.mem_cons_of_mem _ hy)) j hj;simp only[List.cons_append,List.flatten_cons,List.length_cons];rw[List.getElem?_append_right (by rw[Nat.add_mul];omega),show(c1.length+1)*n+j-x.length=c1.length*n+j by rw[Nat.add_mul];omega];exact this
theorem yS {n:Nat}:∀{c1:List (List Value)} {c:List Value} {c2:List (List Value)},(∀x∈c1,x.length=n)→∀j,j<c.length→∀u,(c1++c.set j u::c2).flatten=(c1++c::c2).flatten.set (c1.length*n+j) u
 |[],c,c2,_,j,hj,u=>by
  simp only[List.nil_append,List.flatten_cons,List.length_nil,Nat.zero_mul,Nat.zero_add];rw[List.set_append_left _ _ hj]
 |x::c1,c,c2,h,j,hj,u=>by
  have hx:=h x List.mem_cons_self;have:=yS (c1:=c1) (c2:=c2) (fun y hy=>h y (List.mem_cons_of_mem _ hy)) j hj u;simp only[List.cons_append,List.flatten_cons,List.length_cons,this];rw[List.set_append_right _ _ (by rw[Nat.add_mul];omega),show(c1.length+1)*n+j-x.length=c1.length*n+j by rw[Nat.add_mul];omega]
theorem fZ.set {w:World} {t:TypeId} {g n:Nat} {c1 c2:List (List Value)} {c:List Value} (h:fZ w t g (c1++c::c2)) (hn:∀x∈c1,x.length=n) (j:Nat) (hj:j<c.length) (u:Value):
  fZ (w.setCell ⟨g,c1.length*n+j,none⟩ u) t g (c1++c.set j u::c2):=by
 obtain⟨A,h1,h2⟩:=h;refine⟨_,h1.set _ u,fun i v hv=>?_⟩;rw[yS hn j hj u,List.getElem?_set] at hv;have hA:c1.length*n+j<A.size:=by
  have:=h2 (c1.length*n+j) c[j] (by rw[lK hn j hj];exact List.getElem?_eq_getElem hj);exact(Array.getElem?_eq_some_iff.1 this).1
 split at hv
 ·rename_i e;subst e;split at hv
  ·simp only[Array.set!_eq_setIfInBounds,Array.getElem?_setIfInBounds_self_of_lt hA];exact hv
  ·cases hv
 ·rename_i e;simp only[Array.set!_eq_setIfInBounds];rw[Array.getElem?_setIfInBounds_ne e];exact h2 i v hv
theorem fZ.JC {w:World} {B:Nat} {e:TypeId} {n m g cap:Nat} {cs:List (List Value)} (h:w.ownsRow B e n (.slice (some ⟨g,0,none⟩) m cap) m cs.flatten):B≤g∧fZ w e g cs:=by
 rcases h.2 with⟨h1,_⟩|⟨g',cap',cur,h1,h2,h3,h4,h5,h6,h7⟩
 ·cases h1
 ·cases h1;refine⟨h2,cur,h3,fun j u hj=>?_⟩;rw[←h7,List.getElem?_take] at hj;split at hj
  ·rw[←Array.getElem?_toList];exact hj
  ·cases hj
/-! ### expressions -/
def eC (h:EH) (v:Value):List Value:=[.int .i64 h.at_,.int .u8 h.kind,.int .u32 h.word,.int .u8 h.type,.string h.name,.string h.sign,v]
def sC (h:SH) (x b e:Value):List Value:=[.int .i64 h.at_,.int .u8 h.kind,.string h.name,.int .u8 h.type,.string h.sign,x,b,e]
def FO (w:World):az→List (List Value)→List Nat→Prop
 | .nil,cs,bs=>cs=[]∧bs=[]
 | .cons h k r,cs,bs=>∃c c2 b1 b2,cs=c::c2∧bs=b1++b2∧(∃v,c=eC h v∧((k.len=0∧b1=[]∧v=.slice none 0 0)∨∃g cap ks b',b1=g::b'∧v=.slice (some ⟨g,0,none⟩) k.len cap∧fZ w 134 g ks∧FO w k ks b'))∧FO w r c2 b2
def uO (w:World) (l:az) (v:Value) (bs:List Nat):Prop:=
 (l.len=0∧bs=[]∧v=.slice none 0 0)∨∃g cap ks b',bs=g::b'∧v=.slice (some ⟨g,0,none⟩) l.len cap∧fZ w 134 g ks∧FO w l ks b'
def C9 (w:World):aH→List (List Value)→List Nat→Prop
 | .nil,cs,bs=>cs=[]∧bs=[]
 | .cons h x b e r,cs,bs=>∃c c2 b1 b2,cs=c::c2∧bs=b1++b2∧(∃vx vb ve bx bb be,c=sC h vx vb ve∧b1=bx++(bb++be)∧uO w x vx bx∧
   ((b.len=0∧bb=[]∧vb=.slice none 0 0)∨∃g cap ks b',bb=g::b'∧vb=.slice (some ⟨g,0,none⟩) b.len cap∧fZ w 109 g ks∧C9 w b ks b')∧
   ((e.len=0∧be=[]∧ve=.slice none 0 0)∨∃g cap ks b',be=g::b'∧ve=.slice (some ⟨g,0,none⟩) e.len cap∧fZ w 109 g ks∧C9 w e ks b'))∧C9 w r c2 b2
def uP (w:World) (l:aH) (v:Value) (bs:List Nat):Prop:=
 (l.len=0∧bs=[]∧v=.slice none 0 0)∨∃g cap ks b',bs=g::b'∧v=.slice (some ⟨g,0,none⟩) l.len cap∧fZ w 109 g ks∧C9 w l ks b'
def FQ (w:World) (a:EH×az) (c:List Value) (bs:List Nat):Prop:=∃v,c=eC a.1 v∧uO w a.2 v bs
def Fe (w:World) (a:SB) (c:List Value) (bs:List Nat):Prop:=∃vx vb ve bx bb be,c=sC a.1 vx vb ve∧bs=bx++(bb++be)∧uO w a.2.1 vx bx∧uP w a.2.2.1 vb bb∧uP w a.2.2.2 ve be
theorem lL {w:World}:∀{l:az} {cs:List (List Value)} {bs:List Nat},FO w l cs bs↔iL (FQ w) l.bu cs bs
 | .nil,_,_=>Iff.rfl
 | .cons h k r,cs,bs=>by
  constructor
  ·rintro⟨c,c2,b1,b2,h1,h2,h3,h4⟩;exact⟨c,c2,b1,b2,h1,h2,h3,lL.1 h4⟩
  ·rintro⟨c,c2,b1,b2,h1,h2,h3,h4⟩;exact⟨c,c2,b1,b2,h1,h2,h3,lL.2 h4⟩
theorem lM {w:World}:∀{l:aH} {cs:List (List Value)} {bs:List Nat},C9 w l cs bs↔iL (Fe w) l.bu cs bs
 | .nil,_,_=>Iff.rfl
 | .cons h x b e r,cs,bs=>by
  constructor
  ·rintro⟨c,c2,b1,b2,h1,h2,h3,h4⟩;exact⟨c,c2,b1,b2,h1,h2,h3,lM.1 h4⟩
  ·rintro⟨c,c2,b1,b2,h1,h2,h3,h4⟩;exact⟨c,c2,b1,b2,h1,h2,h3,lM.2 h4⟩
section
variable {w w':World}
theorem FO.keep:∀{l:az} {cs:List (List Value)} {bs:List Nat},Kb bs w w'→FO w l cs bs→FO w' l cs bs
 | .nil,_,_,_,h=>h
 | .cons h k r,cs,bs,hk,⟨c,c2,b1,b2,h1,h2,⟨v,h3,h4⟩,h5⟩=>by
  subst h2;refine⟨c,c2,b1,b2,h1,rfl,⟨v,h3,?_⟩,h5.keep (hk.sub fun x hx=>List.mem_append_right _ hx)⟩;rcases h4 with h4|⟨g,cap,ks,b',rfl,q2,q3,q4⟩
  ·exact .inl h4
  ·exact .inr ⟨g,cap,ks,b',rfl,q2,q3.keep (hk g (by simp)),q4.keep (hk.sub fun x hx=>by simp[hx])⟩
theorem uO.keep {l:az} {v:Value} {bs:List Nat} (hk:Kb bs w w') (h:uO w l v bs):uO w' l v bs:=by
 rcases h with h4|⟨g,cap,ks,b',rfl,q2,q3,q4⟩
 ·exact .inl h4
 ·exact .inr ⟨g,cap,ks,b',rfl,q2,q3.keep (hk g (by simp)),q4.keep (hk.sub fun x hx=>by simp[hx])⟩
theorem C9.keep:∀{l:aH} {cs:List (List Value)} {bs:List Nat},Kb bs w w'→C9 w l cs bs→C9 w' l cs bs
 | .nil,_,_,_,h=>h
 | .cons h x b e r,cs,bs,hk,⟨c,c2,b1,b2,h1,h2,⟨vx,vb,ve,bx,bb,be,h3,h4,h5,h6,h7⟩,h8⟩=>by
  subst h2;subst h4;refine⟨c,c2,_,b2,h1,rfl,⟨vx,vb,ve,bx,bb,be,h3,rfl,h5.keep (hk.sub fun x hx=>by simp[hx]),?_,?_⟩,h8.keep (hk.sub fun x hx=>List.mem_append_right _ hx)⟩
  ·rcases h6 with h6|⟨g,cap,ks,b',rfl,q2,q3,q4⟩
   ·exact .inl h6
   ·exact .inr ⟨g,cap,ks,b',rfl,q2,q3.keep (hk g (by simp)),q4.keep (hk.sub fun x hx=>by simp[hx])⟩
  ·rcases h7 with h7|⟨g,cap,ks,b',rfl,q2,q3,q4⟩
   ·exact .inl h7
   ·exact .inr ⟨g,cap,ks,b',rfl,q2,q3.keep (hk g (by simp)),q4.keep (hk.sub fun x hx=>by simp[hx])⟩
theorem uP.keep {l:aH} {v:Value} {bs:List Nat} (hk:Kb bs w w') (h:uP w l v bs):uP w' l v bs:=by
 rcases h with h4|⟨g,cap,ks,b',rfl,q2,q3,q4⟩
 ·exact .inl h4
 ·exact .inr ⟨g,cap,ks,b',rfl,q2,q3.keep (hk g (by simp)),q4.keep (hk.sub fun x hx=>by simp[hx])⟩
theorem FQ.keep {a:EH×az} {c:List Value} {bs:List Nat} (hk:Kb bs w w') (h:FQ w a c bs):FQ w' a c bs:=by
 obtain⟨v,h1,h2⟩:=h;exact⟨v,h1,h2.keep hk⟩
theorem Fe.keep {a:SB} {c:List Value} {bs:List Nat} (hk:Kb bs w w') (h:Fe w a c bs):Fe w' a c bs:=by
 obtain⟨vx,vb,ve,bx,bb,be,h1,rfl,h2,h3,h4⟩:=h;exact⟨vx,vb,ve,bx,bb,be,h1,rfl,h2.keep (hk.sub fun x hx=>by simp[hx]),h3.keep (hk.sub fun x hx=>by simp[hx]),h4.keep (hk.sub fun x hx=>by simp[hx])⟩
/-! ### they are trees -/
theorem FO.tree {g:Nat}:∀{l:az} {cs:List (List Value)} {bs:List Nat} {c0:List (List Value)},FO w l cs bs→fZ w 134 g (c0++cs)→(∀x∈c0,x.length=7)→bw w true none l g 0 c0.length
 | .nil,_,_,_,_,_,_=>trivial
 | .cons h k r,cs,bs,c0,⟨c,c2,b1,b2,h1,h2,⟨v,h3,h4⟩,h5⟩,hr,hn=>by
  subst h1;subst h3;have hc:∀j,j<7→w.cell? ⟨g,0+c0.length*7+j,none⟩=(eC h v)[j]? :=fun j hj=>by
   have e:=lK (n:=7) (c2:=c2) hn j (show j<(eC h v).length from hj);rw[Nat.zero_add];have hl:j<(eC h v).length:=hj;rw[List.getElem?_eq_getElem hl] at e⊢;exact hr.cell e
  refine bw.mk ⟨⟨h.at_,hc 0 (by omega),fun _=>rfl⟩,hc 1 (by omega),hc 2 (by omega),hc 3 (by omega),hc 4 (by omega),hc 5 (by omega)⟩ (v:=v) (hc 6 (by omega)) ?_ ?_
  ·rcases h4 with⟨k0,_,rfl⟩|⟨g',cap,ks,b',_,rfl,q3,q4⟩
   ·refine⟨none,0,0,0,by rw[k0],.inl ⟨k0,rfl⟩,?_⟩;cases k with
    |nil=>trivial
    |cons h' k' r'=>simp[az.len] at k0
   ·exact⟨some ⟨g',0,none⟩,g',0,cap,rfl,.inr ⟨rfl,fun Z hZ=>by cases hZ⟩,FO.tree (c0:=[]) q4 (by simpa using q3) (by simp)⟩
  ·have:=FO.tree (c0:=c0++[eC h v]) h5 (by simpa using hr) (by intro x hx;rcases List.mem_append.1 hx with q|q;(·exact hn x q);(·simp at q;rw[q];rfl));simpa using this
theorem uO.tree {l:az} {v:Value} {bs:List Nat} (h:uO w l v bs):dI w true none l v:=by
 rcases h with⟨k0,_,rfl⟩|⟨g',cap,ks,b',_,rfl,q3,q4⟩
 ·refine⟨none,0,0,0,by rw[k0],.inl ⟨k0,rfl⟩,?_⟩;cases l with
  |nil=>trivial
  |cons h' k' r'=>simp[az.len] at k0
 ·exact⟨some ⟨g',0,none⟩,g',0,cap,rfl,.inr ⟨rfl,fun Z hZ=>by cases hZ⟩,FO.tree (c0:=[]) q4 (by simpa using q3) (by simp)⟩
theorem C9.tree {g:Nat}:∀{l:aH} {cs:List (List Value)} {bs:List Nat} {c0:List (List Value)},C9 w l cs bs→fZ w 109 g (c0++cs)→(∀x∈c0,x.length=8)→bC w true none l g 0 c0.length
 | .nil,_,_,_,_,_,_=>trivial
 | .cons h x b e r,cs,bs,c0,⟨c,c2,b1,b2,h1,h2,⟨vx,vb,ve,bx,bb,be,h3,h4,h5,h6,h7⟩,h8⟩,hr,hn=>by
  subst h1;subst h3;have hc:∀j,j<8→w.cell? ⟨g,0+c0.length*8+j,none⟩=(sC h vx vb ve)[j]? :=fun j hj=>by
   have e:=lK (n:=8) (c2:=c2) hn j (show j<(sC h vx vb ve).length from hj);rw[Nat.zero_add];have hl:j<(sC h vx vb ve).length:=hj;rw[List.getElem?_eq_getElem hl] at e⊢;exact hr.cell e
  refine bC.mk ⟨⟨h.at_,hc 0 (by omega),fun _=>rfl⟩,hc 1 (by omega),hc 2 (by omega),hc 3 (by omega),hc 4 (by omega)⟩ (v5:=vx) (hc 5 (by omega)) h5.tree (v6:=vb) (hc 6 (by omega)) ?_ (v7:=ve) (hc 7 (by omega)) ?_ ?_
  ·rcases h6 with⟨k0,_,rfl⟩|⟨g',cap,ks,b',_,rfl,q3,q4⟩
   ·refine⟨none,0,0,0,by rw[k0],.inl ⟨k0,rfl⟩,?_⟩;cases b with
    |nil=>trivial
    |cons h' x' b' e' r'=>simp[aH.len] at k0
   ·exact⟨some ⟨g',0,none⟩,g',0,cap,rfl,.inr ⟨rfl,fun Z hZ=>by cases hZ⟩,C9.tree (c0:=[]) q4 (by simpa using q3) (by simp)⟩
  ·rcases h7 with⟨k0,_,rfl⟩|⟨g',cap,ks,b',_,rfl,q3,q4⟩
   ·refine⟨none,0,0,0,by rw[k0],.inl ⟨k0,rfl⟩,?_⟩;cases e with
    |nil=>trivial
    |cons h' x' b' e' r'=>simp[aH.len] at k0
   ·exact⟨some ⟨g',0,none⟩,g',0,cap,rfl,.inr ⟨rfl,fun Z hZ=>by cases hZ⟩,C9.tree (c0:=[]) q4 (by simpa using q3) (by simp)⟩
  ·have:=C9.tree (c0:=c0++[sC h vx vb ve]) h8 (by simpa using hr) (by intro x hx;rcases List.mem_append.1 hx with q|q;(·exact hn x q);(·simp at q;rw[q];rfl));simpa using this
theorem uP.tree {l:aH} {v:Value} {bs:List Nat} (h:uP w l v bs):dR w true none l v:=by
 rcases h with⟨k0,_,rfl⟩|⟨g',cap,ks,b',_,rfl,q3,q4⟩
 ·refine⟨none,0,0,0,by rw[k0],.inl ⟨k0,rfl⟩,?_⟩;cases l with
  |nil=>trivial
  |cons h' x' b' e' r'=>simp[aH.len] at k0
 ·exact⟨some ⟨g',0,none⟩,g',0,cap,rfl,.inr ⟨rfl,fun Z hZ=>by cases hZ⟩,C9.tree (c0:=[]) q4 (by simpa using q3) (by simp)⟩
end
/-! ### a list that grows -/
section
variable {α:Type} {El:World→α→List Value→List Nat→Prop} (KE:∀w w' a c bs,Kb bs w w'→El w a c bs→El w' a c bs)
def Gr (El:World→α→List Value→List Nat→Prop) (B:Nat) (e:TypeId) (n:Nat) (w:World) (L:List α) (v:Value):Prop:=
 ∃cs bs,w.ownsRow B e n v L.length cs.flatten∧iL (El w) L cs bs∧(∀c∈cs,c.length=n)∧bs.Nodup∧∀b∈bs,B≤b∧b<w.heap.size∧some b≠v.ownBlock
theorem Gr.nil (El:World→α→List Value→List Nat→Prop) (B:Nat) (e:TypeId) (n:Nat) (w:World):Gr El B e n w [] (.slice none 0 0):=
 ⟨[],[],World.ownsRow_nil w B e n,⟨rfl,rfl⟩,by simp,List.nodup_nil,by simp⟩
include KE in
theorem Gr.push {B:Nat} {e:TypeId} {n:Nat} {w1 w2 w3:World} {L:List α} {v v':Value} {a:α} {c:List Value} {cs:List (List Value)} {bs b1:List Nat} (hE:iL (El w1) L cs bs) (hn:∀c∈cs,c.length=n) (hd:bs.Nodup)
  (hb:∀b∈bs,B≤b∧b<w1.heap.size∧some b≠v.ownBlock) (hg:w1.grownBy w2 none) (hA:aV w2 w3 B e n v v' L.length 1 cs.flatten c) (hc:c.length=n) (zA:El w2 a c b1) (hd1:b1.Nodup) (hb1:∀b∈b1,w1.heap.size≤b∧b<w2.heap.size)
  (hlt:∀k,v.ownBlock=some k→B≤k∧k<w1.heap.size) (hB:B≤w1.heap.size):Gr El B e n w3 (L++[a]) v':=by
 have h1:=hg.size;have h2:=hA.grown.size;have hne:∀b,b<w2.heap.size→some b≠v.ownBlock→some b≠v'.ownBlock:=by
  intro b hb hx;rcases hA.place with hp|⟨g,hp,hg,_⟩
  ·rw[hp];exact hx
  ·rw[hp];intro h;cases h;omega
 have hx1:∀b∈b1,some b≠v.ownBlock:=fun b hb h=>by have:=hlt b h.symm;have:=hb1 b hb;omega
 have k1:Kb bs w1 w3:=fun b q=>(hA.grown.block b (by have:=hb b q;omega) (hb b q).2.2).trans (hg.block b (hb b q).2.1 (by simp))
 have k2:Kb b1 w2 w3:=fun b q=>hA.grown.block b (hb1 b q).2 (hx1 b q)
 refine⟨cs++[c],bs++b1,?_,iL.app.2 ⟨cs,[c],bs,b1,rfl,rfl,hE.imp fun a c b hs h=>KE _ _ _ _ _ (k1.sub hs) h,iL.one (KE _ _ _ _ _ k2 zA)⟩,?_,?_,?_⟩
 ·have:=hA.own;simpa using this
 ·intro x hx;rcases List.mem_append.1 hx with q|q
  ·exact hn x q
  ·simp at q;rw[q];exact hc
 ·rw[List.nodup_append];refine⟨hd,hd1,fun x hx y hy e=>?_⟩;have:=(hb x hx).2.1;have:=(hb1 y hy).1;omega
 ·intro b q;rcases List.mem_append.1 q with q|q
  ·have:=hb b q;exact⟨this.1,by omega,hne b (by omega) this.2.2⟩
  ·have:=hb1 b q;exact⟨by omega,by omega,hne b this.2 (hx1 b q)⟩
theorem Gr.lt {B:Nat} {e:TypeId} {n:Nat} {w:World} {L:List α} {v:Value} (h:Gr El B e n w L v):∀k,v.ownBlock=some k→B≤k∧k<w.heap.size:=by
 obtain⟨cs,bs,h1,_⟩:=h;exact h1.lt
include KE in
theorem Gr.on {B:Nat} {e:TypeId} {n:Nat} {w w':World} {L:List α} {v:Value} (h:Gr El B e n w L v) {row:Option Nat} (hg:w.grownBy w' row) (hr:∀k,row=some k→k<B):Gr El B e n w' L v:=by
 obtain⟨cs,bs,h1,h2,h3,h4,h5⟩:=h;have hk:∀b,B≤b→some b≠row:=fun b hb e=>by have:=hr b e.symm;omega
 refine⟨cs,bs,h1.kept hg ?_,h2.imp fun a c b hs h=>KE _ _ _ _ _ (Kb.grown hg fun x hx=>⟨(h5 x (hs x hx)).2.1,hk x (h5 x (hs x hx)).1⟩) h,h3,h4,fun b q=>⟨(h5 b q).1,by have:=(h5 b q).2.1;have:=hg.size;omega,(h5 b q).2.2⟩⟩;cases ho:v.ownBlock with
 |none=>exact .inl rfl
 |some k=>exact .inr (hk k (h1.lt k ho).1)
theorem Gr.row {B:Nat} {e:TypeId} {n:Nat} {w:World} {L:List α} {v:Value} (h:Gr El B e n w L v):
  (L.length=0∧v=.slice none 0 0)∨∃g cap cs bs,v=.slice (some ⟨g,0,none⟩) L.length cap∧fZ w e g cs∧iL (El w) L cs bs∧(∀c∈cs,c.length=n)∧(g::bs).Nodup∧∀b∈g::bs,B≤b∧b<w.heap.size:=by
 obtain⟨cs,bs,h1,h2,h3,h4,h5⟩:=h;have hO:=h1;rcases h1.2 with⟨q1,q2⟩|⟨g,cap,cur,q1,q2,_⟩
 ·exact .inl ⟨q2,q1⟩
 ·subst q1;obtain⟨g1,g2⟩:=fZ.JC hO;refine .inr ⟨g,cap,cs,bs,rfl,g2,h2,h3,List.nodup_cons.2 ⟨fun hm=>(h5 g hm).2.2 rfl,h4⟩,fun b q=>?_⟩;rcases List.mem_cons.1 q with rfl|q
  ·exact⟨q2,g2.lt⟩
  ·exact⟨(h5 b q).1,(h5 b q).2.1⟩
end
theorem yT:∀w w' a c bs,Kb bs w w'→FQ w a c bs→FQ w' a c bs:=fun _ _ _ _ _ k h=>h.keep k
theorem gg:∀w w' a c bs,Kb bs w w'→Fe w a c bs→Fe w' a c bs:=fun _ _ _ _ _ k h=>h.keep k
theorem Gr.Xv {B:Nat} {w:World} {l:az} {v:Value} (h:Gr FQ B 134 7 w l.bu v):∃bs,uO w l v bs∧bs.Nodup∧∀b∈bs,B≤b∧b<w.heap.size:=by
 rcases h.row with⟨h1,h2⟩|⟨g,cap,cs,bs,h1,h2,h3,-,h4,h5⟩
 ·exact⟨[],.inl ⟨by rw[←az.br];exact h1,rfl,h2⟩,List.nodup_nil,by simp⟩
 ·exact⟨g::bs,.inr ⟨g,cap,cs,bs,rfl,by rw[h1,az.br],h2,lL.2 h3⟩,h4,h5⟩
theorem Gr.Xw {B:Nat} {w:World} {l:aH} {v:Value} (h:Gr Fe B 109 8 w l.bu v):∃bs,uP w l v bs∧bs.Nodup∧∀b∈bs,B≤b∧b<w.heap.size:=by
 rcases h.row with⟨h1,h2⟩|⟨g,cap,cs,bs,h1,h2,h3,-,h4,h5⟩
 ·exact⟨[],.inl ⟨by rw[←aH.br];exact h1,rfl,h2⟩,List.nodup_nil,by simp⟩
 ·exact⟨g::bs,.inr ⟨g,cap,cs,bs,rfl,by rw[h1,aH.br],h2,lM.2 h3⟩,h4,h5⟩
end
section
open Go.Shelf
abbrev zE:Value:=.agg #[.int .i64 0,.int .u8 0,.int .u32 0,.int .u8 0,.string ⟨#[]⟩,.string ⟨#[]⟩,.slice none 0 0]
abbrev zS:Value:=.agg #[.int .i64 0,.int .u8 0,.string ⟨#[]⟩,.int .u8 0,.string ⟨#[]⟩,.slice none 0 0,.slice none 0 0,.slice none 0 0]
theorem uO.shape {w:World} {l:az} {v:Value} {bs:List Nat} (h:uO w l v bs):∃a c,v=.slice a l.len c:=by
 rcases h with⟨k0,_,rfl⟩|⟨g',cap,ks,b',_,rfl,q3,q4⟩
 ·exact⟨_,_,by rw[k0]⟩
 ·exact⟨_,_,rfl⟩
theorem uP.shape {w:World} {l:aH} {v:Value} {bs:List Nat} (h:uP w l v bs):∃a c,v=.slice a l.len c:=by
 rcases h with⟨k0,_,rfl⟩|⟨g',cap,ks,b',_,rfl,q3,q4⟩
 ·exact⟨_,_,by rw[k0]⟩
 ·exact⟨_,_,rfl⟩
theorem Kb.set {bs:List Nat} {w:World} {g i:Nat} {u:Value} (h:∀b∈bs,b≠g):Kb bs w (w.setCell ⟨g,i,none⟩ u):=fun b q=>Below.heap_setCell _ _ _ _ (fun e=>h b q e)
theorem Kb.below {bs:List Nat} {w w':World} {B:Nat} (h:Below B w w') (hb:∀b∈bs,b<B):Kb bs w w':=fun b q=>h.block b (hb b q)
theorem Kb.trans {bs:List Nat} {a b c:World} (h:Kb bs a b) (k:Kb bs b c):Kb bs a c:=fun x q=>(k x q).trans (h x q)
theorem RM:∀(n:Nat) (l:az) (v:Value) (w:World),l.sz<n→l.sz≤100000000→dI w true none l v→
  Calls Tryz.prog 66 #[v] w fun e w'=>∃v' bs,e=.returned v'∧uO w' l v' bs∧bs.Nodup∧(∀b∈bs,w.heap.size≤b∧b<w'.heap.size)∧Below w.heap.size w w':=by
 intro n
 induction n with
 |zero=>intro l v w hn;omega
 | succ n ih=>
  have IH:=af ih;clear ih;intro l v w hn hs hv;obtain⟨ka,b,off,c,rfl,hka,fz⟩:=nx.1 hv;obtain⟨m,hm⟩:∃m,m=l.bu.length:=⟨_,rfl⟩;have hl:=l.bU;rw[←az.br,←hm] at hl;rw[←hm] at hka⊢;have hM:=af hm;have hI:=af fz;have hS:=af (And.intro hn hs);have hkb:m≤100000000:=by omega
  clear hn hs fz hv hm hl;go_enter Tryz.func66,Tryz.ntmps66;go_wp2_with fail
  go_loopw [3,4] (fun x i wr=>∃(k:Nat) (x0:Value),x0=x∧k≤m∧i=.int .i64 k∧Gr FQ w.heap.size 134 7 wr (l.bu.take k) x0∧Below w.heap.size w wr) (fun _ i _=>m- (intOf i).toNat)
  case atStart=>exact⟨0,_,rfl,Nat.zero_le _,rfl,Gr.nil _ _ _ _ _,Below.refl _ _⟩
  case round=>
   obtain⟨k,x0,rfl,hk,rfl,hgr,hb⟩:=hrel;have tR:w.heap.size≤wr.heap.size:=hb.size;by_cases hlt:k<m
   ·obtain⟨⟨⟨t,z0,zt⟩,z1,z2,z3,z4,z5⟩,⟨u,z6,hu⟩⟩:=hI.out k (by have:=hM.out;omega);have ht:=zt rfl;subst ht;have y0:=ag z0 hb;have y1:=ag z1 hb;have y2:=ag z2 hb;have y3:=ag z3 hb;have y4:=ag z4 hb;have y5:=ag z5 hb;have y6:=ag z6 hb;have hsm:=l.jX _ (List.getElem_mem (l:=l.bu) (n:=k) (by have:=hM.out;omega));have bG:ka=some ⟨b,off,none⟩:=by rcases hka with q|q;(·omega);(·exact q.1)
    have wU:=af (fA l.bu k (by have:=hM.out;omega));have hlen:(l.bu.take k).length=k:=by have:=hM.out;simp;omega
    have bq:=af hlen;subst bG;generalize l.bu[k]'(by have:=hM.out;omega)=a at*;obtain⟨⟨c0,c1,c2,c3,c4,c5⟩,kk⟩:=a;simp only[] at y0 y1 y2 y3 y4 y5 y6 hu hsm;obtain⟨ua,uc,rfl⟩:=hu.ay;obtain⟨W1,hW1⟩:∃W1,W1=wr.alloc (.cells #[.int .i64 c0,.int .u8 c1,.int .u32 c2,.int .u8 c3,.string c4,.string c5,.slice ua kk.len uc] 134):=⟨_,rfl⟩;have aB:Hid (Bx W1 wr.heap.size #[.int .i64 c0,.int .u8 c1,.int .u32 c2,.int .u8 c3,.string c4,.string c5,.slice ua kk.len uc] 134):=af (by rw[hW1];exact Bx.new _ _ _);have hb1:Below wr.heap.size wr W1:=by rw[hW1];exact(Below.refl _ _).alloc (Nat.le_refl _) _
    have hs1:W1.heap.size=wr.heap.size+1:=by rw[hW1];simp
    have au:=af (IH.out kk _ W1 (by have:=hS.out;omega) (by have:=hS.out;omega) (hu.mono (hb.trans (hb1.mono hb.size))));have Py:=af hgr;have hB:=af hb;have iU:=af hb1;have hS1:=af hs1;have JD:=af hW1;clear hka hgr hb hb1 hs1 hW1 z0 z1 z2 z3 z4 z5 z6 zt hu hsm hlen;go_wp2_with fail
    rw[←JD.out];have p6:=aB.cell 6;simp at p6;clear y0 y1 y2 y3 y4 y5 y6;go_wp2_with fail
    refine au.mono ?_;rintro e w2 ⟨v2,b2,rfl,ki,hd2,hl2,hb2⟩;obtain⟨va,vc,rfl⟩:=ki.shape;have aL:=af (aB.on (ah hb2) (by simp));have HT:=af (And.intro ki (And.intro hd2 hl2));have aQ:=af hb2;have q6:=aL.free 6;have hl4:=aL.lt;have r6:=aL.cell 6;simp at r6;clear ki hd2 hl2 hb2 au p6;obtain⟨w3,hw3⟩:∃w3,w3=w2.setCell ⟨wr.heap.size,6,none⟩ (.slice va kk.len vc):=⟨_,rfl⟩;have cq:Hid (Bx w3 wr.heap.size #[.int .i64 c0,.int .u8 c1,.int .u32 c2,.int .u8 c3,.string c4,.string c5,.slice va kk.len vc] 134):=af (by rw[hw3];exact aL.set 6 _);have gQ:Hid (Below wr.heap.size wr w3):=af (by rw[hw3];exact(iU.trans (aQ.mono (by have:=hS1.out;omega))).setCell (Nat.le_refl _) _);have hs3:w3.heap.size=w2.heap.size:=by rw[hw3];simp[World.setCell]
    have hT3:Hid (uO w3 kk (.slice va kk.len vc) b2):=af (by rw[hw3];exact HT.1.keep (Kb.set fun b q=>by have:=HT.2.2 b q;have:=hS1.out;omega));have p0:=aL.cell 0;have p1:=aL.cell 1;have p2:=aL.cell 2;have p3:=aL.cell 3;have p4:=aL.cell 4;have p5:=aL.cell 5;simp at p0 p1 p2 p3 p4 p5;obtain⟨cs,bs,hown,hE,JE,pE,oO⟩:=Py.out;have hown2:=hown.kept (ah gQ.out) (by cases x0.ownBlock<;>simp);rw[bq.out] at hown2;have HE:=af (And.intro hE (And.intro JE (And.intro pE oO)));have lQ:=af hown.lt;have zZ:=gQ.size;have Zl:=af hs3;have hO:=af hown2;rw[hw3] at hO;have HW3:=af hw3;have hb3:=af (show w.heap.size≤(w2.setCell ⟨wr.heap.size,6,none⟩ (.slice va kk.len vc)).heap.size by rw[←hw3];omega);clear hw3 aL cq hown hown2 hE JE pE oO aB JD hs3 zZ;go_wp2_with (at_builtin;go_must (refine aG rfl _ _ 107 rfl w.heap.size 134 134 zE 7 80 1 Tryz.underlying107 (by kernel_rfl) rfl (by decide) _ k _ [.int .i64 c0,.int .u8 c1,.int .u32 c2,.int .u8 c3,.string c4,.string c5,.slice va kk.len vc] (0,0) hO.out rfl (by simp[Value.oneCell']) (by unfold maxLen;omega) (by omega) hb3.out rfl (by rw[size_set];rfl) ?_);intro v' w5 hA;rw[←HW3.out] at hA;have hA':=af hA;clear hA)
    rw[←HW3.out] at hO
    go_roundw
    case rel=>
     refine⟨k+1,v',rfl,by omega,by go_num,?_,hB.trans ((gQ.mono tR).trans (hA'.below hO.out (by have:=gQ.size;omega)))⟩
     ·rw[wU.out];exact Gr.push yT HE.1 HE.2.1 HE.2.2.1 HE.2.2.2 (ah gQ.out) (by rw[bq.out];exact hA'.out) rfl ⟨_,rfl,hT3.out⟩ HT.2.1 (fun b q=>by have:=HT.2.2 b q;have:=hS1.out;have:=Zl.out;omega) lQ.out (by omega)
    case measure=>simp[intOf];omega
   ·obtain rfl:k=m:=by omega
    have hall:l.bu.take k=l.bu:=List.take_of_length_le (by have:=hM.out;omega);rw[hall] at hgr;obtain⟨bs,h1,h2,h3⟩:=hgr.Xv;have HF:=af (And.intro h1 (And.intro h2 h3));have hB:=af hb;clear hgr hb hall h1 h2 h3;go_wp2_with fail
    go_ret;exact⟨_,bs,rfl,HF.1,HF.2.1,HF.2.2,hB.out⟩
end
end Go.Proofs.YtlabadkfkbenoaaGreatDoor
