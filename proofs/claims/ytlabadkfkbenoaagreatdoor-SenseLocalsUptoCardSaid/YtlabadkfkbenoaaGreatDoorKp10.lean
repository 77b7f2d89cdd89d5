/- Walks and plain laws, merged: SenU SenW SenQ SenV. No condition. -/
import Derived.Test.YtlabadkfkbenoaaGreatDoorKp09
import Derived.Laws.ResultCell
import Derived.Test.YtlabadkfkbenoaaGreatDoorKp01
import Derived.Test.YtlabadkfkbenoaaGreatDoorKp08
namespace Go.Proofs.YtlabadkfkbenoaaGreatDoor
open Go.RowKit
set_option linter.unusedVariables false
set_option linter.unusedSimpArgs false
set_option maxRecDepth 100000
set_option maxHeartbeats 64000000
section
open Go.Shelf
theorem lO.sub {w w':World} {a:PW} {b q:Nat} (h:lO w a b q) (hs:Cells w w'):lO w' a b q:=⟨hs _ _ h.c0,hs _ _ h.c1⟩
theorem dE.sub {w w':World} {l:List PW} {v:Value} (h:dE w none l v) (hs:Cells w w'):dE w' none l v:=by
 obtain⟨ka,kb,aD,aK,rfl,y2,y3⟩:=h;exact⟨ka,kb,aD,aK,rfl,y2.imp id (fun z=>⟨z.1,eP.any⟩),fun i hi=>(y3 i hi).sub hs⟩
theorem yh {w:World} {B:Nat} {e:TypeId} {n:Nat} {α:Type} {l:List α} {cs:List (List Value)} {g cap m:Nat} (hown:w.ownsRow B e n (.slice (some ⟨g,0,none⟩) m cap) m cs.flatten) (h1:cs.length=l.length) (hm:m=l.length) (hl:∀i (h:i<cs.length),cs[i].length=n) (k:Nat) (hk:k<l.length) (j:Nat) (hj:j<n):w.cell? ⟨g,k*n+j,none⟩=(cs[k]'(by omega))[j]? :=by
 subst hm;have hlt:k*n+j<l.length*n:=by
  calc k*n+j<k*n+n:=by omega
   _=(k+1)*n:=by rw[Nat.add_mul];omega
   _≤l.length*n:=Nat.mul_le_mul_right _ (by omega)
 rw[hown.cellAt _ hlt,gw hl k (by omega) j hj]
theorem nW {α:Type} {w w2:World} {B:Nat} {e:TypeId} {n:Nat} {R:α→Nat→Nat→Prop} {Rc:α→List Value→Prop} {l:List α} {cs:List (List Value)} {v:Value} {m:Nat} (hown:w.ownsRow B e n v m cs.flatten) (h1:cs.length=l.length) (hm:m=l.length) (h2:∀i (h:i<l.length) (h':i<cs.length),cs[i].length=n∧Rc l[i] cs[i])
  (hR:∀a c g q,B≤g→Rc a c→(∀j,j<n→w.cell? ⟨g,q+j,none⟩=c[j]?)→R a g q):ei w2 none e n R l v:=by
 have hl:∀i (h:i<cs.length),cs[i].length=n:=fun i h=>(h2 i (by omega) h).1
 have ho:=hown.2;rcases ho with⟨rfl,h0⟩|⟨g,cap,cur,rfl,hg,_⟩
 ·have hl0:l.length=0:=by omega
  exact⟨none,0,0,0,by rw[hl0],.inl ⟨hl0,rfl⟩,fun i hi=>by omega⟩
 ·refine⟨_,g,0,cap,by rw[hm],.inr ⟨rfl,eP.any⟩,fun i hi=>?_⟩;refine hR _ _ g _ hg (h2 i hi (by omega)).2 (fun j hj=>?_);rw[Nat.zero_add];exact yh hown h1 hm hl i hi j hj
def YO (a:GH) (c:List Value):Prop:=∃t,c=[.int .i64 t,.string a.name,.int .u8 a.type,.int .u32 a.len,.int .u32 a.word]
theorem ji.yi {w:World} {a:GH} {b q:Nat} (h:ji w false a b q):∃c:List Value,c.length=5∧YO a c∧(∀u∈c,u.oneCell'=true)∧∀j u,c[j]? =some u→w.cell? ⟨b,q+j,none⟩=some u:=by
 obtain⟨⟨t,y0,_⟩,y1,y2,y3,y4⟩:=h;refine⟨_,rfl,⟨t,rfl⟩,by simp[Value.oneCell'],fun j u hj=>?_⟩
 match j,hj with
 |0,hj=>simp at hj;subst hj;exact y0
 |1,hj=>simp at hj;subst hj;exact y1
 |2,hj=>simp at hj;subst hj;exact y2
 |3,hj=>simp at hj;subst hj;exact y3
 |4,hj=>simp at hj;subst hj;exact y4
 |j+5,hj=>simp at hj
def OD (w0:World) (n1:Nat) (wr:World) (d:Bool) (a:HH) (c:List Value):Prop:=
 ∃t v,c=[.int .i64 t,.string a.name,v,.int .u8 a.type,.int .u32 a.number]∧if d then dE (aA wr (fN n1)) none a.params v else dE w0 none a.params v
theorem OD.on {w0 wr w':World} {n1:Nat} {d:Bool} {a:HH} {c:List Value} (h:OD w0 n1 wr d a c) (hs:Cells (aA wr (fN n1)) (aA w' (fN n1))):OD w0 n1 w' d a c:=by
 obtain⟨t,v,hc,hv⟩:=h;refine⟨t,v,hc,?_⟩;cases d
 ·exact hv
 ·exact dE.sub hv hs
theorem gM.yi {w:World} {a:HH} {b q:Nat} (h:gM w false none a b q):∃c:List Value,c.length=5∧OD w 0 w false a c∧(∀u∈c,u.oneCell'=true)∧∀j u,c[j]? =some u→w.cell? ⟨b,q+j,none⟩=some u:=by
 obtain⟨⟨t,y0,_⟩,y1,⟨v,y2,hv⟩,y3,y4⟩:=h;have hv2:=hv;obtain⟨ka,kc,rfl⟩:=hv2.ay;refine⟨_,rfl,⟨t,_,rfl,hv⟩,by simp[Value.oneCell'],fun j u hj=>?_⟩
 match j,hj with
 |0,hj=>simp at hj;subst hj;exact y0
 |1,hj=>simp at hj;subst hj;exact y1
 |2,hj=>simp at hj;subst hj;exact y2
 |3,hj=>simp at hj;subst hj;exact y3
 |4,hj=>simp at hj;subst hj;exact y4
 |j+5,hj=>simp at hj
def OG (w0:World) (n1:Nat) (wr:World) (d d':Bool) (a:FH) (c:List Value):Prop:=
 ∃t v x,c=[.int .i64 t,.string a.name,v,.int .u8 a.type,.bool a.opn,x]∧(if d then dE (aA wr (fN n1)) none a.params v else dE w0 none a.params v)∧
  if d' then dR (aA wr (fN n1)) false none a.body x else dR w0 false none a.body x
theorem OG.on {w0 wr w':World} {n1:Nat} {d d':Bool} {a:FH} {c:List Value} (h:OG w0 n1 wr d d' a c) (hs:Cells (aA wr (fN n1)) (aA w' (fN n1))):OG w0 n1 w' d d' a c:=by
 obtain⟨t,v,x,hc,hv,hx⟩:=h;refine⟨t,v,x,hc,?_,?_⟩
 ·cases d
  ·exact hv
  ·exact dE.sub hv hs
 ·cases d'
  ·exact hx
  ·exact dR.sub hx hs
theorem gN.yi {w:World} {a:FH} {b q:Nat} (h:gN w false none a b q):∃c:List Value,c.length=6∧OG w 0 w false false a c∧(∀u∈c,u.oneCell'=true)∧∀j u,c[j]? =some u→w.cell? ⟨b,q+j,none⟩=some u:=by
 obtain⟨⟨t,y0,_⟩,y1,⟨v,y2,hv⟩,y3,y4,⟨x,y5,hx⟩⟩:=h;have hv2:=hv;have hx2:=hx;obtain⟨ka,kc,rfl⟩:=hv2.ay;obtain⟨xa,xc,rfl⟩:=hx2.ay;refine⟨_,rfl,⟨t,_,_,rfl,hv,hx⟩,by simp[Value.oneCell'],fun j u hj=>?_⟩
 match j,hj with
 |0,hj=>simp at hj;subst hj;exact y0
 |1,hj=>simp at hj;subst hj;exact y1
 |2,hj=>simp at hj;subst hj;exact y2
 |3,hj=>simp at hj;subst hj;exact y3
 |4,hj=>simp at hj;subst hj;exact y4
 |5,hj=>simp at hj;subst hj;exact y5
 |j+6,hj=>simp at hj
theorem params71 (l:List PW) (v:Value) (w:World) (hs:l.length≤100000000) (hv:dE w none l v):
  Calls Tryz.prog 71 #[v] w fun e w'=>∃v',e=.returned v'∧dE (aA w' (fN w.heap.size)) none l v'∧Below w.heap.size w w':=by
 have hv0:=hv;obtain⟨ka,kc,rfl⟩:=hv0.ay;obtain⟨cs,c1,c2,c3,-,c5,c6⟩:=ei.cells (by omega) hv DM (fun a b q h=>h.cells);refine(Mc ka l.length kc cs.flatten w c5 (af c6) (af c3) hs).mono ?_;rintro e w' ⟨v',rfl,hown,hb⟩;refine⟨v',rfl,nW hown c1 rfl c2 (fun a c g q hg hc hcell=>?_),hb⟩;refine lO.of hc (fun j hj=>?_);rw[dx,if_pos (by simpa using hg)];exact hcell j hj
theorem ji.sub {w w':World} {a:GH} {b q:Nat} (h:ji w false a b q) (hs:Cells w w'):ji w' false a b q:=by
 obtain⟨⟨t,y0,jQ⟩,y1,y2,y3,y4⟩:=h;exact⟨⟨t,hs _ _ y0,jQ⟩,hs _ _ y1,hs _ _ y2,hs _ _ y3,hs _ _ y4⟩
theorem gM.sub {w w':World} {a:HH} {b q:Nat} (h:gM w false none a b q) (hs:Cells w w'):gM w' false none a b q:=by
 obtain⟨⟨t,y0,jQ⟩,y1,⟨v,y2,lj⟩,y3,y4⟩:=h;exact⟨⟨t,hs _ _ y0,jQ⟩,hs _ _ y1,⟨v,hs _ _ y2,dE.sub lj hs⟩,hs _ _ y3,hs _ _ y4⟩
theorem gN.sub {w w':World} {a:FH} {b q:Nat} (h:gN w false none a b q) (hs:Cells w w'):gN w' false none a b q:=by
 obtain⟨⟨t,y0,jQ⟩,y1,⟨v,y2,lj⟩,y3,y4,⟨x,y5,rj⟩⟩:=h;exact⟨⟨t,hs _ _ y0,jQ⟩,hs _ _ y1,⟨v,hs _ _ y2,dE.sub lj hs⟩,hs _ _ y3,hs _ _ y4,⟨x,hs _ _ y5,dR.sub rj hs⟩⟩
theorem ei.sub {α:Type} {w w':World} {t:TypeId} {n:Nat} {R R':α→Nat→Nat→Prop} {l:List α} {v:Value} (h:ei w none t n R l v) (hR:∀a b q,R a b q→R' a b q):ei w' none t n R' l v:=by
 obtain⟨ka,kb,aD,aK,rfl,y2,y3⟩:=h;exact⟨ka,kb,aD,aK,rfl,y2.imp id (fun z=>⟨z.1,eP.any⟩),fun i hi=>hR _ _ _ (y3 i hi)⟩
theorem jR.sub {w w':World} {u:UT} {v:Value} (h:jR w false none u v) (hs:Cells w w'):jR w' false none u v:=by
 obtain⟨vg,vh,vf,rfl,h1,h2,h3⟩:=h;exact⟨vg,vh,vf,rfl,ei.sub h1 (fun _ _ _ x=>x.sub hs),ei.sub h2 (fun _ _ _ x=>x.sub hs),ei.sub h3 (fun _ _ _ x=>x.sub hs)⟩
theorem aP {w:World} {B:Nat} {e:TypeId} {n m:Nat} {v:Value} {xs:List Value} (h:w.ownsRow B e n v m xs):∃va vc,v=.slice va m vc∧(m=0∨∃g,va=some ⟨g,0,none⟩):=by
 rcases h.2 with⟨rfl,hn⟩|⟨g,cap,cur,rfl,_⟩
 ·exact⟨none,0,by rw[hn],.inl hn⟩
 ·exact⟨_,_,rfl,.inr ⟨g,rfl⟩⟩
theorem mz {w w':World} {n:Nat} (h:Below w.heap.size w w'):Cells (aA w (fN n)) (aA w' (fN n)):=bt fun a u hp hc=>⟨hp,ag hc h⟩
theorem dw {w:World} {n g i:Nat} {u:Value} (hg:g<n):Cells (aA w (fN n)) (aA (w.setCell ⟨g,i,none⟩ u) (fN n)):=bt fun a v hp hc=>⟨hp,by
 rw[eu _ _ _ _ _ (by simp at hp;omega)];exact hc⟩
theorem pg {w:World} {b1 b2:Nat} {e1 e2:TypeId} {s1 s2 n1 n2:Nat} {v1 v2:Value} {x1 x2:List Value} (h1:w.ownsRow b1 e1 s1 v1 n1 x1) (h2:w.ownsRow b2 e2 s2 v2 n2 x2) (he:e1≠e2):v1.ownBlock=none∨v1.ownBlock≠v2.ownBlock:=by
 rcases h1.2 with⟨rfl,_⟩|⟨g,cap,cur,rfl,_,hg,_⟩
 ·exact .inl rfl
 ·rcases h2.2 with⟨rfl,_⟩|⟨g',cap',cur',rfl,_,Ks,_⟩
  ·exact .inr (by simp[Value.ownBlock])
  ·refine .inr fun e=>?_
   simp only[Value.ownBlock,Option.some.injEq] at e;subst e;rw[hg] at Ks;simp at Ks;exact he Ks.2
theorem cZ.ne {α β:Type} {w:World} {B B':Nat} {e e':TypeId} {n n':Nat} {R:Nat→α→List Value→Prop} {R':Nat→β→List Value→Prop} {l:List α} {l':List β} {v v':Value} (h:cZ w B e n R l v) (h':cZ w B' e' n' R' l' v') (he:e≠e'):v.ownBlock=none∨v.ownBlock≠v'.ownBlock:=by
 obtain⟨_,_,_,h3⟩:=h;obtain⟨_,_,_,k3⟩:=h';exact pg h3 k3 he
theorem cZ.box {α:Type} {w:World} {B:Nat} {e:TypeId} {n:Nat} {R:Nat→α→List Value→Prop} {l:List α} {v:Value} (h:cZ w B e n R l v) {q:Nat} {cs:Array Value} {t:TypeId} (hx:Bx w q cs t) (he:t≠e):some q≠v.ownBlock:=by
 obtain⟨_,_,_,h3⟩:=h;exact hx.not_row h3 he
structure qN (w:World) (u:UT) (n n1 B:Nat) (box:Array Value) (vg vh vf:Value) (kh kf kb:Nat) (wr:World):Prop where
 b1:Bx wr n box 26
 b2:Bx wr (n+1) #[.slice none 0 0,.slice none 0 0,.slice none 0 0] 26
 b3:Bx wr B #[vg,vh,vf] 26
 hs:cZ wr (n+1+1) 101 5 (fun i=>OD w n1 wr (decide (i<kh))) u.hs vh
 fs:cZ wr (n+1+1) 43 6 (fun i=>OG w n1 wr (decide (i<kf)) (decide (i<kb))) u.fs vf
 gs:cZ wr (n+1+1) 105 5 (fun _=>YO) u.gs vg
 below:Below n w wr
 lt:n+1<B
 hlt:∀g,vh.ownBlock=some g→g<n1
 nw:∀g,vf.ownBlock=some g→g<n1
 VF:n+1+1≤n1
 QI:n1≤wr.heap.size
 size:n=w.heap.size
section
variable {w wr w':World} {u:UT} {n n1 B:Nat} {box:Array Value} {vg vh vf:Value} {kh kf kb:Nat}
theorem qN.on (h:qN w u n n1 B box vg vh vf kh kf kb wr) (hb:Below wr.heap.size wr w'):qN w u n n1 B box vg vh vf kh kf kb w':=
  ⟨h.b1.on (ah hb) (by simp),h.b2.on (ah hb) (by simp),h.b3.on (ah hb) (by simp),h.hs.on (ah hb) (by cases hq:vh.ownBlock;exact .inl rfl;exact .inr (by simp)) (fun i a c x=>x.on (mz hb)),
   h.fs.on (ah hb) (by cases hq:vf.ownBlock;exact .inl rfl;exact .inr (by simp)) (fun i a c x=>x.on (mz hb)),h.gs.on (ah hb) (by cases hq:vg.ownBlock;exact .inl rfl;exact .inr (by simp)) (fun i a c x=>x),h.below.trans (hb.mono (by have:=h.b1.lt;omega)),h.lt,h.hlt,h.nw,h.VF,Nat.le_trans h.QI hb.size,h.size⟩
theorem qN.putH {g cap m:Nat} (h:qN w u n n1 B box vg (.slice (some ⟨g,0,none⟩) m cap) vf kh kf kb wr) (hm:m=u.hs.length) (hk:kh<u.hs.length) {v:Value} (hv:dE (aA wr (fN n1)) none u.hs[kh].params v):
  qN w u n n1 B box vg (.slice (some ⟨g,0,none⟩) m cap) vf (kh+1) kf kb (wr.setCell ⟨g,kh*5+2,none⟩ v):=by
 have hg:=aj wr ⟨g,kh*5+2,none⟩ v;have hlt:=h.hlt g rfl;refine⟨h.b1.on hg (h.hs.box h.b1 (by decide)),h.b2.on hg (h.hs.box h.b2 (by decide)),h.b3.on hg (h.hs.box h.b3 (by decide)),?_,h.fs.on hg (h.fs.ne h.hs (by decide)) (fun i a c x=>x.on (dw hlt)),h.gs.on hg (h.gs.ne h.hs (by decide)) (fun i a c x=>x),
  h.below.grown hg (by have:=h.b1.lt;omega) (fun q e=>by cases e;have:=(h.hs.lt g rfl).1;show n≤g;omega),h.lt,h.hlt,h.nw,h.VF,by simpa[World.setCell] using h.QI,h.size⟩
 refine h.hs.store hm kh hk 2 (by omega) v (fun i a c hi hx=>?_) (fun c hx=>?_)
 ·have e1:decide (i<kh+1)=decide (i<kh):=by simp;omega
  rw[e1];exact hx.on (dw hlt)
 ·obtain⟨t,v0,rfl,-⟩:=hx;exact⟨t,v,rfl,by simpa using dE.sub hv (dw hlt)⟩
theorem qN.putF {g cap m:Nat} (h:qN w u n n1 B box vg vh (.slice (some ⟨g,0,none⟩) m cap) kh kf kf wr) (hm:m=u.fs.length) (hk:kf<u.fs.length) {v:Value} (hv:dE (aA wr (fN n1)) none u.fs[kf].params v):
  qN w u n n1 B box vg vh (.slice (some ⟨g,0,none⟩) m cap) kh (kf+1) kf (wr.setCell ⟨g,kf*6+2,none⟩ v):=by
 have hg:=aj wr ⟨g,kf*6+2,none⟩ v;have hlt:=h.nw g rfl;refine⟨h.b1.on hg (h.fs.box h.b1 (by decide)),h.b2.on hg (h.fs.box h.b2 (by decide)),h.b3.on hg (h.fs.box h.b3 (by decide)),h.hs.on hg (h.hs.ne h.fs (by decide)) (fun i a c x=>x.on (dw hlt)),?_,h.gs.on hg (h.gs.ne h.fs (by decide)) (fun i a c x=>x),
  h.below.grown hg (by have:=h.b1.lt;omega) (fun q e=>by cases e;have:=(h.fs.lt g rfl).1;show n≤g;omega),h.lt,h.hlt,h.nw,h.VF,by simpa[World.setCell] using h.QI,h.size⟩
 refine h.fs.store hm kf hk 2 (by omega) v (fun i a c hi hx=>?_) (fun c hx=>?_)
 ·have e1:decide (i<kf+1)=decide (i<kf):=by simp;omega
  rw[e1];exact hx.on (dw hlt)
 ·obtain⟨t,v0,x,rfl,-,hx⟩:=hx;refine⟨t,v,x,rfl,by simpa using dE.sub hv (dw hlt),?_⟩;simp only[Nat.lt_irrefl,decide_false,Bool.false_eq_true,if_false] at hx⊢;exact hx
theorem qN.putB {g cap m:Nat} (h:qN w u n n1 B box vg vh (.slice (some ⟨g,0,none⟩) m cap) kh (kf+1) kf wr) (hm:m=u.fs.length) (hk:kf<u.fs.length) {v:Value} (hv:dR (aA wr (fN n1)) false none u.fs[kf].body v):
  qN w u n n1 B box vg vh (.slice (some ⟨g,0,none⟩) m cap) kh (kf+1) (kf+1) (wr.setCell ⟨g,kf*6+5,none⟩ v):=by
 have hg:=aj wr ⟨g,kf*6+5,none⟩ v;have hlt:=h.nw g rfl;refine⟨h.b1.on hg (h.fs.box h.b1 (by decide)),h.b2.on hg (h.fs.box h.b2 (by decide)),h.b3.on hg (h.fs.box h.b3 (by decide)),h.hs.on hg (h.hs.ne h.fs (by decide)) (fun i a c x=>x.on (dw hlt)),?_,h.gs.on hg (h.gs.ne h.fs (by decide)) (fun i a c x=>x),
  h.below.grown hg (by have:=h.b1.lt;omega) (fun q e=>by cases e;have:=(h.fs.lt g rfl).1;show n≤g;omega),h.lt,h.hlt,h.nw,h.VF,by simpa[World.setCell] using h.QI,h.size⟩
 refine h.fs.store hm kf hk 5 (by omega) v (fun i a c hi hx=>?_) (fun c hx=>?_)
 ·have e1:decide (i<kf+1)=decide (i<kf):=by simp;omega
  have hx2:=hx.on (dw (i:=kf*6+5) (u:=v) hlt);rw[←e1] at hx2;rwa[e1,←e1]
 ·obtain⟨t,v0,x,rfl,hp,-⟩:=hx;simp only[Nat.lt_succ_self,decide_true,if_true] at hp⊢;exact⟨t,v0,v,rfl,dE.sub hp (dw hlt),by simpa using dR.sub hv (dw hlt)⟩
theorem qN.done (h:qN w u n n1 B box vg vh vf u.hs.length u.fs.length u.fs.length wr):jR (aA wr (fN (n+1+1))) false none u (.agg #[vg,vh,vf]):=by
 have hm:Cells (aA wr (fN n1)) (aA wr (fN (n+1+1))):=bt fun a v hp hc=>⟨by simp at hp⊢;have:=h.VF;omega,hc⟩
 refine⟨vg,vh,vf,rfl,?_,?_,?_⟩
 ·obtain⟨cs,d1,d2,d3⟩:=h.gs;refine nW d3 d1 rfl d2 (fun a c g q hg hc hcell=>?_);obtain⟨t,rfl⟩:=hc;have hb:∀j v,j<5→([Value.int .i64 t,.string a.name,.int .u8 a.type,.int .u32 a.len,.int .u32 a.word]:List Value)[j]? =some v→(aA wr (fN (n+1+1))).cell? ⟨g,q+j,none⟩=some v:=fun j v hj hv=>by rw[dx,if_pos (by simpa using hg),hcell j hj,hv]
  exact⟨⟨t,hb 0 _ (by omega) rfl,fun e=>by cases e⟩,hb 1 _ (by omega) rfl,hb 2 _ (by omega) rfl,hb 3 _ (by omega) rfl,hb 4 _ (by omega) rfl⟩
 ·obtain⟨cs,d1,d2,d3⟩:=h.hs;refine nW (Rc:=OD w n1 wr true) d3 d1 rfl (fun i hi hi'=>⟨(d2 i hi hi').1,by have h3:=(d2 i hi hi').2;have e:decide (i<u.hs.length)=true:=(by simpa using hi);simp only[e] at h3;exact h3⟩) (fun a c g q hg hc hcell=>?_);obtain⟨t,v,rfl,hv⟩:=hc;have hb:∀j u,j<5→([Value.int .i64 t,.string a.name,v,.int .u8 a.type,.int .u32 a.number]:List Value)[j]? =some u→(aA wr (fN (n+1+1))).cell? ⟨g,q+j,none⟩=some u:=fun j u hj hv=>by rw[dx,if_pos (by simpa using hg),hcell j hj,hv]
  exact⟨⟨t,hb 0 _ (by omega) rfl,fun e=>by cases e⟩,hb 1 _ (by omega) rfl,⟨v,hb 2 _ (by omega) rfl,dE.sub hv hm⟩,hb 3 _ (by omega) rfl,hb 4 _ (by omega) rfl⟩
 ·obtain⟨cs,d1,d2,d3⟩:=h.fs;refine nW (Rc:=OG w n1 wr true true) d3 d1 rfl (fun i hi hi'=>⟨(d2 i hi hi').1,by have h3:=(d2 i hi hi').2;have e:decide (i<u.fs.length)=true:=(by simpa using hi);simp only[e] at h3;exact h3⟩) (fun a c g q hg hc hcell=>?_);obtain⟨t,v,x,rfl,hv,hx⟩:=hc;have hb:∀j u,j<6→([Value.int .i64 t,.string a.name,v,.int .u8 a.type,.bool a.opn,x]:List Value)[j]? =some u→(aA wr (fN (n+1+1))).cell? ⟨g,q+j,none⟩=some u:=fun j u hj hv=>by rw[dx,if_pos (by simpa using hg),hcell j hj,hv]
  exact⟨⟨t,hb 0 _ (by omega) rfl,fun e=>by cases e⟩,hb 1 _ (by omega) rfl,⟨v,hb 2 _ (by omega) rfl,dE.sub hv hm⟩,hb 3 _ (by omega) rfl,hb 4 _ (by omega) rfl,⟨x,hb 5 _ (by omega) rfl,dR.sub hx hm⟩⟩
end
end
section
open Go.Shelf
theorem aT {a b c:World} (h:Below a.heap.size a b) (k:Below b.heap.size b c):Below a.heap.size a c:=h.trans (k.mono h.size)
theorem dD {w:World} {B B':Nat} {e:TypeId} {n m:Nat} {v:Value} {xs:List Value} (h:w.ownsRow B e n v m xs) (hb:B'≤B):w.ownsRow B' e n v m xs:=by
 obtain⟨h1,h2⟩:=h;refine⟨h1,h2.imp id ?_⟩;rintro⟨g,cap,cur,a,b,c⟩;exact⟨g,cap,cur,a,Nat.le_trans hb b,c⟩
theorem qN.start {w w5:World} {u:UT} {B:Nat} {box:Array Value} {vg vh vf:Value} {OH hcs OI:List (List Value)} (b1:Bx w5 w.heap.size box 26) (b2:Bx w5 (w.heap.size+1) #[.slice none 0 0,.slice none 0 0,.slice none 0 0] 26) (b3:Bx w5 B #[vg,vh,vf] 26)
    (og:w5.ownsRow (w.heap.size+1+1) 105 5 vg u.gs.length OH.flatten) (oh:w5.ownsRow (w.heap.size+1+1) 101 5 vh u.hs.length hcs.flatten) (of:w5.ownsRow (w.heap.size+1+1) 43 6 vf u.fs.length OI.flatten)
    (GC:OH.length=u.gs.length∧∀i (h:i<u.gs.length) (h':i<OH.length),OH[i].length=5∧YO u.gs[i] OH[i])
    (HC:hcs.length=u.hs.length∧∀i (h:i<u.hs.length) (h':i<hcs.length),hcs[i].length=5∧OD w 0 w false u.hs[i] hcs[i])
    (FC:OI.length=u.fs.length∧∀i (h:i<u.fs.length) (h':i<OI.length),OI[i].length=6∧OG w 0 w false false u.fs[i] OI[i])
    (below:Below w.heap.size w w5) (lt:w.heap.size+1<B) (hs:w.heap.size+1+1≤w5.heap.size):qN w u w.heap.size w5.heap.size B box vg vh vf 0 0 0 w5:=
  ⟨b1,b2,b3,⟨hcs,HC.1,fun i h h'=>⟨(HC.2 i h h').1,by obtain⟨t,v,hc,hv⟩:=(HC.2 i h h').2;exact⟨t,v,hc,by simpa using hv⟩⟩,oh⟩,
   ⟨OI,FC.1,fun i h h'=>⟨(FC.2 i h h').1,by obtain⟨t,v,x,hc,hv,hx⟩:=(FC.2 i h h').2;exact⟨t,v,x,hc,by simpa using hv,by simpa using hx⟩⟩,of⟩,
   ⟨OH,GC.1,fun i h h'=>GC.2 i h h',og⟩,below,lt,fun g hg=>(oh.lt g hg).2,fun g hg=>(of.lt g hg).2,hs,Nat.le_refl _,rfl⟩
theorem VG {G:Prop} (F:Option Addr→Nat→Option Addr→Nat→Option Addr→Nat→Nat→World→Prop) {X:Option Addr→Nat→Option Addr→Nat→Option Addr→Nat→Nat→World→Prop} (h1:(∀a b c d e f B w,F a b c d e f B w→X a b c d e f B w)→G) (h2:∀a b c d e f B w,F a b c d e f B w→X a b c d e f B w):G:=h1 h2
theorem H9 (u:UT) (v:Value) (w:World) (ok:u.Ok) (hv:jR w false none u v):
  Calls Tryz.prog 39 #[v] w fun e w'=>∃v',e=.returned v'∧jR (aA w' (fN w.heap.size)) false none u v'∧Below w.heap.size w w':=by
 have hV:=af hv;have OK:=af ok;obtain⟨vg,vh,vf,rfl,hg,hh,hf⟩:=hv;obtain⟨ga,gc,rfl⟩:=hg.shape;obtain⟨ha,hc,rfl⟩:=hh.shape;obtain⟨fa,fc,rfl⟩:=hf.shape;obtain⟨OH,g1,g2,g3,-,g5,g6⟩:=ei.cells (by omega) hg YO (fun a b q h=>h.yi);obtain⟨hcs,h1,h2,h3,-,h5,h6⟩:=ei.cells (by omega) hh (OD w 0 w false) (fun a b q h=>h.yi);obtain⟨OI,f1,f2,f3,-,f5,f6⟩:=ei.cells (by omega) hf (OG w 0 w false false) (fun a b q h=>h.yi);have GC:=af (And.intro g1 g2);have HC:=af (And.intro h1 h2);have FC:=af (And.intro f1 f2);have cg:=af (fun w1 (hb:Below w.heap.size w w1)=>L9 ga u.gs.length gc OH.flatten w1 g5 (af (g6.imp id (fun⟨a,h1,h2⟩=>⟨a,h1,fun j u hj=>ag (h2 j u hj) hb⟩))) (af g3) ok.g);have ch:=af (fun w1 (hb:Below w.heap.size w w1)=>Ma ha u.hs.length hc hcs.flatten w1 h5 (af (h6.imp id (fun⟨a,h1,h2⟩=>⟨a,h1,fun j u hj=>ag (h2 j u hj) hb⟩))) (af h3) ok.h);have cf:=af (fun w1 (hb:Below w.heap.size w w1)=>Mb fa u.fs.length fc OI.flatten w1 f5 (af (f6.imp id (fun⟨a,h1,h2⟩=>⟨a,h1,fun j u hj=>ag (h2 j u hj) hb⟩))) (af f3) ok.f);have k1:=ok.g;have k2:=ok.h;have k3:=ok.f;obtain⟨mg,iY⟩:∃m,m=u.gs.length:=⟨_,rfl⟩;obtain⟨mh,j1⟩:∃m,m=u.hs.length:=⟨_,rfl⟩;obtain⟨mf,iw⟩:∃m,m=u.fs.length:=⟨_,rfl⟩;rw[←iY] at cg k1;rw[←j1] at ch k2;rw[←iw] at cf k3;rw[←iY,←j1,←iw];have MG:=af iY;have MH:=af j1;have MF:=af iw;have X1:Hid (Bx ((w.alloc (.cells #[.slice ga mg gc,.slice ha mh hc,.slice fa mf fc] 26)).alloc (.cells #[.slice none 0 0,.slice none 0 0,.slice none 0 0] 26)) w.heap.size #[.slice ga mg gc,.slice ha mh hc,.slice fa mf fc] 26):=af ((Bx.new w _ 26).al _);have X2:Hid (Bx ((w.alloc (.cells #[.slice ga mg gc,.slice ha mh hc,.slice fa mf fc] 26)).alloc (.cells #[.slice none 0 0,.slice none 0 0,.slice none 0 0] 26)) (w.heap.size+1) #[.slice none 0 0,.slice none 0 0,.slice none 0 0] 26):=af (by simpa using Bx.new (w.alloc (.cells #[.slice ga mg gc,.slice ha mh hc,.slice fa mf fc] 26)) #[.slice none 0 0,.slice none 0 0,.slice none 0 0] 26);have hB:=af (show Below w.heap.size w ((w.alloc (.cells #[.slice ga mg gc,.slice ha mh hc,.slice fa mf fc] 26)).alloc (.cells #[.slice none 0 0,.slice none 0 0,.slice none 0 0] 26)) by(repeat(first|exact Below.refl _ _|refine Below.drew ?_ |refine Below.alloc ?_ (by simp<;>omega) _)));have hsz:((w.alloc (.cells #[.slice ga mg gc,.slice ha mh hc,.slice fa mf fc] 26)).alloc (.cells #[.slice none 0 0,.slice none 0 0,.slice none 0 0] 26)).heap.size=w.heap.size+1+1:=by simp
 have kW:=af hsz;clear ok hg hh hf g1 g2 g3 g5 g6 h1 h2 h3 h5 h6 f1 f2 f3 f5 f6 iY j1 iw hsz;go_enter Tryz.func39,Tryz.ntmps39;go_wp2_with fail
 generalize hW2:((w.alloc (.cells #[.slice ga mg gc,.slice ha mh hc,.slice fa mf fc] 26)).alloc (.cells #[.slice none 0 0,.slice none 0 0,.slice none 0 0] 26))=W2 at*;have p0:=X1.cell 0;have p1:=X1.cell 1;have p2:=X1.cell 2;simp at p0 p1 p2;clear hW2;apply VG (fun pj pV nY pn ng oL B w5=>(mg=0∨∃g,pj=some ⟨g,0,none⟩)∧(mh=0∨∃g,nY=some ⟨g,0,none⟩)∧(mf=0∨∃g,ng=some ⟨g,0,none⟩)∧qN w u w.heap.size w5.heap.size B #[.slice ga mg gc,.slice ha mh hc,.slice fa mf fc] (.slice pj mg pV) (.slice nY mh pn) (.slice ng mf oL) 0 0 0 w5)
 ·intro H;have HH:=af H;clear H;refine wp_region_held_drew (S:=(Below W2.heap.size W2)) (by kernel_rfl) (Below.refl _ _).drew (fun hHeld=>?_);refine tk 0 ?_;refine tk 1 ?_ (hy:=by intro w' hSw;have q1:=ag p0 hSw;go_simp;(try with_reducible rfl));refine tk 3 ?_;refine tk 4 ?_ (hy:=by intro w' hSw;have q1:=ag p1 hSw;go_simp;(try with_reducible rfl));refine tk 6 ?_;refine tk 7 ?_ (hy:=by intro w' hSw;have q1:=ag p2 hSw;go_simp;(try with_reducible rfl));have T0:=af (Below.refl W2.heap.size W2).drew;refine wpAnyH_ready (rs:=[2,10]) (by kernel_rfl) (by simp) ?_;refine AllReadyH.cons (by simp only[List.getElem?_toArray,List.getElem?_cons_succ,List.getElem?_cons_zero];rfl) (fun K hK=>?_) (AllReadyH.cons (by simp only[List.getElem?_toArray,List.getElem?_cons_succ,List.getElem?_cons_zero];rfl) (fun K hK=>?_) AllReadyH.nil)
  ·go_simp;go_at_call 68;refine(cg.out W2.drew (hB.trans ((T0.out).mono hB.size))).mono ?_;rintro e w2 ⟨vg,rfl,og,dS⟩;have T1:=af dS;have cT:=aT (T0.out) T1.out;clear hHeld dS;obtain⟨pj,pV,rfl,Te⟩:=aP og;have Mg:=af og;clear og;go_wp2_with fail
   refine hK.out _ _ cT (fun hHeld=>?_);clear hK K cT
   try simp only[bK,bL,bM,bN,bO]
   refine wpAnyH_ready (rs:=[5,10]) (by kernel_rfl) (by simp) ?_;refine AllReadyH.cons (by simp only[List.getElem?_toArray,List.getElem?_cons_succ,List.getElem?_cons_zero];rfl) (fun K hK=>?_) (AllReadyH.cons (by simp only[List.getElem?_toArray,List.getElem?_cons_succ,List.getElem?_cons_zero];rfl) (fun K hK=>?_) AllReadyH.nil)
   ·go_simp;go_at_call 69;refine(ch.out w2 (hB.trans ((aT (T0.out) T1.out).mono hB.size))).mono ?_;rintro e w3 ⟨vh,rfl,oh,dS⟩;have T2:=af dS;have cT:=aT (aT (T0.out) T1.out) T2.out;clear hHeld dS;obtain⟨nY,pn,rfl,OJ⟩:=aP oh;have Kt:=af oh;clear oh;go_wp2_with fail
    refine hK.out _ _ cT (fun hHeld=>?_);clear hK K cT
    try simp only[bK,bL,bM,bN,bO]
    refine wpAnyH_ready (rs:=[8,10]) (by kernel_rfl) (by simp) ?_;refine AllReadyH.cons (by simp only[List.getElem?_toArray,List.getElem?_cons_succ,List.getElem?_cons_zero];rfl) (fun K hK=>?_) (AllReadyH.cons (by simp only[List.getElem?_toArray,List.getElem?_cons_succ,List.getElem?_cons_zero];rfl) (fun K hK=>?_) AllReadyH.nil)
    ·go_simp;go_at_call 70;refine(cf.out w3 (hB.trans ((aT (aT (T0.out) T1.out) T2.out).mono hB.size))).mono ?_;rintro e w4 ⟨vf,rfl,of,dS⟩;have T3:=af dS;have cT:=aT (aT (aT (T0.out) T1.out) T2.out) T3.out;clear hHeld dS;obtain⟨ng,oL,rfl,Mh⟩:=aP of;have Ia:=af of;clear of;go_wp2_with fail
     refine hK.out _ _ cT (fun hHeld=>?_);clear hK K cT
     try simp only[bK,bL,bM,bN,bO]
     refine tk 9 ?_;refine tr 10 fun K hK=>?_
     go_simp;obtain⟨B,vT⟩:∃B,B=w4.heap.size:=⟨_,rfl⟩;have lU:=af (show Bx (w4.alloc (.cells #[.slice none 0 0,.slice none 0 0,.slice none 0 0] 26)) B #[.slice none 0 0,.slice none 0 0,.slice none 0 0] 26 by rw[vT];exact Bx.new _ _ _);have TA:=af ((Below.refl w4.heap.size w4).alloc (Nat.le_refl _) (.cells #[.slice none 0 0,.slice none 0 0,.slice none 0 0] 26));have qO:=af (show W2.heap.size≤B by rw[vT];exact(aT (aT (aT (T0.out) T1.out) T2.out) T3.out).size);have cT:=aT (aT (aT (aT (T0.out) T1.out) T2.out) T3.out) TA.out;rw[←vT];clear hHeld vT;refine hK.out _ _ cT (fun hHeld=>?_);clear hK K cT
     try simp only[bK,bL,bM,bN,bO]
     generalize Ib:w4.alloc (.cells #[.slice none 0 0,.slice none 0 0,.slice none 0 0] 26)=wa at*;clear Ib;have jr:=af (lU.out);have z0:=jr.cell 0;have z1:=jr.cell 1;have z2:=jr.cell 2;have f0:=jr.free 0;have f1:=jr.free 1;have f2:=jr.free 2;simp at z0 z1 z2;have G3:=af (aO (aj wa ⟨B,0,none⟩ (.slice pj mg pV)) (aO (aj _ ⟨B,1,none⟩ (.slice nY mh pn)) (aj _ ⟨B,2,none⟩ (.slice ng mf oL))));have Ej:=af (((jr.set 0 (.slice pj mg pV)).set 1 (.slice nY mh pn)).set 2 (.slice ng mf oL));simp at Ej;have iO:=af (qN.start (w:=w) (w5:=(((wa.setCell ⟨B,0,none⟩ (.slice pj mg pV)).setCell ⟨B,1,none⟩ (.slice nY mh pn)).setCell ⟨B,2,none⟩ (.slice ng mf oL))) (u:=u) (B:=B) (box:=#[.slice ga mg gc,.slice ha mh hc,.slice fa mf fc]) (X1.on (ah (aT (aT (aT (aT (T0.out) T1.out) T2.out) T3.out) TA.out)) (by simp) |>.on G3.out (by have:=qO.out;have:=kW.out;simp;omega)) (X2.on (ah (aT (aT (aT (aT (T0.out) T1.out) T2.out) T3.out) TA.out)) (by simp) |>.on G3.out (by have:=qO.out;have:=kW.out;simp;omega)) Ej.out (by rw[←MG.out];exact dD (World.ownsRow.kept (aC Mg.out (aT (aT (T2.out) T3.out) TA.out)) G3.out (.inr fun e=>jr.not_row (aC Mg.out (aT (aT (T2.out) T3.out) TA.out)) (by decide) e.symm)) (by have:=kW.out;have:=(T0.out).size;omega)) (by rw[←MH.out];exact dD (World.ownsRow.kept (aC Kt.out (aT (T3.out) TA.out)) G3.out (.inr fun e=>jr.not_row (aC Kt.out (aT (T3.out) TA.out)) (by decide) e.symm)) (by have:=kW.out;have:=(aT (T0.out) T1.out).size;omega)) (by rw[←MF.out];exact dD (World.ownsRow.kept (aC Ia.out (TA.out)) G3.out (.inr fun e=>jr.not_row (aC Ia.out (TA.out)) (by decide) e.symm)) (by have:=kW.out;have:=(aT (aT (T0.out) T1.out) T2.out).size;omega)) GC.out HC.out FC.out ((hB.trans ((aT (aT (aT (aT (T0.out) T1.out) T2.out) T3.out) TA.out).mono hB.size)).grown G3.out (by have:=hB.size;have:=(aT (aT (aT (aT (T0.out) T1.out) T2.out) T3.out) TA.out).size;omega) (fun q e=>by cases e;have:=qO.out;have:=kW.out;show w.heap.size≤B;omega)) (by have:=qO.out;have:=kW.out;omega) (by have:=kW.out;have:=(aT (aT (aT (aT (T0.out) T1.out) T2.out) T3.out) TA.out).size;have:=G3.size;omega));refine tr 11 fun K hK=>?_
     go_simp;have cT:=(aT (aT (aT (aT (T0.out) T1.out) T2.out) T3.out) TA.out).grown G3.out (by have:=(aT (aT (aT (aT (T0.out) T1.out) T2.out) T3.out) TA.out).size;omega) (fun q e=>by cases e;exact qO.out);clear hHeld;refine hK.out _ _ cT (fun hHeld=>?_);clear hK K cT
     try simp only[bK,bL,bM,bN,bO]
     refine td ?_;clear hHeld;generalize (((wa.setCell ⟨B,0,none⟩ (.slice pj mg pV)).setCell ⟨B,1,none⟩ (.slice nY mh pn)).setCell ⟨B,2,none⟩ (.slice ng mf oL))=w5 at iO⊢;exact HH.out _ _ _ _ _ _ _ _ ⟨Te,OJ,Mh,iO.out⟩
    ·go_simp;obtain⟨B,vT⟩:∃B,B=w3.heap.size:=⟨_,rfl⟩;have lU:=af (show Bx (w3.alloc (.cells #[.slice none 0 0,.slice none 0 0,.slice none 0 0] 26)) B #[.slice none 0 0,.slice none 0 0,.slice none 0 0] 26 by rw[vT];exact Bx.new _ _ _);have TA:=af ((Below.refl w3.heap.size w3).alloc (Nat.le_refl _) (.cells #[.slice none 0 0,.slice none 0 0,.slice none 0 0] 26));have qO:=af (show W2.heap.size≤B by rw[vT];exact(aT (aT (T0.out) T1.out) T2.out).size);have cT:=aT (aT (aT (T0.out) T1.out) T2.out) TA.out;rw[←vT];clear hHeld vT;refine hK.out _ _ cT (fun hHeld=>?_);clear hK K cT
     try simp only[bK,bL,bM,bN,bO]
     generalize Ib:w3.alloc (.cells #[.slice none 0 0,.slice none 0 0,.slice none 0 0] 26)=wa at*;clear Ib;refine tr 8 fun K hK=>?_
     go_simp;go_at_call 70;refine(cf.out wa (hB.trans ((aT (aT (aT (T0.out) T1.out) T2.out) TA.out).mono hB.size))).mono ?_;rintro e w4 ⟨vf,rfl,of,dS⟩;have T3:=af dS;have cT:=aT (aT (aT (aT (T0.out) T1.out) T2.out) TA.out) T3.out;clear hHeld dS;obtain⟨ng,oL,rfl,Mh⟩:=aP of;have Ia:=af of;clear of;go_wp2_with fail
     refine hK.out _ _ cT (fun hHeld=>?_);clear hK K cT
     try simp only[bK,bL,bM,bN,bO]
     refine tk 9 ?_;have jr:=af (lU.on (ah (T3.out)) (by simp));have z0:=jr.cell 0;have z1:=jr.cell 1;have z2:=jr.cell 2;have f0:=jr.free 0;have f1:=jr.free 1;have f2:=jr.free 2;simp at z0 z1 z2;have G3:=af (aO (aj w4 ⟨B,0,none⟩ (.slice pj mg pV)) (aO (aj _ ⟨B,1,none⟩ (.slice nY mh pn)) (aj _ ⟨B,2,none⟩ (.slice ng mf oL))));have Ej:=af (((jr.set 0 (.slice pj mg pV)).set 1 (.slice nY mh pn)).set 2 (.slice ng mf oL));simp at Ej;have iO:=af (qN.start (w:=w) (w5:=(((w4.setCell ⟨B,0,none⟩ (.slice pj mg pV)).setCell ⟨B,1,none⟩ (.slice nY mh pn)).setCell ⟨B,2,none⟩ (.slice ng mf oL))) (u:=u) (B:=B) (box:=#[.slice ga mg gc,.slice ha mh hc,.slice fa mf fc]) (X1.on (ah (aT (aT (aT (aT (T0.out) T1.out) T2.out) TA.out) T3.out)) (by simp) |>.on G3.out (by have:=qO.out;have:=kW.out;simp;omega)) (X2.on (ah (aT (aT (aT (aT (T0.out) T1.out) T2.out) TA.out) T3.out)) (by simp) |>.on G3.out (by have:=qO.out;have:=kW.out;simp;omega)) Ej.out (by rw[←MG.out];exact dD (World.ownsRow.kept (aC Mg.out (aT (aT (T2.out) TA.out) T3.out)) G3.out (.inr fun e=>jr.not_row (aC Mg.out (aT (aT (T2.out) TA.out) T3.out)) (by decide) e.symm)) (by have:=kW.out;have:=(T0.out).size;omega)) (by rw[←MH.out];exact dD (World.ownsRow.kept (aC Kt.out (aT (TA.out) T3.out)) G3.out (.inr fun e=>jr.not_row (aC Kt.out (aT (TA.out) T3.out)) (by decide) e.symm)) (by have:=kW.out;have:=(aT (T0.out) T1.out).size;omega)) (by rw[←MF.out];exact dD (World.ownsRow.kept (Ia.out) G3.out (.inr fun e=>jr.not_row (Ia.out) (by decide) e.symm)) (by have:=kW.out;have:=(aT (aT (aT (T0.out) T1.out) T2.out) TA.out).size;omega)) GC.out HC.out FC.out ((hB.trans ((aT (aT (aT (aT (T0.out) T1.out) T2.out) TA.out) T3.out).mono hB.size)).grown G3.out (by have:=hB.size;have:=(aT (aT (aT (aT (T0.out) T1.out) T2.out) TA.out) T3.out).size;omega) (fun q e=>by cases e;have:=qO.out;have:=kW.out;show w.heap.size≤B;omega)) (by have:=qO.out;have:=kW.out;omega) (by have:=kW.out;have:=(aT (aT (aT (aT (T0.out) T1.out) T2.out) TA.out) T3.out).size;have:=G3.size;omega));refine tr 11 fun K hK=>?_
     go_simp;have cT:=(aT (aT (aT (aT (T0.out) T1.out) T2.out) TA.out) T3.out).grown G3.out (by have:=(aT (aT (aT (aT (T0.out) T1.out) T2.out) TA.out) T3.out).size;omega) (fun q e=>by cases e;exact qO.out);clear hHeld;refine hK.out _ _ cT (fun hHeld=>?_);clear hK K cT
     try simp only[bK,bL,bM,bN,bO]
     refine td ?_;clear hHeld;generalize (((w4.setCell ⟨B,0,none⟩ (.slice pj mg pV)).setCell ⟨B,1,none⟩ (.slice nY mh pn)).setCell ⟨B,2,none⟩ (.slice ng mf oL))=w5 at iO⊢;exact HH.out _ _ _ _ _ _ _ _ ⟨Te,OJ,Mh,iO.out⟩
   ·go_simp;obtain⟨B,vT⟩:∃B,B=w2.heap.size:=⟨_,rfl⟩;have lU:=af (show Bx (w2.alloc (.cells #[.slice none 0 0,.slice none 0 0,.slice none 0 0] 26)) B #[.slice none 0 0,.slice none 0 0,.slice none 0 0] 26 by rw[vT];exact Bx.new _ _ _);have TA:=af ((Below.refl w2.heap.size w2).alloc (Nat.le_refl _) (.cells #[.slice none 0 0,.slice none 0 0,.slice none 0 0] 26));have qO:=af (show W2.heap.size≤B by rw[vT];exact(aT (T0.out) T1.out).size);have cT:=aT (aT (T0.out) T1.out) TA.out;rw[←vT];clear hHeld vT;refine hK.out _ _ cT (fun hHeld=>?_);clear hK K cT
    try simp only[bK,bL,bM,bN,bO]
    generalize Ib:w2.alloc (.cells #[.slice none 0 0,.slice none 0 0,.slice none 0 0] 26)=wa at*;clear Ib;refine tr 5 fun K hK=>?_
    go_simp;go_at_call 69;refine(ch.out wa (hB.trans ((aT (aT (T0.out) T1.out) TA.out).mono hB.size))).mono ?_;rintro e w3 ⟨vh,rfl,oh,dS⟩;have T2:=af dS;have cT:=aT (aT (aT (T0.out) T1.out) TA.out) T2.out;clear hHeld dS;obtain⟨nY,pn,rfl,OJ⟩:=aP oh;have Kt:=af oh;clear oh;go_wp2_with fail
    refine hK.out _ _ cT (fun hHeld=>?_);clear hK K cT
    try simp only[bK,bL,bM,bN,bO]
    refine tr 8 fun K hK=>?_
    go_simp;go_at_call 70;refine(cf.out w3 (hB.trans ((aT (aT (aT (T0.out) T1.out) TA.out) T2.out).mono hB.size))).mono ?_;rintro e w4 ⟨vf,rfl,of,dS⟩;have T3:=af dS;have cT:=aT (aT (aT (aT (T0.out) T1.out) TA.out) T2.out) T3.out;clear hHeld dS;obtain⟨ng,oL,rfl,Mh⟩:=aP of;have Ia:=af of;clear of;go_wp2_with fail
    refine hK.out _ _ cT (fun hHeld=>?_);clear hK K cT
    try simp only[bK,bL,bM,bN,bO]
    refine tk 9 ?_;have jr:=af (lU.on (ah (aT (T2.out) T3.out)) (by simp));have z0:=jr.cell 0;have z1:=jr.cell 1;have z2:=jr.cell 2;have f0:=jr.free 0;have f1:=jr.free 1;have f2:=jr.free 2;simp at z0 z1 z2;have G3:=af (aO (aj w4 ⟨B,0,none⟩ (.slice pj mg pV)) (aO (aj _ ⟨B,1,none⟩ (.slice nY mh pn)) (aj _ ⟨B,2,none⟩ (.slice ng mf oL))));have Ej:=af (((jr.set 0 (.slice pj mg pV)).set 1 (.slice nY mh pn)).set 2 (.slice ng mf oL));simp at Ej;have iO:=af (qN.start (w:=w) (w5:=(((w4.setCell ⟨B,0,none⟩ (.slice pj mg pV)).setCell ⟨B,1,none⟩ (.slice nY mh pn)).setCell ⟨B,2,none⟩ (.slice ng mf oL))) (u:=u) (B:=B) (box:=#[.slice ga mg gc,.slice ha mh hc,.slice fa mf fc]) (X1.on (ah (aT (aT (aT (aT (T0.out) T1.out) TA.out) T2.out) T3.out)) (by simp) |>.on G3.out (by have:=qO.out;have:=kW.out;simp;omega)) (X2.on (ah (aT (aT (aT (aT (T0.out) T1.out) TA.out) T2.out) T3.out)) (by simp) |>.on G3.out (by have:=qO.out;have:=kW.out;simp;omega)) Ej.out (by rw[←MG.out];exact dD (World.ownsRow.kept (aC Mg.out (aT (aT (TA.out) T2.out) T3.out)) G3.out (.inr fun e=>jr.not_row (aC Mg.out (aT (aT (TA.out) T2.out) T3.out)) (by decide) e.symm)) (by have:=kW.out;have:=(T0.out).size;omega)) (by rw[←MH.out];exact dD (World.ownsRow.kept (aC Kt.out (T3.out)) G3.out (.inr fun e=>jr.not_row (aC Kt.out (T3.out)) (by decide) e.symm)) (by have:=kW.out;have:=(aT (aT (T0.out) T1.out) TA.out).size;omega)) (by rw[←MF.out];exact dD (World.ownsRow.kept (Ia.out) G3.out (.inr fun e=>jr.not_row (Ia.out) (by decide) e.symm)) (by have:=kW.out;have:=(aT (aT (aT (T0.out) T1.out) TA.out) T2.out).size;omega)) GC.out HC.out FC.out ((hB.trans ((aT (aT (aT (aT (T0.out) T1.out) TA.out) T2.out) T3.out).mono hB.size)).grown G3.out (by have:=hB.size;have:=(aT (aT (aT (aT (T0.out) T1.out) TA.out) T2.out) T3.out).size;omega) (fun q e=>by cases e;have:=qO.out;have:=kW.out;show w.heap.size≤B;omega)) (by have:=qO.out;have:=kW.out;omega) (by have:=kW.out;have:=(aT (aT (aT (aT (T0.out) T1.out) TA.out) T2.out) T3.out).size;have:=G3.size;omega));refine tr 11 fun K hK=>?_
    go_simp;have cT:=(aT (aT (aT (aT (T0.out) T1.out) TA.out) T2.out) T3.out).grown G3.out (by have:=(aT (aT (aT (aT (T0.out) T1.out) TA.out) T2.out) T3.out).size;omega) (fun q e=>by cases e;exact qO.out);clear hHeld;refine hK.out _ _ cT (fun hHeld=>?_);clear hK K cT
    try simp only[bK,bL,bM,bN,bO]
    refine td ?_;clear hHeld;generalize (((w4.setCell ⟨B,0,none⟩ (.slice pj mg pV)).setCell ⟨B,1,none⟩ (.slice nY mh pn)).setCell ⟨B,2,none⟩ (.slice ng mf oL))=w5 at iO⊢;exact HH.out _ _ _ _ _ _ _ _ ⟨Te,OJ,Mh,iO.out⟩
  ·go_simp;obtain⟨B,vT⟩:∃B,B=W2.heap.size:=⟨_,rfl⟩;have lU:=af (show Bx ((W2.alloc (.cells #[.slice none 0 0,.slice none 0 0,.slice none 0 0] 26)).drew) B #[.slice none 0 0,.slice none 0 0,.slice none 0 0] 26 by rw[vT];exact Bx.new W2 _ _);have TA:=af (show Below W2.drew.heap.size W2.drew ((W2.alloc (.cells #[.slice none 0 0,.slice none 0 0,.slice none 0 0] 26)).drew) from(Below.refl W2.drew.heap.size W2.drew).alloc (Nat.le_refl _) (.cells #[.slice none 0 0,.slice none 0 0,.slice none 0 0] 26));have qO:=af (show W2.heap.size≤B by rw[vT];exact Nat.le_refl _);have cT:=aT (T0.out) TA.out;rw[←vT];clear hHeld vT;refine hK.out _ _ cT (fun hHeld=>?_);clear hK K cT
   try simp only[bK,bL,bM,bN,bO]
   generalize Ib:(W2.alloc (.cells #[.slice none 0 0,.slice none 0 0,.slice none 0 0] 26)).drew=wa at*;clear Ib;refine tr 2 fun K hK=>?_
   go_simp;go_at_call 68;refine(cg.out wa (hB.trans ((aT (T0.out) TA.out).mono hB.size))).mono ?_;rintro e w2 ⟨vg,rfl,og,dS⟩;have T1:=af dS;have cT:=aT (aT (T0.out) TA.out) T1.out;clear hHeld dS;obtain⟨pj,pV,rfl,Te⟩:=aP og;have Mg:=af og;clear og;go_wp2_with fail
   refine hK.out _ _ cT (fun hHeld=>?_);clear hK K cT
   try simp only[bK,bL,bM,bN,bO]
   refine tr 5 fun K hK=>?_
   go_simp;go_at_call 69;refine(ch.out w2 (hB.trans ((aT (aT (T0.out) TA.out) T1.out).mono hB.size))).mono ?_;rintro e w3 ⟨vh,rfl,oh,dS⟩;have T2:=af dS;have cT:=aT (aT (aT (T0.out) TA.out) T1.out) T2.out;clear hHeld dS;obtain⟨nY,pn,rfl,OJ⟩:=aP oh;have Kt:=af oh;clear oh;go_wp2_with fail
   refine hK.out _ _ cT (fun hHeld=>?_);clear hK K cT
   try simp only[bK,bL,bM,bN,bO]
   refine tr 8 fun K hK=>?_
   go_simp;go_at_call 70;refine(cf.out w3 (hB.trans ((aT (aT (aT (T0.out) TA.out) T1.out) T2.out).mono hB.size))).mono ?_;rintro e w4 ⟨vf,rfl,of,dS⟩;have T3:=af dS;have cT:=aT (aT (aT (aT (T0.out) TA.out) T1.out) T2.out) T3.out;clear hHeld dS;obtain⟨ng,oL,rfl,Mh⟩:=aP of;have Ia:=af of;clear of;go_wp2_with fail
   refine hK.out _ _ cT (fun hHeld=>?_);clear hK K cT
   try simp only[bK,bL,bM,bN,bO]
   refine tk 9 ?_;have jr:=af (lU.on (ah (aT (aT (T1.out) T2.out) T3.out)) (by simp));have z0:=jr.cell 0;have z1:=jr.cell 1;have z2:=jr.cell 2;have f0:=jr.free 0;have f1:=jr.free 1;have f2:=jr.free 2;simp at z0 z1 z2;have G3:=af (aO (aj w4 ⟨B,0,none⟩ (.slice pj mg pV)) (aO (aj _ ⟨B,1,none⟩ (.slice nY mh pn)) (aj _ ⟨B,2,none⟩ (.slice ng mf oL))));have Ej:=af (((jr.set 0 (.slice pj mg pV)).set 1 (.slice nY mh pn)).set 2 (.slice ng mf oL));simp at Ej;have iO:=af (qN.start (w:=w) (w5:=(((w4.setCell ⟨B,0,none⟩ (.slice pj mg pV)).setCell ⟨B,1,none⟩ (.slice nY mh pn)).setCell ⟨B,2,none⟩ (.slice ng mf oL))) (u:=u) (B:=B) (box:=#[.slice ga mg gc,.slice ha mh hc,.slice fa mf fc]) (X1.on (ah (aT (aT (aT (aT (T0.out) TA.out) T1.out) T2.out) T3.out)) (by simp) |>.on G3.out (by have:=qO.out;have:=kW.out;simp;omega)) (X2.on (ah (aT (aT (aT (aT (T0.out) TA.out) T1.out) T2.out) T3.out)) (by simp) |>.on G3.out (by have:=qO.out;have:=kW.out;simp;omega)) Ej.out (by rw[←MG.out];exact dD (World.ownsRow.kept (aC Mg.out (aT (T2.out) T3.out)) G3.out (.inr fun e=>jr.not_row (aC Mg.out (aT (T2.out) T3.out)) (by decide) e.symm)) (by have:=kW.out;have:=(aT (T0.out) TA.out).size;omega)) (by rw[←MH.out];exact dD (World.ownsRow.kept (aC Kt.out (T3.out)) G3.out (.inr fun e=>jr.not_row (aC Kt.out (T3.out)) (by decide) e.symm)) (by have:=kW.out;have:=(aT (aT (T0.out) TA.out) T1.out).size;omega)) (by rw[←MF.out];exact dD (World.ownsRow.kept (Ia.out) G3.out (.inr fun e=>jr.not_row (Ia.out) (by decide) e.symm)) (by have:=kW.out;have:=(aT (aT (aT (T0.out) TA.out) T1.out) T2.out).size;omega)) GC.out HC.out FC.out ((hB.trans ((aT (aT (aT (aT (T0.out) TA.out) T1.out) T2.out) T3.out).mono hB.size)).grown G3.out (by have:=hB.size;have:=(aT (aT (aT (aT (T0.out) TA.out) T1.out) T2.out) T3.out).size;omega) (fun q e=>by cases e;have:=qO.out;have:=kW.out;show w.heap.size≤B;omega)) (by have:=qO.out;have:=kW.out;omega) (by have:=kW.out;have:=(aT (aT (aT (aT (T0.out) TA.out) T1.out) T2.out) T3.out).size;have:=G3.size;omega));refine tr 11 fun K hK=>?_
   go_simp;have cT:=(aT (aT (aT (aT (T0.out) TA.out) T1.out) T2.out) T3.out).grown G3.out (by have:=(aT (aT (aT (aT (T0.out) TA.out) T1.out) T2.out) T3.out).size;omega) (fun q e=>by cases e;exact qO.out);clear hHeld;refine hK.out _ _ cT (fun hHeld=>?_);clear hK K cT
   try simp only[bK,bL,bM,bN,bO]
   refine td ?_;clear hHeld;generalize (((w4.setCell ⟨B,0,none⟩ (.slice pj mg pV)).setCell ⟨B,1,none⟩ (.slice nY mh pn)).setCell ⟨B,2,none⟩ (.slice ng mf oL))=w5 at iO⊢;exact HH.out _ _ _ _ _ _ _ _ ⟨Te,OJ,Mh,iO.out⟩
 ·rintro pj pV nY pn ng oL B w5 ⟨Te,OJ,Mh,hG⟩;clear p0 p1 p2 X1 X2 hB kW cg ch cf;have aB:=af hG;obtain⟨n1,zU⟩:∃m,m=w5.heap.size:=⟨_,rfl⟩;rw[←zU] at aB;clear hG zU;have q1:=aB.b3.cell 1;simp at q1;go_wp2_with fail
  go_loopw [19] (fun i wr=>∃k:Nat,i=.int .i64 k∧k≤mh∧qN w u w.heap.size n1 B #[.slice ga mg gc,.slice ha mh hc,.slice fa mf fc] (.slice pj mg pV) (.slice nY mh pn) (.slice ng mf oL) k 0 0 wr) (fun i _=>mh- (intOf i).toNat)
  case atStart=>exact⟨0,rfl,Nat.zero_le _,aB.out⟩
  case round=>
   clear aB q1;obtain⟨k,rfl,hk,hG⟩:=hrel;have aB:=af hG;clear hG;by_cases hlt:k<mh
   ·have tU:∃g,nY=some ⟨g,0,none⟩:=by rcases OJ with q|q;(·omega);(·exact q)
    obtain⟨g,rfl⟩:=tU;have gR:k<u.hs.length:=by have:=MH.out;omega
    obtain⟨c,⟨t,v0,rfl,hv0⟩,hcell⟩:=aB.hs.row MH.out k gR;simp only[Nat.lt_irrefl,decide_false,Bool.false_eq_true,if_false] at hv0;have x2:=hcell 2 (by omega);simp at x2;have qb:=aB.b3.cell 1;simp at qb;have QJ:B≠g:=fun e=>aB.hs.box aB.b3 (by decide) (by rw[e];rfl)
    have hpl:=OK.hp _ (List.getElem_mem gR);obtain⟨xa,xc,rfl⟩:=hv0.ay;have HV0:=af hv0;have zv:=aB.hs.free MH.out (k*5+2);have HKL:=af gR;clear hcell hv0;go_wp2_with fail
    refine wp_region_held_drew (S:=(fun w9=>World.grownBy wr w9 (some g))) (by kernel_rfl) (aJ _ _) (fun hHeld=>?_);refine tk 0 ?_;refine tk 1 ?_ (hy:=by intro w' hSw;have q1:=hSw.cell qb (by simpa using QJ);go_simp;(try with_reducible rfl));refine tk 2 ?_;refine tk 3 ?_;refine tk 4 ?_ (hy:=by intro w' hSw;have q1:=hSw.cell qb (by simpa using QJ);go_simp;(try with_reducible rfl));refine tk 5 ?_;refine tk 6 ?_;refine tk 7 ?_;refine tr 8 fun K hK=>?_
    go_simp;have cT:=aJ wr (some g);clear hHeld;refine hK.out _ _ cT (fun hHeld=>?_);clear hK K cT
    try simp only[bK,bL,bM,bN,bO]
    have cx:=af (params71 (u.hs[k]'gR).params (.slice xa (u.hs[k]'gR).params.length xc) wr.drew hpl (dE.sub HV0.out (kV aB.below.drew)));refine tr 9 fun K hK=>?_
    go_simp;go_at_call 71;refine cx.mono ?_;clear cx;rintro e w6 ⟨v6,rfl,yg,dS⟩;have T6:=af dS;have G6:=af (aB.on ((Below.refl wr.heap.size wr).drew.trans dS));have Tf:=af yg;have cT:=gC ((Below.refl wr.heap.size wr).drew.trans dS) (some g);obtain⟨ya,yc,rfl⟩:=yg.ay;clear hHeld dS yg;go_wp2_with fail
    refine hK.out _ _ cT (fun hHeld=>?_);clear hK K
    try simp only[bK,bL,bM,bN,bO]
    refine tk 10 ?_;refine tk 11 ?_;have Ku:=aO cT (aj w6 ⟨g,k*5+2,none⟩ (.slice ya (u.hs[k]'gR).params.length yc));have VH:=ag x2 ((Below.refl wr.heap.size wr).drew.trans T6.out);have Ic:=G6.hs.free MH.out (k*5+2);refine tr 12 fun K hK=>?_
    go_simp;clear hHeld;refine hK.out _ _ Ku (fun hHeld=>?_);clear hK K
    try simp only[bK,bL,bM,bN,bO]
    refine td ?_;have G7:=af (G6.putH MH.out gR (v:=(.slice ya (u.hs[k]'gR).params.length yc)) (dE.sub Tf.out (bt fun a u hp hc=>⟨by simp at hp⊢;have:=aB.QI;omega,hc⟩)));clear hHeld Ku cT VH Ic;go_wp2_with fail
    exact⟨⟨k+1,by go_num,by omega,G7.out⟩,by simp only[intOf];omega⟩
   ·have hk2:k=mh:=by omega
    subst k;have q2:=aB.b3.cell 2;simp at q2;go_wp2_with fail
    go_loopw [38] (fun i wr=>∃k:Nat,i=.int .i64 k∧k≤mf∧qN w u w.heap.size n1 B #[.slice ga mg gc,.slice ha mh hc,.slice fa mf fc] (.slice pj mg pV) (.slice nY mh pn) (.slice ng mf oL) mh k k wr) (fun i _=>mf- (intOf i).toNat)
    case atStart=>exact⟨0,rfl,Nat.zero_le _,aB.out⟩
    case round=>
     clear aB q2 hlt hk;obtain⟨k,rfl,hk,hG⟩:=hrel;have aB:=af hG;clear hG;by_cases hlt:k<mf
     ·have tU:∃g,ng=some ⟨g,0,none⟩:=by rcases Mh with q|q;(·omega);(·exact q)
      obtain⟨g,rfl⟩:=tU;have gR:k<u.fs.length:=by have:=MF.out;omega
      obtain⟨c,⟨t,v0,y0,rfl,hv0,-⟩,hcell⟩:=aB.fs.row MF.out k gR;simp only[Nat.lt_irrefl,decide_false,Bool.false_eq_true,if_false] at hv0;have x2:=hcell 2 (by omega);simp at x2;have qb:=aB.b3.cell 2;simp at qb;have QJ:B≠g:=fun e=>aB.fs.box aB.b3 (by decide) (by rw[e];rfl)
      have hpl:=OK.fp _ (List.getElem_mem gR);obtain⟨xa,xc,rfl⟩:=dE.ay hv0;have HV0:=af hv0;clear hcell hv0;go_wp2_with fail
      refine wp_region_held_drew (S:=(fun w9=>World.grownBy wr w9 (some g))) (by kernel_rfl) (aJ _ _) (fun hHeld=>?_);refine tk 0 ?_;refine tk 1 ?_ (hy:=by intro w' hSw;have q1:=hSw.cell qb (by simpa using QJ);go_simp;(try with_reducible rfl));refine tk 2 ?_;refine tk 3 ?_;refine tk 4 ?_ (hy:=by intro w' hSw;have q1:=hSw.cell qb (by simpa using QJ);go_simp;(try with_reducible rfl));refine tk 5 ?_;refine tk 6 ?_;refine tk 7 ?_;refine tr 8 fun K hK=>?_
      go_simp;have cT:=aJ wr (some g);clear hHeld;refine hK.out _ _ cT (fun hHeld=>?_);clear hK K cT
      try simp only[bK,bL,bM,bN,bO]
      have cx:=af (params71 (u.fs[k]'gR).params (.slice xa (u.fs[k]'gR).params.length xc) wr.drew hpl (dE.sub HV0.out (kV aB.below.drew)));refine tr 9 fun K hK=>?_
      go_simp;go_at_call 71;refine cx.mono ?_;clear cx;rintro e w6 ⟨v6,rfl,yg,dS⟩;have T6:=af dS;have G6:=af (aB.on ((Below.refl wr.heap.size wr).drew.trans dS));have Tf:=af yg;have cT:=gC ((Below.refl wr.heap.size wr).drew.trans dS) (some g);obtain⟨ya,yc,rfl⟩:=yg.ay;clear hHeld dS yg;go_wp2_with fail
      refine hK.out _ _ cT (fun hHeld=>?_);clear hK K
      try simp only[bK,bL,bM,bN,bO]
      refine tk 10 ?_;refine tk 11 ?_;have Ku:=aO cT (aj w6 ⟨g,k*6+2,none⟩ (.slice ya (u.fs[k]'gR).params.length yc));have VH:=ag x2 ((Below.refl wr.heap.size wr).drew.trans T6.out);have Ic:=G6.fs.free MF.out (k*6+2);refine tr 12 fun K hK=>?_
      go_simp;clear hHeld;refine hK.out _ _ Ku (fun hHeld=>?_);clear hK K
      try simp only[bK,bL,bM,bN,bO]
      refine td ?_;have G7:=af (G6.putF MF.out gR (v:=(.slice ya (u.fs[k]'gR).params.length yc)) (dE.sub Tf.out (bt fun a u hp hc=>⟨by simp at hp⊢;have:=aB.QI;omega,hc⟩)));clear hHeld Ku cT VH Ic;go_wp2_with fail
      generalize (w6.setCell ⟨g,k*6+2,none⟩ (.slice ya (u.fs[k]'gR).params.length yc))=w7 at G7⊢;clear x2 qb Tf G6 T6;obtain⟨c,⟨t,v0,y0,rfl,-,hv0⟩,hcell⟩:=G7.fs.row MF.out k gR;simp only[Nat.lt_irrefl,decide_false,Bool.false_eq_true,if_false] at hv0;have x2:=hcell 5 (by omega);simp at x2;have qb:=G7.b3.cell 2;simp at qb;have hbl:=OK.fb _ (List.getElem_mem gR);obtain⟨xa2,xc2,rfl⟩:=dR.ay hv0;have QK:=af hv0;clear hcell hv0
      try(go_wp2_with fail)
      refine wp_region_held_drew (S:=(fun w9=>World.grownBy w7 w9 (some g))) (by kernel_rfl) (aJ _ _) (fun hHeld=>?_);refine tk 0 ?_;refine tk 1 ?_ (hy:=by intro w' hSw;have q1:=hSw.cell qb (by simpa using QJ);go_simp;(try with_reducible rfl));refine tk 2 ?_;refine tk 3 ?_;refine tk 4 ?_ (hy:=by intro w' hSw;have q1:=hSw.cell qb (by simpa using QJ);go_simp;(try with_reducible rfl));refine tk 5 ?_;refine tk 6 ?_;refine tk 7 ?_;refine tr 8 fun K hK=>?_
      go_simp;have cT:=aJ w7 (some g);clear hHeld;refine hK.out _ _ cT (fun hHeld=>?_);clear hK K cT
      try simp only[bK,bL,bM,bN,bO]
      have cx:=af (vS ((u.fs[k]'gR).body.sz+1) (u.fs[k]'gR).body (.slice xa2 (u.fs[k]'gR).body.len xc2) w7.drew (Nat.lt_succ_self _) hbl (dR.sub QK.out (kV G7.below.drew)));refine tr 9 fun K hK=>?_
      go_simp;go_at_call 72;refine cx.mono ?_;clear cx;rintro e w6 ⟨v6,rfl,yg,dS⟩;have T6:=af dS;have G6:=af (G7.on ((Below.refl w7.heap.size w7).drew.trans dS));have Tf:=af yg;have cT:=gC ((Below.refl w7.heap.size w7).drew.trans dS) (some g);obtain⟨ya,yc,rfl⟩:=yg.ay;clear hHeld dS yg;go_wp2_with fail
      refine hK.out _ _ cT (fun hHeld=>?_);clear hK K
      try simp only[bK,bL,bM,bN,bO]
      refine tk 10 ?_;refine tk 11 ?_;have Ku:=aO cT (aj w6 ⟨g,k*6+5,none⟩ (.slice ya (u.fs[k]'gR).body.len yc));have VH:=ag x2 ((Below.refl w7.heap.size w7).drew.trans T6.out);have Ic:=G6.fs.free MF.out (k*6+5);refine tr 12 fun K hK=>?_
      go_simp;clear hHeld;refine hK.out _ _ Ku (fun hHeld=>?_);clear hK K
      try simp only[bK,bL,bM,bN,bO]
      refine td ?_;have G8:=af (G6.putB MF.out gR (v:=(.slice ya (u.fs[k]'gR).body.len yc)) (dR.sub Tf.out (bt fun a u hp hc=>⟨by simp at hp⊢;have:=G7.QI;omega,hc⟩)));clear hHeld Ku cT VH Ic;go_wp2_with fail
      exact⟨⟨k+1,by go_num,by omega,G8.out⟩,by simp only[intOf];omega⟩
     ·have hk2:k=mf:=by omega
      subst k;have r0:=aB.b3.cell 0;have r1:=aB.b3.cell 1;have r2:=aB.b3.cell 2;have z0:=aB.b2.cell 0;have z1:=aB.b2.cell 1;have z2:=aB.b2.cell 2;have f0:=aB.b2.free 0;have f1:=aB.b2.free 1;have f2:=aB.b2.free 2;simp at r0 r1 r2 z0 z1 z2;have lA:=af (((aB.b2.set 0 (.slice pj mg pV)).set 1 (.slice nY mh pn)).set 2 (.slice ng mf oL));simp at lA;have Cp:=af (aO (aj wr ⟨w.heap.size+1,0,none⟩ (.slice pj mg pV)) (aO (aj _ ⟨w.heap.size+1,1,none⟩ (.slice nY mh pn)) (aj _ ⟨w.heap.size+1,2,none⟩ (.slice ng mf oL))));have hU:=af (show jR _ false none u (.agg #[.slice pj mg pV,.slice nY mh pn,.slice ng mf oL]) from qN.done (by rw[←MH.out,←MF.out];exact aB.out));go_wp2_with fail
      refine bodyPost_ret (v:=.agg #[.slice pj mg pV,.slice nY mh pn,.slice ng mf oL]) (results_cell_row rfl _ _ (w.heap.size+1) _ _ _ _ rfl lA.out Tryz.underlying26 rfl (by kernel_rfl)) rfl ?_;refine⟨_,rfl,hU.sub (bt fun a v hp hc=>?_),aB.below.grown Cp.out aB.below.size (fun q e=>by cases e;show w.heap.size≤w.heap.size+1;omega)⟩;simp at hp;refine⟨by simp;omega,?_⟩;rw[eu _ _ _ _ _ (by omega),eu _ _ _ _ _ (by omega),eu _ _ _ _ _ (by omega)];exact hc
end
section
open Go.Shelf
theorem vU (u:UT) (v:Value) (w:World) (ok:u.Ok) (wf:u.Wf) (vH:Hid (∀x∈u.gs,0≤x.len∧x.len<4294967296)) (hv:jR w false none u v):
  Calls Tryz.prog 10 #[v] w fun e w'=>(∃f s,e=.returned (.agg #[.int .i64 (aW u),.int .i64 f,.int .i64 s]))∧Below w.heap.size w w':=by
 have hV:=af hv;obtain⟨vg,vh,vf,rfl,hg,hh,hf⟩:=hv;obtain⟨ga,gb,go,gc,rfl,-,-⟩:=ei.open hg;obtain⟨ha,Ad,ho,hc,rfl,-,-⟩:=ei.open hh;obtain⟨fa,fb,fo,fc,rfl,-,-⟩:=ei.open hf;clear hg hh hf;have b1:=af ((Bx.new w #[.slice ga u.gs.length gc,.slice ha u.hs.length hc,.slice fa u.fs.length fc] 26).al (.cells #[.int .i64 0,.int .i64 0,.int .i64 0] 34));have b2:Hid (Bx ((w.alloc (.cells #[.slice ga u.gs.length gc,.slice ha u.hs.length hc,.slice fa u.fs.length fc] 26)).alloc (.cells #[.int .i64 0,.int .i64 0,.int .i64 0] 34)) (w.heap.size+1) #[.int .i64 0,.int .i64 0,.int .i64 0] 34):=af (by simpa using Bx.new (w.alloc (.cells #[.slice ga u.gs.length gc,.slice ha u.hs.length hc,.slice fa u.fs.length fc] 26)) #[.int .i64 0,.int .i64 0,.int .i64 0] 34);have hB:=af (show Below w.heap.size w ((w.alloc (.cells #[.slice ga u.gs.length gc,.slice ha u.hs.length hc,.slice fa u.fs.length fc] 26)).alloc (.cells #[.int .i64 0,.int .i64 0,.int .i64 0] 34)) by(repeat(first|exact Below.refl _ _|refine Below.drew ?_ |refine Below.alloc ?_ (by simp<;>omega) _)));have cc:=af (Ed u _ _ ok wf vH (hV.mono hB.out));clear ok wf;go_enter Tryz.func10,Tryz.ntmps10;go_wp2_with fail
 refine cc.mono ?_;rintro e w1 ⟨ma,mb,f,s,rfl,hb1⟩;have iU:=af (hB.trans (hb1.mono hB.size));have B2:=af (b2.on (ah hb1) (by simp));clear hb1 cc hB b1 b2;have z0:=(B2.al (.cells #[.map ma,.map mb] 91)).al (.cells #[.int .i64 (aW u),.int .i64 f,.int .i64 s] 34);have y0:=z0.cell 0;have y1:=z0.cell 1;have y2:=z0.cell 2;have f0:=z0.free 0;have f1:=z0.free 1;have f2:=z0.free 2;simp at y0 y1 y2;have jx:=B2.lt;have g0:=B2.free 0;have g1:=B2.free 1;have g2:=B2.free 2;have jy:w.heap.size+1<(w1.alloc (.cells #[.map ma,.map mb] 91)).heap.size:=by simp;omega
 have lA:=af (((z0.set 0 (.int .i64 (aW u))).set 1 (.int .i64 f)).set 2 (.int .i64 s));simp at lA;clear z0;have nL:=af (((((iU.alloc (by have:=iU.size;omega) (.cells #[.map ma,.map mb] 91)).alloc (by have:=iU.size;simp;omega) (.cells #[.int .i64 (aW u),.int .i64 f,.int .i64 s] 34)).setCell (p:=⟨w.heap.size+1,0,none⟩) (by simp<;>omega) (.int .i64 (aW u))).setCell (p:=⟨w.heap.size+1,1,none⟩) (by simp<;>omega) (.int .i64 f)).setCell (p:=⟨w.heap.size+1,2,none⟩) (by simp<;>omega) (.int .i64 s));go_wp2_with fail
 refine bodyPost_ret (v:=.agg #[.int .i64 (aW u),.int .i64 f,.int .i64 s]) (results_cell_row rfl _ _ (w.heap.size+1) _ _ _ _ rfl lA.out Tryz.underlying34 rfl (by kernel_rfl)) rfl ?_;exact⟨⟨_,_,rfl⟩,nL.out⟩
end
section
open Go.Shelf
abbrev HD:=List (ByteArray×List Int)
def eM:HD→List Value→List Value
 |a::r,x::xs=>.string a.1::x::eM r xs
 |_,_=>[]
theorem se (nm:ByteArray) (ws:List Int) (x:Value):∀(hd:HD) (xs:List Value),xs.length=hd.length→eM (hd++[(nm,ws)]) (xs++[x])=eM hd xs++[.string nm,x]
 |[],[],_=>rfl
 |a::r,y::xs,h=>by
  have:=se nm ws x r xs (by simpa using h);simp only[List.cons_append,eM,this]
 |[],x::xs,h=>by simp at h
 |a::r,[],h=>by simp at h
structure dO (w:World) (B:Nat) (hd:HD) (xs:List Value) (v:Value):Prop where
 len:xs.length=hd.length
 row:w.ownsRow B 82 2 v hd.length (eM hd xs)
 rows:∀i (h:i<xs.length) (h':i<hd.length),w.ownsRow B 52 1 xs[i] hd[i].2.length (hd[i].2.map (Value.int .u32))
 pos:∀i (h':i<hd.length),0<hd[i].2.length
 nd:(xs.map Value.ownBlock).Nodup
theorem dO.on {w w':World} {B:Nat} {hd:HD} {xs:List Value} {v:Value} (h:dO w B hd xs v) {row:Option Nat} (hg:w.grownBy w' row) (hv:v.ownBlock=none∨v.ownBlock≠row) (hx:∀x∈xs,x.ownBlock=none∨x.ownBlock≠row):dO w' B hd xs v:=
 ⟨h.len,h.row.kept hg hv,fun i h1 h2=>(h.rows i h1 h2).kept hg (hx _ (List.getElem_mem h1)),h.pos,h.nd⟩
theorem dO.mono {w w':World} {B:Nat} {hd:HD} {xs:List Value} {v:Value} (h:dO w B hd xs v) (hb:Below w.heap.size w w'):dO w' B hd xs v:=
 h.on (row:=none) (ah hb) (by cases hq:v.ownBlock;exact .inl rfl;exact .inr (by simp)) (fun x _=>by cases hq:x.ownBlock;exact .inl rfl;exact .inr (by simp))
theorem dO.box {w:World} {B:Nat} {hd:HD} {xs:List Value} {v:Value} (h:dO w B hd xs v) {q:Nat} {cs:Array Value} {t:TypeId} (hx:Bx w q cs t) (h1:t≠82) (h2:t≠52):some q≠v.ownBlock∧∀x∈xs,some q≠x.ownBlock:=
 ⟨hx.not_row h.row h1,fun x hm=>by
  obtain⟨i,hi,rfl⟩:=List.getElem_of_mem hm;exact hx.not_row (h.rows i hi (by have:=h.len;omega)) h2⟩
theorem kX {w:World} {b:Nat} {l:List (ByteArray×Value)} (hm:Mp w b l) {base:Nat} {e:TypeId} {size n:Nat} {v:Value} {xs:List Value} (h:w.ownsRow base e size v n xs):some b≠v.ownBlock:=fun e1=>by
 rcases h.2 with⟨rfl,_⟩|⟨g,cap,cur,rfl,_,hg,_⟩
 ·cases e1
 ·simp only[Value.ownBlock,Option.some.injEq] at e1;subst e1;obtain⟨es,c,hm,_⟩:=hm;rw[hg] at hm;cases hm
theorem dO.add {w w':World} {B:Nat} {hd:HD} {xs:List Value} {v v':Value} {nm:ByteArray} {ws:List Int} {x:Value} (h:dO w B hd xs v) (hx:w.ownsRow B 52 1 x ws.length (ws.map (Value.int .u32))) (hp:0<ws.length) (hne:∀y∈xs,y.ownBlock≠x.ownBlock)
  (hA:aV w w' B 82 2 v v' hd.length 1 (eM hd xs) [.string nm,x]):dO w' B (hd++[(nm,ws)]) (xs++[x]) v':=by
 have keep:∀{y:Value} {n:Nat} {ys:List Value},w.ownsRow B 52 1 y n ys→w'.ownsRow B 52 1 y n ys:=fun{y n ys} hy=>by
  refine hy.kept hA.grown ?_;rcases pg hy h.row (by decide) with e|e
  ·exact .inl e
  ·exact .inr e
 refine⟨by simp[h.len],?_,?_,?_,?_⟩
 ·rw[se nm ws x hd xs h.len,List.length_append];exact hA.own
 ·intro i h1 h2;by_cases hi:i<xs.length
  ·have gq:i<hd.length:=by have:=h.len;omega
   rw[List.getElem_append_left hi,List.getElem_append_left gq];exact keep (h.rows i hi gq)
  ·have e1:i=xs.length:=by simp at h1;omega
   subst e1;have e2:(xs++[x])[xs.length]=x:=by simp
   have e3:(hd++[(nm,ws)])[xs.length]=(nm,ws):=by rw[List.getElem_append_right (by rw[h.len];exact Nat.le_refl _)];simp[h.len]
   rw[e2,e3];exact keep hx
 ·intro i h2;by_cases hi:i<hd.length
  ·rw[List.getElem_append_left hi];exact h.pos i hi
  ·have e1:i=hd.length:=by simp at h2;omega
   subst e1;simpa using hp
 ·rw[List.map_append,List.nodup_append];refine⟨h.nd,by simp,fun a ha b hb=>?_⟩;obtain⟨y,hy,rfl⟩:=List.mem_map.1 ha;simp at hb;subst hb;exact hne y hy
def kY (g:GH):List Int:=if 0<g.len then List.replicate g.len.toNat 0 else[g.word]
def ep (gs:List GH):HD:=gs.map fun g=>(g.name,kY g)
def pW:List GH→Nat→List (ByteArray×Int)→List (ByteArray×Int)
 |[],_,l=>l
 |g::r,i,l=>pW r (i+1) (aY g.name (i:Int) l)
abbrev bJ (n:Nat):Nat→Bool:=fun b=>decide (b<n)
theorem Ek {w w':World} {B:Nat} (hb:Below w.heap.size w w') (hB:w.heap.size≤B):Cells w (aA w' (bJ B)):=fun a u hc=>by
 rw[dx,if_pos (by have:=World.block_lt_of_cell? _ _ hc;simp;omega)];exact ag hc hb
theorem qs.sub {w w':World} {g:eE} {v:Value} (h:qs w g v) (hs:Cells w w'):qs w' g v:=by
 obtain⟨pv,rfl,ka,kb,aD,aK,h1,h2,h3⟩:=h;exact⟨pv,rfl,ka,kb,aD,aK,h1,h2,fun i hi=>⟨hs _ _ (h3 i hi).1,hs _ _ (h3 i hi).2⟩⟩
theorem ie.sub {w w':World} {r:List (ByteArray×eE)} {l:List (ByteArray×Value)} (h:ie w r l) (hs:Cells w w'):ie w' r l:=by
 induction h with
 |nil=>exact .nil
 |cons h _ ih=>exact .cons (h.sub hs) ih
theorem iF {w:World} {p:Nat→Bool} {b:Nat} {l:List (ByteArray×Value)} (hm:Mp w b l) (hp:p b=true):Mp (aA w p) b l:=by
 obtain⟨es,c,h1,h2⟩:=hm;exact⟨es,c,by unfold aA;simp only[Array.getElem?_mapIdx,h1,hp,Option.map_some,if_true],h2⟩
theorem ew {w:World} {p:Nat→Bool} {b:Nat} {l:List (ByteArray×Value)} (hm:Mp (aA w p) b l) (hp:p b=true):Mp w b l:=by
 obtain⟨es,c,h1,h2⟩:=hm;refine⟨es,c,?_,h2⟩;unfold aA at h1;simp only[Array.getElem?_mapIdx,hp,if_true] at h1;cases hq:w.heap[b]? with
 |none=>rw[hq] at h1;cases h1
 |some o=>rw[hq] at h1;simpa using h1
theorem pH.only {w w':World} {B:Nat} {vs:VS} {cs:dM} {vb cb:Nat} (h:pH w vs cs vb cb) (hb:Below w.heap.size w w') (hB:w.heap.size≤B):pH (aA w' (bJ B)) vs cs vb cb:=by
 obtain⟨h1,l,h2,h3⟩:=h;exact⟨iF (h1.mono hb) (by have:=h1.lt;simp;omega),l,iF (h2.mono hb) (by have:=h2.lt;simp;omega),h3.sub (Ek hb hB)⟩
structure ik (w:World) (B:Nat) (u:UT) (vs:VS) (cs:dM) (pl:List (ByteArray×Int)) (hd:HD) (xs:List Value) (X vb cb pb:Nat) (vg vh vf hv:Value):Prop where
 box:Bx w X #[vg,vh,vf,.map (some vb),.map (some cb),hv,.map (some pb)] 94
 unit:jR (aA w (bJ B)) false none u (.agg #[vg,vh,vf])
 nm:pH (aA w (bJ B)) vs cs vb cb
 held:dO w B hd xs hv
 place:Mp w pb (pl.map fun x=>(x.1,Value.int .i64 x.2))
 lX:X<w.heap.size
 lv:vb<B
 lc:cb<B
 lp:pb<B
 lB:B≤w.heap.size
def P16 (w:World) (u:UT) (e:Ending) (w':World):Prop:=
 Below w.heap.size w w'∧((aW u≠0∧e=.returned (.tuple #[.pointer none,.int .i64 (aW u)]))∨
  (aW u=0∧∃B vs cs X vb cb pb vg vh vf hv xs,e=.returned (.tuple #[.pointer (some ⟨X,0,none⟩),.int .i64 0])∧dJ u=some (vs,cs)∧w.heap.size≤B∧w.heap.size≤X∧ik w' B u vs cs (pW u.gs 0 []) (ep u.gs) xs X vb cb pb vg vh vf hv))
def yj (n:Nat) (w:World) (B:Nat) (u:UT) (cs:dM) (vb cb pb:Nat) (vg vh vf:Value):Prop:=
 ∃w0 l,jR w0 false none u (.agg #[vg,vh,vf])∧ie w0 cs l∧Mp w cb l∧(∀a u,w0.cell? a=some u→n≤a.block∧a.block<B∧w.cell? a=some u)∧n≤vb∧n≤cb∧n≤pb
def Em (w:World) (u:UT) (e:Ending) (w':World):Prop:=
 Below w.heap.size w w'∧((aW u≠0∧e=.returned (.tuple #[.pointer none,.int .i64 (aW u)]))∨
  (aW u=0∧∃B vs cs X vb cb pb vg vh vf hv xs,e=.returned (.tuple #[.pointer (some ⟨X,0,none⟩),.int .i64 0])∧dJ u=some (vs,cs)∧w.heap.size≤B∧w.heap.size≤X∧ik w' B u vs cs (pW u.gs 0 []) (ep u.gs) xs X vb cb pb vg vh vf hv∧
   yj w.heap.size w' B u cs vb cb pb vg vh vf))
theorem Em.plain {w:World} {u:UT} {e:Ending} {w':World} (h:Em w u e w'):P16 w u e w':=by
 obtain⟨h1,h2|⟨h2,B,vs,cs,X,vb,cb,pb,vg,vh,vf,hv,xs,a,b,c,d,f,-⟩⟩:=h
 ·exact⟨h1,.inl h2⟩
 ·exact⟨h1,.inr ⟨h2,B,vs,cs,X,vb,cb,pb,vg,vh,vf,hv,xs,a,b,c,d,f⟩⟩
theorem fI {u:UT} (h:aW u=0):jG u=0∧∃vs cs,dJ u=some (vs,cs)∧u.gs.length≤256∧kB vs cs u.fs=0:=by
 unfold aW at h;split at h
 ·rename_i hc;refine⟨hc,?_⟩;split at h
  ·omega
  ·rename_i vs cs hg;split at h
   ·omega
   ·rename_i hn;exact⟨vs,cs,hg,by omega,h⟩
 ·omega
theorem uw {u:UT} (h:ej u=true) {g:GH} (hg:g∈u.gs):g.len≤4096:=by
 unfold ej at h;simp only[Bool.and_eq_true,List.all_eq_true] at h;have:=h.1 g hg;simp only[nI,Kj,Bool.and_eq_true,Bool.not_eq_true',decide_eq_false_iff_not] at this;omega
end
end Go.Proofs.YtlabadkfkbenoaaGreatDoor
