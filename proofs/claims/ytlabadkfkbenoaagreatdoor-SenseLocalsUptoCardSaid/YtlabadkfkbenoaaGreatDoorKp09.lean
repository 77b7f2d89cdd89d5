/- Walks and plain laws, merged: LocA LocB SenR SenS SenT. No condition. -/
import Derived.Test.YtlabadkfkbenoaaGreatDoorKp08
import Derived.Lib.SliceRun
import Derived.Test.YtlabadkfkbenoaaGreatDoorKp04
import Derived.Test.YtlabadkfkbenoaaGreatDoorKp01
namespace Go.Proofs.YtlabadkfkbenoaaGreatDoor
open Go.RowKit
set_option linter.unusedVariables false
set_option linter.unusedSimpArgs false
set_option maxRecDepth 100000
set_option maxHeartbeats 64000000
section
/-! ### maps whose names are changed -/
section
variable {α β:Type}
def eH (r:ByteArray→ByteArray) (l:List (ByteArray×α)):List (ByteArray×α):=l.map fun x=>(r x.1,x.2)
abbrev Kq (r:ByteArray→ByteArray):Prop:=∀s t,r s=r t→s=t
theorem Hq {r:ByteArray→ByteArray} (hr:Kq r) (s t:ByteArray):(r s==r t)=(s==t):=by
 rw[Bool.eq_iff_iff,MapKept.bytes_beq,MapKept.bytes_beq];exact⟨hr s t,fun h=>by rw[h]⟩
theorem nQ {r:ByteArray→ByteArray} (hr:Kq r) (s:ByteArray):∀l:List (ByteArray×α),getM (r s) (eH r l)=getM s l
 |[]=>rfl
 |x::l=>by
  show getM (r s) ((r x.1,x.2)::eH r l)=_
  rw[cO,cO,Hq hr,nQ hr s l]
theorem lD {r:ByteArray→ByteArray} (hr:Kq r) (s:ByteArray) (v:α):∀l:List (ByteArray×α),aY (r s) v (eH r l)=eH r (aY s v l)
 |[]=>rfl
 |x::l=>by
  show aY (r s) v ((r x.1,x.2)::eH r l)=_
  simp only[aY,Hq hr,lD hr s v l];split<;>rfl
theorem rP {r:ByteArray→ByteArray} {f g:Option α→List (ByteArray×α)→Option α} (h:∀a sc,f a (eH r sc)=g a sc):∀(ss:List (List (ByteArray×α))) (a:Option α),(ss.map (eH r)).foldl f a=ss.foldl g a
 |[],_=>rfl
 |x::l,a=>by
  simp only[List.map_cons,List.foldl_cons,h];exact rP h l _
theorem rQ {r:ByteArray→ByteArray} (hr:Kq r) (s:ByteArray) (ss:List Scope):ez (r s) (ss.map (eH r))=ez s ss:=rP (fun a sc=>by rw[nQ hr]) ss none
theorem rR {r:ByteArray→ByteArray} (hr:Kq r) (s:ByteArray) (fr:Fr):ml (r s) (fr.map (eH r))=ml s fr:=rP (fun a sc=>by rw[nQ hr]) fr none
theorem Cw {r:ByteArray→ByteArray} (hr:Kq r) (s:ByteArray) (v:Int):∀fr:Fr,rM (r s) v (fr.map (eH r))=(rM s v fr).map (eH r)
 |[]=>rfl
 | c::l=>by
  simp only[List.map_cons,rM,rR hr,nQ hr,Cw hr s v l];split
  ·rfl
  ·split
   ·rw[lD hr];rfl
   ·rfl
theorem xW (r:ByteArray→ByteArray):∀fr:Fr,(fr.map (eH r)).getLastD []=eH r (fr.getLastD [])
 |[]=>rfl
 |[c]=>rfl
 |c::d::l=>by
  have:=xW r (d::l);simpa[List.getLastD] using this
theorem Hr {r:ByteArray→ByteArray} (hr:Kq r) (s:ByteArray) (x:Int×Int) (fr:Fr):iE (r s) x (fr.map (eH r))=(iE s x fr).map (eH r):=by
 unfold iE;rw[xW,lD hr,List.map_append,List.map_dropLast];rfl
end
/-! ### trees whose locals are named otherwise -/
section
variable (r:ByteArray→ByteArray)
def mr (h:EH):EH:=if h.kind=3 then{h with name:=r h.name} else h
def jq:az→az
 | .nil=>.nil
 | .cons h k l=>.cons (mr r h) (jq k) (jq l)
def qy (h:SH):SH:=if h.kind=1∨h.kind=2 then{h with name:=r h.name} else h
def jz:aH→aH
 | .nil=>.nil
 | .cons h x b e l=>.cons (qy r h) (jq r x) (jz b) (jz e) (jz l)
def oK (a:PW):PW:=(r a.1,a.2)
theorem nR (h:EH):(mr r h).kind=h.kind:=by unfold mr;split<;>rfl
theorem xX (h:EH):(mr r h).word=h.word:=by unfold mr;split<;>rfl
theorem rS (h:EH):(mr r h).type=h.type:=by unfold mr;split<;>rfl
theorem rT (h:EH):(mr r h).sign=h.sign:=by unfold mr;split<;>rfl
theorem Ar {h:EH} (q:h.kind=3):(mr r h).name=r h.name:=by unfold mr;rw[if_pos q]
theorem Au {h:EH} (q:¬h.kind=3):(mr r h).name=h.name:=by unfold mr;rw[if_neg q]
theorem kU (h:SH):(qy r h).kind=h.kind:=by unfold qy;split<;>rfl
theorem rU (h:SH):(qy r h).type=h.type:=by unfold qy;split<;>rfl
theorem nS (h:SH):(qy r h).sign=h.sign:=by unfold qy;split<;>rfl
theorem lF {h:SH} (q:h.kind=1∨h.kind=2):(qy r h).name=r h.name:=by unfold qy;rw[if_pos q]
theorem Av {h:SH} (q:¬(h.kind=1∨h.kind=2)):(qy r h).name=h.name:=by unfold qy;rw[if_neg q]
theorem nT:∀l:az,(jq r l).len=l.len
 | .nil=>rfl
 | .cons h k l=>by simp only[jq,az.len,nT l]
theorem qL:∀l:aH,(jz r l).len=l.len
 | .nil=>rfl
 | .cons h x b e l=>by simp only[jz,aH.len,qL l]
theorem Aw:∀l:az,(jq r l).sz=l.sz
 | .nil=>rfl
 | .cons h k l=>by simp only[jq,az.sz,Aw k,Aw l]
theorem rV:∀l:aH,(jz r l).sz=l.sz
 | .nil=>rfl
 | .cons h x b e l=>by simp only[jz,aH.sz,Aw,rV b,rV e,rV l]
theorem Ax:∀l:az,qF (jq r l)=qF l
 | .nil=>rfl
 | .cons h k l=>by simp only[jq,qF,Ax k,Ax l]
theorem vL:∀l:aH,qG (jz r l)=qG l
 | .nil=>rfl
 | .cons h x b e l=>by simp only[jz,qG,Ax,vL b,vL e,vL l]
theorem Qo (l:az):(jq r l).fk=l.fk:=by
 cases l with
 |nil=>rfl
 |cons h k l=>exact nR r h
theorem nU:∀l:az,(jq r l).bu=l.bu.map fun a=>(mr r a.1,jq r a.2)
 | .nil=>rfl
 | .cons h k l=>by simp only[jq,az.bu,nU l,List.map_cons]
theorem nV:∀l:aH,dN (jz r l)=dN l
 | .nil=>rfl
 | .cons h x b e l=>by simp only[jz,dN,kU,nV b,nV e,nV l]
theorem qM:∀l:aH,jH (jz r l)=jH l
 | .nil=>rfl
 | .cons h x b e l=>by simp only[jz,jH,kU,qM b,qM e,qM l]
end
theorem Qp (h:EH):mr id h=h:=by unfold mr;split<;>rfl
theorem Ay:∀l:az,jq id l=l
 | .nil=>rfl
 | .cons h k l=>by simp only[jq,Qp,Ay k,Ay l]
theorem Qq (h:SH):qy id h=h:=by unfold qy;split<;>rfl
theorem vM:∀l:aH,jz id l=l
 | .nil=>rfl
 | .cons h x b e l=>by simp only[jz,Qq,Ay,vM b,vM e,vM l]
/-! ### the program's check -/
section
variable {r:ByteArray→ByteArray} (hn:∀s,aS s=true→aS (r s)=true)
include hn
theorem Qr {h:EH} {n:Nat} (q:tN h n=true):tN (mr r h) n=true:=by
 unfold tN at q⊢;rw[nR,xX,rS,rT];by_cases h3:h.kind=3
 ·simp only[h3,Ar r h3] at q⊢;simp only[show¬((3:Int)=1) by decide,show¬((3:Int)=2) by decide,if_false,if_true,Bool.and_eq_true] at q⊢;exact⟨q.1,q.2.1,hn _ q.2.2⟩
 ·rw[Au r h3];exact q
theorem Az:∀{l:az},jS l=true→jS (jq r l)=true
 | .nil,_=>rfl
 | .cons h k l,q=>by
  simp only[jS,Bool.and_eq_true] at q;simp only[jq,jS,nT,Bool.and_eq_true];exact⟨⟨Az q.1.1,Qr hn q.1.2⟩,Az q.2⟩
theorem Qs {h:SH} {n:Nat} {fk:Int} {nb ne:Nat} (q:gy h n fk nb ne=true):gy (qy r h) n fk nb ne=true:=by
 unfold gy at q⊢;rw[kU,rU,nS];by_cases h1:h.kind=1
 ·simp only[h1,lF r (.inl h1)] at q⊢;simp only[if_true,Bool.and_eq_true] at q⊢;exact⟨q.1,hn _ q.2.1,q.2.2⟩
 by_cases h2:h.kind=2
 ·simp only[h2,lF r (.inr h2)] at q⊢;simp only[show¬((2:Int)=1) by decide,if_false,if_true,Bool.and_eq_true] at q⊢;exact⟨q.1,hn _ q.2.1,q.2.2⟩
 ·rw[Av r (fun c=>c.elim h1 h2)];exact q
theorem vN:∀{l:aH},gU l=true→gU (jz r l)=true
 | .nil,_=>rfl
 | .cons h x b e l,q=>by
  simp only[gU,Bool.and_eq_true] at q;simp only[jz,gU,nT,Qo,qL,Bool.and_eq_true];exact⟨Qs hn q.1,vN q.2.1,vN q.2.2.1,Az hn q.2.2.2.1,vN q.2.2.2.2⟩
theorem Qt {l:List PW} (q:D1 l=true):D1 (l.map (oK r))=true:=by
 unfold D1 at q⊢;simp only[Bool.and_eq_true,List.all_eq_true,List.length_map] at q⊢;refine⟨fun a ha=>?_,q.2⟩;obtain⟨b,hb,rfl⟩:=List.mem_map.1 ha;have:=q.1 b hb;unfold jF oK at*;simp only[Bool.and_eq_true] at this⊢;exact⟨hn _ this.1,this.2⟩
end
/-! ### what makes sense -/
structure Rn (vs:VS) (cs cs':dM) (r:ByteArray→ByteArray):Prop where
 inj:Kq r
 v:∀s,(getM s vs).isSome=true→r s=s
 c:∀s,(getM s cs).isSome=true→r s=s
 call:∀s ks,fj cs' s ks=fj cs s ks
 some:∀s,(getM s cs').isSome=(getM s cs).isSome
section
variable {vs:VS} {cs cs':dM} {r:ByteArray→ByteArray} (H:Rn vs cs cs' r)
include H
theorem Rn.gv (s:ByteArray):getM (r s) vs=getM s vs:=by
 by_cases h:(getM s vs).isSome=true
 ·rw[H.v s h]
 by_cases h2:(getM (r s) vs).isSome=true
 ·rw[H.inj _ _ (H.v _ h2)]
 ·rw[Option.not_isSome_iff_eq_none.1 h,Option.not_isSome_iff_eq_none.1 h2]
theorem Rn.gc (s:ByteArray):(getM (r s) cs).isSome=(getM s cs).isSome:=by
 by_cases h:(getM s cs).isSome=true
 ·rw[H.c s h]
 by_cases h2:(getM (r s) cs).isSome=true
 ·rw[H.inj _ _ (H.c _ h2)]
 ·rw[Bool.eq_false_iff.2 h,Bool.eq_false_iff.2 h2]
theorem Rn.has (s:ByteArray):eQ vs cs' (r s)=eQ vs cs s:=by
 unfold eQ;rw[H.gv,H.some,H.gc]
theorem Rn.sees {s:ByteArray} (h:(getM s vs).isSome=true) (ss:List Scope):ez s (ss.map (eH r))=ez s ss:=by
 have:=rQ H.inj s ss;rwa[H.v s h] at this
theorem Cx (ss:List Scope) (s:ByteArray):gi vs (ss.map (eH r)) (r s)=gi vs ss s:=by
 unfold gi;rw[rQ H.inj,H.gv]
theorem Cy (ss:List Scope) (s:ByteArray):gj vs (ss.map (eH r)) s=gj vs ss s:=by
 unfold gj;cases h:getM s vs with
 |none=>rfl
 |some x=>rw[H.sees (by rw[h];rfl)]
theorem Hs (ss:List Scope) (h:EH) (ks:List Int):mj vs cs' (ss.map (eH r)) (mr r h) ks=mj vs cs ss h ks:=by
 unfold mj;rw[nR,rT,rS];by_cases h3:h.kind=3
 ·rw[Ar r h3,Cx H];simp only[h3,show¬((3:Int)=2) by decide,if_false,if_true]
 ·rw[Au r h3,Cy H,H.call];simp only[h3,if_false]
theorem vO (ss:List Scope):∀l:az,jn vs cs' (ss.map (eH r)) (jq r l)=jn vs cs ss l
 | .nil=>rfl
 | .cons h k l=>by
  simp only[jq,jn,vO ss k,vO ss l,Hs H]
theorem Qu (ss:List Scope) (h:EH) (k:az):um vs cs' (ss.map (eH r)) (mr r h) (jq r k)=um vs cs ss h k:=by
 unfold um;rw[vO H];simp only[Hs H]
def Ht {α β:Type} (f:α→β):Except Int α→Except Int β
 | .error e=>.error e
 | .ok a=>.ok (f a)
omit H in
theorem AA {α β:Type} (f:α→β) (x:Except Int α):bW (Ht f x)=bW x:=by cases x<;>rfl
theorem Qv (ret:Int) (h:SH) (x:az) (rb re rw:Except Int Unit) (ss:List Scope) (c:Scope) (lp:Nat):
  ix vs cs' ret (qy r h) (jq r x) rb re rw (ss.map (eH r)) (eH r c) lp=Ht (eH r) (ix vs cs ret h x rb re rw ss c lp):=by
 have e1:ss.map (eH r)++[eH r c]=(ss++[c]).map (eH r):=by simp
 unfold ix;rw[e1,vO H,Cy H,kU,rU,nS];cases jn vs cs (ss++[c]) x with
 |error er=>rfl
 | ok ts=>
  simp only[];by_cases h1:h.kind=1
  ·rw[lF r (.inl h1),rQ H.inj,H.has,lD H.inj];simp only[h1,if_true];split
   ·rfl
   ·split<;>rfl
  by_cases h2:h.kind=2
  ·rw[lF r (.inr h2),Cx H];simp only[h2,show¬((2:Int)=1) by decide,if_false,if_true];cases gi vs (ss++[c]) h.name with
   |error er=>rfl
   |ok t=>
    simp only[];split
    ·cases iB h.sign t<;>rfl
    ·rfl
  rw[Av r (fun q=>q.elim h1 h2)];simp only[h1,h2,if_false];split
  ·cases gj vs (ss++[c]) h.name with
   |error er=>rfl
   |ok t=>
    simp only[];split
    ·cases iB h.sign t<;>rfl
    ·rfl
  split
  ·split
   ·cases rb with
    |error er=>rfl
    |ok _=>cases re<;>rfl
   ·rfl
  split
  ·split
   ·cases rw<;>rfl
   ·rfl
  split
  ·split<;>rfl
  split
  ·split<;>rfl
  ·rfl
theorem vP (ret:Int):∀(l:aH) (ss:List Scope) (c:Scope) (lp:Nat),fO vs cs' ret (jz r l) (ss.map (eH r)) (eH r c) lp=Ht (eH r) (fO vs cs ret l ss c lp)
 | .nil,_,_,_=>rfl
 | .cons h x b e l,ss,c,lp=>by
  have e1:ss.map (eH r)++[eH r c]=(ss++[c]).map (eH r):=by simp
  have hb:=fun lp=>vP ret b (ss++[c]) [] lp
  have he:=fun lp=>vP ret e (ss++[c]) [] lp
  simp only[show eH r ([]:Scope)=[] from rfl] at hb he;simp only[jz,fO,e1,hb,he,AA,Qv H];cases ix vs cs ret h x (bW (fO vs cs ret b (ss++[c]) [] lp)) (bW (fO vs cs ret e (ss++[c]) [] lp)) (bW (fO vs cs ret b (ss++[c]) [] (lp+1))) ss c lp with
  |error er=>rfl
  |ok c'=>exact vP ret l ss c' lp
theorem rW:∀(l:List PW) (sc:Scope),cC vs cs' (l.map (oK r)) (eH r sc)=Ht (eH r) (cC vs cs l sc)
 |[],_=>rfl
 |p::l,sc=>by
  simp only[List.map_cons,cC];rw[show(oK r p).1=r p.1 from rfl,show(oK r p).2=p.2 from rfl,nQ H.inj,H.has,lD H.inj,rW l];split<;>rfl
def rX (r:ByteArray→ByteArray) (f:FH):FH:={f with params:=f.params.map (oK r),body:=jz r f.body}
theorem Hu (f:FH):vG vs cs' (rX r f)=vG vs cs f:=by
 unfold vG rX;simp only[];have ha:=rW H f.params [];rw[show eH r ([]:Scope)=[] from rfl] at ha;rw[ha];cases cC vs cs f.params [] with
 |error e=>rfl
 |ok sc=>
  have hc:=vP H f.type f.body [sc] [] 0;rw[show eH r ([]:Scope)=[] from rfl,show[sc].map (eH r)=[eH r sc] from rfl] at hc;simp only[Ht];rw[hc,List.length_map,nV,qM];split
  ·rfl
  ·cases fO vs cs f.type f.body [sc] [] 0<;>rfl
end
end
section
def Out.map {α β:Type} (f:α→β):Out α→Out β
 | .ok a m=>.ok (f a) m
 | .stop k x m=>.stop k x m
 | .lost=>.lost
theorem Out.map_id {α:Type} (o:Out α):o.map id=o:=by cases o<;>rfl
theorem bind_map {α β γ δ:Type} {o:Out α} {o':Out β} {f:α→β} (ho:o'=o.map f) {k:α→MS→Out γ} {k':β→MS→Out δ} {g:γ→δ} (h:∀a m,k' (f a) m=(k a m).map g):o'.bind k'=(o.bind k).map g:=by
 subst ho;cases o with
 |ok a m=>exact h a m
 |stop _ _ _=>rfl
 |lost=>rfl
theorem eU {α γ δ:Type} {o o':Out α} (ho:o'=o) {k:α→MS→Out γ} {k':α→MS→Out δ} {g:γ→δ} (h:∀a m,k' a m=(k a m).map g):o'.bind k'=(o.bind k).map g:=by
 subst ho;cases o' with
 |ok a m=>exact h a m
 |stop _ _ _=>rfl
 |lost=>rfl
theorem bind_eq {α γ:Type} {o o':Out α} (ho:o'=o) {k k':α→MS→Out γ} (h:∀a m,k' a m=k a m):o'.bind k'=o.bind k:=by
 rw[ho,show k'=k from funext fun a=>funext fun m=>h a m]
theorem Ei {α β γ:Type} {o:Out α} {o':Out β} {f:α→β} (ho:o'=o.map f) {k:α→MS→Out γ} {k':β→MS→Out γ} (h:∀a m,k' (f a) m=k a m):o'.bind k'=o.bind k:=by
 subst ho;cases o with
 |ok a m=>exact h a m
 |stop _ _ _=>rfl
 |lost=>rfl
def OA (r:ByteArray→ByteArray) (q:Int×Int×Fr):Int×Int×Fr:=(q.1,q.2.1,q.2.2.map (eH r))
structure Sg (r:ByteArray→ByteArray) (cf fw:Cf) (g g':eE):Prop where
 host:g'.host=g.host
 fn:g'.fn=g.fn
 run:g.host<0→∀f,cf.fs[g.fn.toNat]? =some f→∃r0,(r0=r∨r0=id)∧g'.params=g.params.map (oK r0)∧∃f',fw.fs[g.fn.toNat]? =some f'∧f'.body=jz r0 f.body
 non:g.host<0→cf.fs[g.fn.toNat]? =none→fw.fs[g.fn.toNat]? =none
structure Cfs (r:ByteArray→ByteArray) (cf fw:Cf):Prop where
 vs:fw.vs=cf.vs
 pl:fw.pl=cf.pl
 hs:fw.hs=cf.hs
 al:fw.allowed=cf.allowed
 va:fw.values=cf.values
 jd:fw.jd=cf.jd
 sg:∀s,(getM s fw.cs=none∧getM s cf.cs=none)∨∃g g',getM s cf.cs=some g∧getM s fw.cs=some g'∧Sg r cf fw g g'
structure Rl (cf fw:Cf) (r:ByteArray→ByteArray):Prop where
 rn:Rn cf.vs cf.cs fw.cs r
 p:∀s,(getM s cf.pl).isSome=true→r s=s
theorem Rl.pl {cf fw:Cf} {r:ByteArray→ByteArray} (H:Rl cf fw r) (s:ByteArray):getM (r s) cf.pl=getM s cf.pl:=by
 by_cases h:(getM s cf.pl).isSome=true
 ·rw[H.p s h]
 by_cases h2:(getM (r s) cf.pl).isSome=true
 ·rw[H.rn.inj _ _ (H.p _ h2)]
 ·rw[Option.not_isSome_iff_eq_none.1 h,Option.not_isSome_iff_eq_none.1 h2]
structure Tw (r:ByteArray→ByteArray) (cf fw:Cf) (ev o8:ic):Prop where
 E:∀r0,(r0=r∨r0=id)→∀d fr h k m,o8.E d (fr.map (eH r0)) (mr r0 h) (jq r0 k) m=ev.E d fr h k m
 L:∀r0,(r0=r∨r0=id)→∀d fr l m,o8.L d (fr.map (eH r0)) (jz r0 l) m=(ev.L d fr l m).map (OA r0)
 W:∀r0,(r0=r∨r0=id)→∀d fr h k b m,o8.W d (fr.map (eH r0)) (mr r0 h) (jq r0 k) (jz r0 b) m=(ev.W d fr h k b m).map (OA r0)
 F:∀g g',Sg r cf fw g g'→g.host<0→∀d l m,o8.F d g' l m=ev.F d g l m
section
variable {r:ByteArray→ByteArray} {cf fw:Cf} {ev o8:ic} (C:Cfs r cf fw) (R:∀r0,(r0=r∨r0=id)→Rl cf fw r0)
include C
theorem rY (s:ByteArray):placeOf fw s=placeOf cf s:=by unfold placeOf;rw[C.pl]
theorem mM (m:MS) (s:ByteArray):bI fw m s=bI cf m s:=by unfold bI;rw[rY C]
theorem LU (m:MS) (s:ByteArray) (i:Nat) (v:Int):fM fw m s i v=fM cf m s i v:=by unfold fM;rw[rY C,mM C]
theorem Hv (s:ByteArray):mn fw s=mn cf s:=by unfold mn;rw[C.vs]
theorem vQ (m:MS):tick fw m=tick cf m:=by unfold tick;rw[C.al]
theorem Hw {g g':eE} (hg:g'.host=g.host) (l:List Int) (m:MS):je fw g' l m=je cf g l m:=by unfold je;rw[C.va,C.hs,hg]
section
variable {r0:ByteArray→ByteArray} (H:Rl cf fw r0)
include H
theorem uu (s:ByteArray):placeOf fw (r0 s)=placeOf cf s:=by unfold placeOf;rw[C.pl,H.pl]
theorem uv (m:MS) (s:ByteArray):bI fw m (r0 s)=bI cf m s:=by unfold bI;rw[uu C H]
theorem Qw (m:MS) (s:ByteArray) (i:Nat) (v:Int):fM fw m (r0 s) i v=fM cf m s i v:=by unfold fM;rw[uu C H,uv C H]
theorem Cz (fr:Fr) (m:MS) (s:ByteArray):ib fw (fr.map (eH r0)) m (r0 s)=ib cf fr m s:=by
 unfold ib mn;rw[rR H.rn.inj,uv C H,C.vs,H.rn.gv]
theorem xY (fr:Fr) (m:MS) (s:ByteArray) (v:Int):cE fw (fr.map (eH r0)) m (r0 s) v=((cE cf fr m s v).1.map (eH r0),(cE cf fr m s v).2):=by
 unfold cE;rw[rR H.rn.inj,Cw H.rn.inj,Qw C H];split<;>rfl
theorem Qx (fr:Fr) (h:EH) (k:az):Ef fw (fr.map (eH r0)) (mr r0 h) (jq r0 k)=Ef cf fr h k:=by
 unfold Ef;have e:(fr.map (eH r0)).map (fun sc=>sc.map fun x=>(x.1,x.2.1))=(fr.map fun sc=>sc.map fun x=>(x.1,x.2.1)).map (eH r0):=by
  simp[eH,Function.comp_def]
 rw[e,C.vs,Qu H.rn]
theorem Qy (fr:Fr) (l:az) (i:Nat):rN fw (fr.map (eH r0)) (jq r0 l) i=rN cf fr l i:=by
 unfold rN;rw[nU,List.getElem?_map];cases l.bu[i]? with
 |none=>rfl
 |some a=>exact Qx C H fr a.1 a.2
end
variable (T:Tw r cf fw ev o8)
section
variable {r0:ByteArray→ByteArray} (h0:r0=r∨r0=id) (H:Rl cf fw r0)
include T h0 H
omit C H in
theorem CA (d:Nat) (fr:Fr) (l:az) (i:Nat) (m:MS):jo o8 d (fr.map (eH r0)) (jq r0 l) i m=jo ev d fr l i m:=by
 unfold jo;rw[nU,List.getElem?_map];cases l.bu[i]? with
 |none=>rfl
 |some a=>exact T.E r0 h0 d fr a.1 a.2 m
omit C H in
theorem xZ (d:Nat) (fr:Fr):∀(l:az) (m:MS),df o8 d (fr.map (eH r0)) (jq r0 l) m=df ev d fr l m
 | .nil,m=>rfl
 | .cons h k l,m=>by
  simp only[jq,df];exact bind_eq (T.E r0 h0 d fr h k m) fun v m=>bind_eq (xZ d fr l m) fun _ _=>rfl
theorem LX (d:Nat) (fr:Fr) (h:EH) (k:az) (m:MS):aF fw o8 d (fr.map (eH r0)) (mr r0 h) (jq r0 k) m=aF cf ev d fr h k m:=by
 unfold aF;simp only[nR,xX,rT,rS,CA T h0,xZ T h0,Qy C H,C.jd,mM C];by_cases h3:h.kind=3
 ·simp only[h3,show¬((3:Int)=1∨(3:Int)=2) by decide,if_false,if_true,Ar r0 h3,Cz C H]
 simp only[Au r0 h3,h3,if_false];by_cases h5:h.kind=5
 ·simp only[h5,show¬((5:Int)=1∨(5:Int)=2) by decide,show¬((5:Int)=4) by decide,if_false,if_true];refine bind_eq rfl fun args m=>?_
  rcases C.sg h.name with⟨e1,e2⟩|⟨g,g',e1,e2,hg⟩
  ·simp only[e1,e2]
  ·simp only[e1,e2,hg.host];split
   ·rename_i q;exact T.F g g' hg q d args m
   ·exact Hw C hg.host args m
 ·simp only[h5,if_false]
theorem LY (d:Nat) (fr:Fr) (h:EH) (k:az) (m:MS):uq fw o8 d (fr.map (eH r0)) (mr r0 h) (jq r0 k) m=uq cf ev d fr h k m:=by
 unfold uq;rw[vQ C];exact bind_eq rfl fun _ m=>LX C T h0 H d fr h k m
theorem Qz (d:Nat) (fr:Fr) (h:SH) (x:az) (m:MS) (hk:h.kind=1∨h.kind=2):ij fw o8 d (fr.map (eH r0)) (qy r0 h) (jq r0 x) m=(ij cf ev d fr h x m).map (List.map (eH r0)):=by
 unfold ij;rw[lF r0 hk,nS,CA T h0,Cz C H,C.jd];refine eU rfl fun v m2=>?_
 rw[xY C H];split
 ·rfl
 ·split
  ·rw[xY C H];rfl
  ·rfl
omit H in
theorem QA (d:Nat) (fr:Fr) (h:SH) (x:az) (m:MS) (hk:¬(h.kind=1∨h.kind=2)):gB fw o8 d (fr.map (eH r0)) (qy r0 h) (jq r0 x) m=gB cf ev d fr h x m:=by
 unfold gB;simp only[Av r0 hk,nS,CA T h0,C.jd,mM C,LU C,Hv C]
theorem LZ (d:Nat) (fr:Fr) (h:SH) (x:az) (b e:aH) (m:MS):bn fw o8 d (fr.map (eH r0)) (qy r0 h) (jq r0 x) (jz r0 b) (jz r0 e) m=(bn cf ev d fr h x b e m).map (OA r0):=by
 unfold bn;rw[vQ C];refine eU rfl fun _ m=>?_
 simp only[kU,rU,CA T h0];by_cases h1:h.kind=1
 ·simp only[h1,if_true,lF r0 (.inl h1)];exact eU rfl fun v m=>by rw[Hr H.rn.inj];rfl
 by_cases h2:h.kind=2
 ·simp only[h2,show¬((2:Int)=1) by decide,if_false,if_true];rw[Qz C T h0 H _ _ _ _ _ (.inr h2)];exact bind_map rfl fun v m=>rfl
 simp only[h1,h2,if_false];split
 ·rw[QA C T h0 _ _ _ _ _ (fun q=>q.elim h1 h2)];exact eU rfl fun _ m=>rfl
 split
 ·refine eU rfl fun c m=>?_
  split<;>exact T.L r0 h0 _ _ _ _
 split
 ·rw[nU,List.getElem?_map];cases x.bu[0]? with
  |none=>rfl
  |some a=>exact T.W r0 h0 d fr a.1 a.2 b m
 split
 ·rfl
 split
 ·rfl
 split
 ·exact eU rfl fun v m=>rfl
 split
 ·exact eU rfl fun v m=>rfl
 ·rfl
theorem ye (d:Nat):∀(l:aH) (fr:Fr) (m:MS),cM fw o8 d (jz r0 l) (fr.map (eH r0)) m=(cM cf ev d l fr m).map (OA r0)
 | .nil,fr,m=>rfl
 | .cons h x b e l,fr,m=>by
  simp only[jz,cM];refine bind_map (LZ C T h0 H d fr h x b e m) fun q m=>?_
  show(if q.1=0 then cM fw o8 d (jz r0 l) (q.2.2.map (eH r0)) m else .ok (OA r0 q) m)=_
  by_cases c:q.1=0
  ·rw[if_pos c,if_pos c];exact ye d l q.2.2 m
  ·rw[if_neg c,if_neg c];rfl
theorem L4 (d:Nat) (fr:Fr) (l:aH) (m:MS):mq fw o8 d (fr.map (eH r0)) (jz r0 l) m=(mq cf ev d fr l m).map (OA r0):=by
 unfold mq;have e:fr.map (eH r0)++[[]]=(fr++[[]]).map (eH r0):=by rw[List.map_append];rfl
 rw[e];refine bind_map (ye C T h0 H d l (fr++[[]]) m) fun q m=>?_
 simp only[OA,Out.map,List.map_dropLast]
omit H in
theorem Hx (d:Nat) (fr:Fr) (h:EH) (k:az) (b:aH) (m:MS):fU fw o8 d (fr.map (eH r0)) (mr r0 h) (jq r0 k) (jz r0 b) m=(fU cf ev d fr h k b m).map (OA r0):=by
 unfold fU;refine eU (T.E r0 h0 d fr h k m) fun c m=>?_
 split
 ·rfl
 refine bind_map (T.L r0 h0 d fr b m) fun q m=>?_
 show(if q.1=3 then Out.ok (3,q.2.1,q.2.2.map (eH r0)) m else if q.1=1 then .ok (0,0,q.2.2.map (eH r0)) m else(tick fw m).bind fun _ m=>o8.W d (q.2.2.map (eH r0)) (mr r0 h) (jq r0 k) (jz r0 b) m)=_
 by_cases c3:q.1=3
 ·rw[if_pos c3,if_pos c3];rfl
 by_cases c1:q.1=1
 ·rw[if_neg c3,if_neg c3,if_pos c1,if_pos c1];rfl
 rw[if_neg c3,if_neg c3,if_neg c1,if_neg c1,vQ C];exact eU rfl fun _ m=>T.W r0 h0 d q.2.2 h k b m
end
omit C in
theorem CD {r0:ByteArray→ByteArray} (hr:Kq r0):∀(ps:List PW) (l:List Int) (sc:Hp),fT (ps.map (oK r0)) l (eH r0 sc)=eH r0 (fT ps l sc)
 |[],_,_=>rfl
 |p::ps,[],_=>rfl
 |p::ps,a::l,sc=>by
  simp only[List.map_cons,fT];rw[show(oK r0 p).1=r0 p.1 from rfl,show(oK r0 p).2=p.2 from rfl,lD hr,CD hr ps l]
include R T in
omit C in
theorem L6 (g g':eE) (hg:Sg r cf fw g g') (hh:g.host<0) (d:Nat) (l:List Int) (m:MS):ku fw o8 d g' l m=ku cf ev d g l m:=by
 unfold ku;split
 ·rfl
 rw[hg.fn];cases hf:cf.fs[g.fn.toNat]? with
 |none=>rw[hg.non hh hf]
 |some f=>
  obtain⟨r0,h0,hp,f',hf',hb⟩:=hg.run hh f hf;have H:=R r0 h0;rw[hf'];simp only[];have hs:=CD H.rn.inj g.params l [];rw[show eH r0 ([]:Hp)=[] from rfl] at hs;rw[hp,hb,hs];exact Ei (T.L r0 h0 (d+1) [fT g.params l []] f.body m) fun q m=>rfl
end
theorem Hy {r:ByteArray→ByteArray} {cf fw:Cf} (C:Cfs r cf fw) (R:∀r0,(r0=r∨r0=id)→Rl cf fw r0):∀n,Tw r cf fw (aI cf n) (aI fw n)
 |0=>⟨fun _ _ _ _ _ _ _=>rfl,fun _ _ _ _ _ _=>rfl,fun _ _ _ _ _ _ _ _=>rfl,fun _ _ _ _ _ _ _=>rfl⟩
 |n+1=>by
  have T:=Hy C R n;exact⟨fun r0 h0 d fr h k m=>LY C T h0 (R r0 h0) d fr h k m,fun r0 h0 d fr l m=>L4 C T h0 (R r0 h0) d fr l m,fun r0 h0 d fr h k b m=>Hx C T h0 d fr h k b m,fun g g' hg hh d l m=>L6 R T g g' hg hh d l m⟩
end
section
open Go.Shelf
theorem cI {P:Program} {w:World} {ops:Array Oper} {rest:List Oper} {o:Oper} {a:Act} {Q:Exit→Act→World→Prop} (hgd:o.guard=none) (s x:Operand) (t:TypeId)
  (ho:o.op=.call {callee:=.builtin .append,args:=#[s,x],argTypes:=#[t,t]})
  (base:Nat) (e:TypeId) (z:Value) (size bytes m:Nat) (ht:P.underlying t=some (.slice e)) (nj:(P.info? e).map (fun i=>(i.zero,i.size,i.bytes))=some (some z,size,bytes))
  (hzs:z.cells.size=size) (hsz:0<size) (v:Value) (n:Nat) (xs:List Value) (hown:w.ownsRow base e size v n xs)
  (ad:Addr) (c:Nat) (news:List Value) (hl:news.length=m*size) (hnews:∀j u,news[j]? =some u→w.cell? (ad.add j)=some u) (h1:∀u∈news,u.oneCell'=true)
  (h63:n+m≤maxLen) (hbytes:(n+m)*bytes≤140737488355328) (hbase:base≤w.heap.size)
  (hs:a.eval s=v) (hx:a.eval x=.slice (some ad) m c)
  (h:∀v' w',aV w w' base e size v v' n m xs news→wpList P ops Q rest (a.put o.dst v') w'):
  wpList P ops Q (o::rest) a w:=by
 obtain⟨i,hi,hz0,hz1,hz2⟩:=info_parts nj;subst hz1;subst hz2;refine wpList_plain hgd fun K hK=>?_
 obtain⟨v',w',hr,hA⟩:=gI (P:=P) w base t o.type e i z ht hi hz0 hzs hsz v n xs hown ad m c news hl hnews h1 h63 hbytes hbase;unfold Oper.wp execOp;simp only[ho,resolve,invoke,builtin,Sem.run_bind,Sem.run_pure,Result.andThen_ok,List.map_toArray,List.map_cons,List.map_nil,hs,hx,hr];exact hK _ _ (h v' w' hA)
theorem dK (w:World) (e:TypeId) (size:Nat):(w.alloc (.cells #[] e)).ownsRow w.heap.size e size (.slice (some ⟨w.heap.size,0,none⟩) 0 0) 0 []:=
 ⟨by simp,.inr ⟨w.heap.size,0,#[],rfl,Nat.le_refl _,heap_alloc_new w _,Nat.le_refl _,by decide,by simp,by simp⟩⟩
theorem L8 (ka:Option Addr) (m c:Nat) (news:List Value) (w:World) (hl:news.length=m*1) (hn:Hid (m=0∨∃a,ka=some a∧∀j u,news[j]? =some u→w.cell? (a.add j)=some u)) (h1:Hid (∀u∈news,u.oneCell'=true)) (hm:m≤100000000):
  Calls Tryz.prog 45 #[.slice ka m c] w fun e w'=>∃v',e=.returned v'∧w'.ownsRow w.heap.size 52 1 v' m news∧Below w.heap.size w w':=by
 have qT:∀(w:World) (a:Option Addr) (n c n' c':Nat),(binOp .eql 27 (.slice a n c) (.slice none n' c')).run Tryz.prog w=.ok (.bool a.isNone) w:=fun w a n c n' c'=>Lib.run_eql_slice_nil w _ _ a n c n' c' Tryz.underlying27
 cases ka with
 |none=>
  have pd:m=0:=by rcases hn.out with h|⟨a,h,_⟩;exact h;cases h
  subst pd;have hnil:news=[]:=List.eq_nil_of_length_eq_zero (by simpa using hl);subst hnil;go_enter Tryz.func45,Tryz.ntmps45;go_wp2_with fail
  go_ret;exact⟨_,rfl,World.ownsRow_nil _ _ _ _,Below.refl _ _⟩
 | some ad=>
  have hrow:=af (dK w 52 1);have hB:=af ((Below.refl w.heap.size w).alloc (Nat.le_refl _) (.cells #[] 52));have hc:Hid (∀j u,news[j]? =some u→(w.alloc (.cells #[] 52)).cell? (ad.add j)=some u):=af (fun j u hj=>by
   rcases hn.out with h|⟨a,h,h2⟩
   ·subst h;have hnil:news=[]:=List.eq_nil_of_length_eq_zero (by simpa using hl);subst hnil;simp at hj
   ·cases h;exact ag (h2 j u hj) hB.out)
  go_enter Tryz.func45,Tryz.ntmps45;go_wp2_with (at_builtin;refine cI rfl _ _ 27 rfl w.heap.size 52 (.int .u32 0) 1 4 m Tryz.underlying27 (by kernel_rfl) rfl (by decide) _ 0 [] hrow.out ad c news hl hc.out h1.out (by unfold maxLen;omega) (by omega) (by simp) rfl rfl ?_;intro v' w' hA;have hR:=af hA.own;have aQ:=af (hB.trans (dY hA hrow.out (by simp)));clear hA)
  go_ret;refine⟨_,rfl,?_,aQ.out⟩;have:=hR.out;rwa[Nat.zero_add,List.nil_append] at this
theorem L9 (ka:Option Addr) (m c:Nat) (news:List Value) (w:World) (hl:news.length=m*5) (hn:Hid (m=0∨∃a,ka=some a∧∀j u,news[j]? =some u→w.cell? (a.add j)=some u)) (h1:Hid (∀u∈news,u.oneCell'=true)) (hm:m≤100000000):
  Calls Tryz.prog 68 #[.slice ka m c] w fun e w'=>∃v',e=.returned v'∧w'.ownsRow w.heap.size 105 5 v' m news∧Below w.heap.size w w':=by
 have qT:∀(w:World) (a:Option Addr) (n c n' c':Nat),(binOp .eql 22 (.slice a n c) (.slice none n' c')).run Tryz.prog w=.ok (.bool a.isNone) w:=fun w a n c n' c'=>Lib.run_eql_slice_nil w _ _ a n c n' c' Tryz.underlying22
 cases ka with
 |none=>
  have pd:m=0:=by rcases hn.out with h|⟨a,h,_⟩;exact h;cases h
  subst pd;have hnil:news=[]:=List.eq_nil_of_length_eq_zero (by simpa using hl);subst hnil;go_enter Tryz.func68,Tryz.ntmps68;go_wp2_with fail
  go_ret;exact⟨_,rfl,World.ownsRow_nil _ _ _ _,Below.refl _ _⟩
 | some ad=>
  have hrow:=af (dK w 105 5);have hB:=af ((Below.refl w.heap.size w).alloc (Nat.le_refl _) (.cells #[] 105));have hc:Hid (∀j u,news[j]? =some u→(w.alloc (.cells #[] 105)).cell? (ad.add j)=some u):=af (fun j u hj=>by
   rcases hn.out with h|⟨a,h,h2⟩
   ·subst h;have hnil:news=[]:=List.eq_nil_of_length_eq_zero (by simpa using hl);subst hnil;simp at hj
   ·cases h;exact ag (h2 j u hj) hB.out)
  go_enter Tryz.func68,Tryz.ntmps68;go_wp2_with (at_builtin;refine cI rfl _ _ 22 rfl w.heap.size 105 (.agg #[.int .i64 0,.string ⟨#[]⟩,.int .u8 0,.int .u32 0,.int .u32 0]) 5 40 m Tryz.underlying22 (by kernel_rfl) rfl (by decide) _ 0 [] hrow.out ad c news hl hc.out h1.out (by unfold maxLen;omega) (by omega) (by simp) rfl rfl ?_;intro v' w' hA;have hR:=af hA.own;have aQ:=af (hB.trans (dY hA hrow.out (by simp)));clear hA)
  go_ret;refine⟨_,rfl,?_,aQ.out⟩;have:=hR.out;rwa[Nat.zero_add,List.nil_append] at this
theorem Ma (ka:Option Addr) (m c:Nat) (news:List Value) (w:World) (hl:news.length=m*5) (hn:Hid (m=0∨∃a,ka=some a∧∀j u,news[j]? =some u→w.cell? (a.add j)=some u)) (h1:Hid (∀u∈news,u.oneCell'=true)) (hm:m≤100000000):
  Calls Tryz.prog 69 #[.slice ka m c] w fun e w'=>∃v',e=.returned v'∧w'.ownsRow w.heap.size 101 5 v' m news∧Below w.heap.size w w':=by
 have qT:∀(w:World) (a:Option Addr) (n c n' c':Nat),(binOp .eql 23 (.slice a n c) (.slice none n' c')).run Tryz.prog w=.ok (.bool a.isNone) w:=fun w a n c n' c'=>Lib.run_eql_slice_nil w _ _ a n c n' c' Tryz.underlying23
 cases ka with
 |none=>
  have pd:m=0:=by rcases hn.out with h|⟨a,h,_⟩;exact h;cases h
  subst pd;have hnil:news=[]:=List.eq_nil_of_length_eq_zero (by simpa using hl);subst hnil;go_enter Tryz.func69,Tryz.ntmps69;go_wp2_with fail
  go_ret;exact⟨_,rfl,World.ownsRow_nil _ _ _ _,Below.refl _ _⟩
 | some ad=>
  have hrow:=af (dK w 101 5);have hB:=af ((Below.refl w.heap.size w).alloc (Nat.le_refl _) (.cells #[] 101));have hc:Hid (∀j u,news[j]? =some u→(w.alloc (.cells #[] 101)).cell? (ad.add j)=some u):=af (fun j u hj=>by
   rcases hn.out with h|⟨a,h,h2⟩
   ·subst h;have hnil:news=[]:=List.eq_nil_of_length_eq_zero (by simpa using hl);subst hnil;simp at hj
   ·cases h;exact ag (h2 j u hj) hB.out)
  go_enter Tryz.func69,Tryz.ntmps69;go_wp2_with (at_builtin;refine cI rfl _ _ 23 rfl w.heap.size 101 (.agg #[.int .i64 0,.string ⟨#[]⟩,.slice none 0 0,.int .u8 0,.int .u32 0]) 5 56 m Tryz.underlying23 (by kernel_rfl) rfl (by decide) _ 0 [] hrow.out ad c news hl hc.out h1.out (by unfold maxLen;omega) (by omega) (by simp) rfl rfl ?_;intro v' w' hA;have hR:=af hA.own;have aQ:=af (hB.trans (dY hA hrow.out (by simp)));clear hA)
  go_ret;refine⟨_,rfl,?_,aQ.out⟩;have:=hR.out;rwa[Nat.zero_add,List.nil_append] at this
theorem Mb (ka:Option Addr) (m c:Nat) (news:List Value) (w:World) (hl:news.length=m*6) (hn:Hid (m=0∨∃a,ka=some a∧∀j u,news[j]? =some u→w.cell? (a.add j)=some u)) (h1:Hid (∀u∈news,u.oneCell'=true)) (hm:m≤100000000):
  Calls Tryz.prog 70 #[.slice ka m c] w fun e w'=>∃v',e=.returned v'∧w'.ownsRow w.heap.size 43 6 v' m news∧Below w.heap.size w w':=by
 have qT:∀(w:World) (a:Option Addr) (n c n' c':Nat),(binOp .eql 24 (.slice a n c) (.slice none n' c')).run Tryz.prog w=.ok (.bool a.isNone) w:=fun w a n c n' c'=>Lib.run_eql_slice_nil w _ _ a n c n' c' Tryz.underlying24
 cases ka with
 |none=>
  have pd:m=0:=by rcases hn.out with h|⟨a,h,_⟩;exact h;cases h
  subst pd;have hnil:news=[]:=List.eq_nil_of_length_eq_zero (by simpa using hl);subst hnil;go_enter Tryz.func70,Tryz.ntmps70;go_wp2_with fail
  go_ret;exact⟨_,rfl,World.ownsRow_nil _ _ _ _,Below.refl _ _⟩
 | some ad=>
  have hrow:=af (dK w 43 6);have hB:=af ((Below.refl w.heap.size w).alloc (Nat.le_refl _) (.cells #[] 43));have hc:Hid (∀j u,news[j]? =some u→(w.alloc (.cells #[] 43)).cell? (ad.add j)=some u):=af (fun j u hj=>by
   rcases hn.out with h|⟨a,h,h2⟩
   ·subst h;have hnil:news=[]:=List.eq_nil_of_length_eq_zero (by simpa using hl);subst hnil;simp at hj
   ·cases h;exact ag (h2 j u hj) hB.out)
  go_enter Tryz.func70,Tryz.ntmps70;go_wp2_with (at_builtin;refine cI rfl _ _ 24 rfl w.heap.size 43 (.agg #[.int .i64 0,.string ⟨#[]⟩,.slice none 0 0,.int .u8 0,.bool false,.slice none 0 0]) 6 80 m Tryz.underlying24 (by kernel_rfl) rfl (by decide) _ 0 [] hrow.out ad c news hl hc.out h1.out (by unfold maxLen;omega) (by omega) (by simp) rfl rfl ?_;intro v' w' hA;have hR:=af hA.own;have aQ:=af (hB.trans (dY hA hrow.out (by simp)));clear hA)
  go_ret;refine⟨_,rfl,?_,aQ.out⟩;have:=hR.out;rwa[Nat.zero_add,List.nil_append] at this
theorem Mc (ka:Option Addr) (m c:Nat) (news:List Value) (w:World) (hl:news.length=m*2) (hn:Hid (m=0∨∃a,ka=some a∧∀j u,news[j]? =some u→w.cell? (a.add j)=some u)) (h1:Hid (∀u∈news,u.oneCell'=true)) (hm:m≤100000000):
  Calls Tryz.prog 71 #[.slice ka m c] w fun e w'=>∃v',e=.returned v'∧w'.ownsRow w.heap.size 46 2 v' m news∧Below w.heap.size w w':=by
 have qT:∀(w:World) (a:Option Addr) (n c n' c':Nat),(binOp .eql 39 (.slice a n c) (.slice none n' c')).run Tryz.prog w=.ok (.bool a.isNone) w:=fun w a n c n' c'=>Lib.run_eql_slice_nil w _ _ a n c n' c' Tryz.underlying39
 cases ka with
 |none=>
  have pd:m=0:=by rcases hn.out with h|⟨a,h,_⟩;exact h;cases h
  subst pd;have hnil:news=[]:=List.eq_nil_of_length_eq_zero (by simpa using hl);subst hnil;go_enter Tryz.func71,Tryz.ntmps71;go_wp2_with fail
  go_ret;exact⟨_,rfl,World.ownsRow_nil _ _ _ _,Below.refl _ _⟩
 | some ad=>
  have hrow:=af (dK w 46 2);have hB:=af ((Below.refl w.heap.size w).alloc (Nat.le_refl _) (.cells #[] 46));have hc:Hid (∀j u,news[j]? =some u→(w.alloc (.cells #[] 46)).cell? (ad.add j)=some u):=af (fun j u hj=>by
   rcases hn.out with h|⟨a,h,h2⟩
   ·subst h;have hnil:news=[]:=List.eq_nil_of_length_eq_zero (by simpa using hl);subst hnil;simp at hj
   ·cases h;exact ag (h2 j u hj) hB.out)
  go_enter Tryz.func71,Tryz.ntmps71;go_wp2_with (at_builtin;refine cI rfl _ _ 39 rfl w.heap.size 46 (.agg #[.string ⟨#[]⟩,.int .u8 0]) 2 24 m Tryz.underlying39 (by kernel_rfl) rfl (by decide) _ 0 [] hrow.out ad c news hl hc.out h1.out (by unfold maxLen;omega) (by omega) (by simp) rfl rfl ?_;intro v' w' hA;have hR:=af hA.own;have aQ:=af (hB.trans (dY hA hrow.out (by simp)));clear hA)
  go_ret;refine⟨_,rfl,?_,aQ.out⟩;have:=hR.out;rwa[Nat.zero_add,List.nil_append] at this
theorem Hz (ka:Option Addr) (m c:Nat) (news:List Value) (w:World) (hl:news.length=m*8) (hn:Hid (m=0∨∃a,ka=some a∧∀j u,news[j]? =some u→w.cell? (a.add j)=some u)) (h1:Hid (∀u∈news,u.oneCell'=true)) (hm:m≤100000000):
  Calls Tryz.prog 113 #[.slice ka m c] w fun e w'=>∃v',e=.returned v'∧w'.ownsRow w.heap.size 109 8 v' m news∧Below w.heap.size w w':=by
 have qT:∀(w:World) (a:Option Addr) (n c n' c':Nat),(binOp .eql 41 (.slice a n c) (.slice none n' c')).run Tryz.prog w=.ok (.bool a.isNone) w:=fun w a n c n' c'=>Lib.run_eql_slice_nil w _ _ a n c n' c' Tryz.underlying41
 cases ka with
 |none=>
  have pd:m=0:=by rcases hn.out with h|⟨a,h,_⟩;exact h;cases h
  subst pd;have hnil:news=[]:=List.eq_nil_of_length_eq_zero (by simpa using hl);subst hnil;go_enter Tryz.func113,Tryz.ntmps113;go_wp2_with fail
  go_ret;exact⟨_,rfl,World.ownsRow_nil _ _ _ _,Below.refl _ _⟩
 | some ad=>
  have hrow:=af (dK w 109 8);have hB:=af ((Below.refl w.heap.size w).alloc (Nat.le_refl _) (.cells #[] 109));have hc:Hid (∀j u,news[j]? =some u→(w.alloc (.cells #[] 109)).cell? (ad.add j)=some u):=af (fun j u hj=>by
   rcases hn.out with h|⟨a,h,h2⟩
   ·subst h;have hnil:news=[]:=List.eq_nil_of_length_eq_zero (by simpa using hl);subst hnil;simp at hj
   ·cases h;exact ag (h2 j u hj) hB.out)
  go_enter Tryz.func113,Tryz.ntmps113;go_wp2_with (at_builtin;refine cI rfl _ _ 41 rfl w.heap.size 109 (.agg #[.int .i64 0,.int .u8 0,.string ⟨#[]⟩,.int .u8 0,.string ⟨#[]⟩,.slice none 0 0,.slice none 0 0,.slice none 0 0]) 8 128 m Tryz.underlying41 (by kernel_rfl) rfl (by decide) _ 0 [] hrow.out ad c news hl hc.out h1.out (by unfold maxLen;omega) (by omega) (by simp) rfl rfl ?_;intro v' w' hA;have hR:=af hA.own;have aQ:=af (hB.trans (dY hA hrow.out (by simp)));clear hA)
  go_ret;refine⟨_,rfl,?_,aQ.out⟩;have:=hR.out;rwa[Nat.zero_add,List.nil_append] at this
theorem HI (ka:Option Addr) (m c:Nat) (news:List Value) (w:World) (hl:news.length=m*7) (hn:Hid (m=0∨∃a,ka=some a∧∀j u,news[j]? =some u→w.cell? (a.add j)=some u)) (h1:Hid (∀u∈news,u.oneCell'=true)) (hm:m≤100000000):
  Calls Tryz.prog 142 #[.slice ka m c] w fun e w'=>∃v',e=.returned v'∧w'.ownsRow w.heap.size 134 7 v' m news∧Below w.heap.size w w':=by
 have qT:∀(w:World) (a:Option Addr) (n c n' c':Nat),(binOp .eql 107 (.slice a n c) (.slice none n' c')).run Tryz.prog w=.ok (.bool a.isNone) w:=fun w a n c n' c'=>Lib.run_eql_slice_nil w _ _ a n c n' c' Tryz.underlying107
 cases ka with
 |none=>
  have pd:m=0:=by rcases hn.out with h|⟨a,h,_⟩;exact h;cases h
  subst pd;have hnil:news=[]:=List.eq_nil_of_length_eq_zero (by simpa using hl);subst hnil;go_enter Tryz.func142,Tryz.ntmps142;go_wp2_with fail
  go_ret;exact⟨_,rfl,World.ownsRow_nil _ _ _ _,Below.refl _ _⟩
 | some ad=>
  have hrow:=af (dK w 134 7);have hB:=af ((Below.refl w.heap.size w).alloc (Nat.le_refl _) (.cells #[] 134));have hc:Hid (∀j u,news[j]? =some u→(w.alloc (.cells #[] 134)).cell? (ad.add j)=some u):=af (fun j u hj=>by
   rcases hn.out with h|⟨a,h,h2⟩
   ·subst h;have hnil:news=[]:=List.eq_nil_of_length_eq_zero (by simpa using hl);subst hnil;simp at hj
   ·cases h;exact ag (h2 j u hj) hB.out)
  go_enter Tryz.func142,Tryz.ntmps142;go_wp2_with (at_builtin;refine cI rfl _ _ 107 rfl w.heap.size 134 (.agg #[.int .i64 0,.int .u8 0,.int .u32 0,.int .u8 0,.string ⟨#[]⟩,.string ⟨#[]⟩,.slice none 0 0]) 7 80 m Tryz.underlying107 (by kernel_rfl) rfl (by decide) _ 0 [] hrow.out ad c news hl hc.out h1.out (by unfold maxLen;omega) (by omega) (by simp) rfl rfl ?_;intro v' w' hA;have hR:=af hA.own;have aQ:=af (hB.trans (dY hA hrow.out (by simp)));clear hA)
  go_ret;refine⟨_,rfl,?_,aQ.out⟩;have:=hR.out;rwa[Nat.zero_add,List.nil_append] at this
end
section
open Go.Shelf
/-! ### a world of some blocks alone -/
def aA (w:World) (p:Nat→Bool):World:={w with heap:=w.heap.mapIdx fun i o=>if p i then o else .map #[] 0}
theorem dx (w:World) (p:Nat→Bool) (a:Addr):(aA w p).cell? a=if p a.block then w.cell? a else none:=by
 unfold aA World.cell?;simp only[Array.getElem?_mapIdx];cases hp:p a.block with
 |true=>
  cases h:w.heap[a.block]? with
  |none=>simp
  |some o=>simp
 |false=>
  cases h:w.heap[a.block]? with
  |none=>simp
  |some o=>simp
abbrev Cells (w w':World):Prop:=∀a u,w.cell? a=some u→w'.cell? a=some u
theorem aZ (w:World) (p:Nat→Bool):Cells (aA w p) w:=fun a u h=>by
 rw[dx] at h;split at h
 ·exact h
 ·cases h
theorem bt {w w':World} {p q:Nat→Bool} (h:∀a u,p a.block=true→w.cell? a=some u→q a.block=true∧w'.cell? a=some u):Cells (aA w p) (aA w' q):=fun a u hc=>by
 rw[dx] at hc⊢;split at hc
 ·rename_i hp;obtain⟨h1,h2⟩:=h a u hp hc;rw[if_pos h1];exact h2
 ·cases hc
theorem kV {w w':World} (h:Below w.heap.size w w'):Cells w w':=fun _ _ hc=>ag hc h
theorem gZ.sub {w w':World} {h:EH} {b q:Nat} (x:gZ w false h b q) (hs:Cells w w'):gZ w' false h b q:=by
 obtain⟨⟨t,y0,jQ⟩,y1,y2,y3,y4,y5⟩:=x;exact⟨⟨t,hs _ _ y0,jQ⟩,hs _ _ y1,hs _ _ y2,hs _ _ y3,hs _ _ y4,hs _ _ y5⟩
theorem ia.sub {w w':World} {h:SH} {b q:Nat} (x:ia w false h b q) (hs:Cells w w'):ia w' false h b q:=by
 obtain⟨⟨t,y0,jQ⟩,y1,y2,y3,y4⟩:=x;exact⟨⟨t,hs _ _ y0,jQ⟩,hs _ _ y1,hs _ _ y2,hs _ _ y3,hs _ _ y4⟩
theorem bw.sub {w w':World} (hs:Cells w w'):∀{l:az} {b off k:Nat},bw w false none l b off k→bw w' false none l b off k
 | .nil,_,_,_,_=>trivial
 | .cons h kids rest,b,off,k,⟨x1,⟨ka,kb,aD,aK,y1,y2,y3⟩,x3⟩=>
  ⟨x1.sub hs,⟨ka,kb,aD,aK,hs _ _ y1,y2.imp id (fun z=>⟨z.1,eP.any⟩),bw.sub hs y3⟩,bw.sub hs x3⟩
theorem dI.sub {w w':World} {l:az} {v:Value} (h:dI w false none l v) (hs:Cells w w'):dI w' false none l v:=by
 obtain⟨ka,kb,aD,aK,rfl,y2,y3⟩:=h;exact⟨ka,kb,aD,aK,rfl,y2.imp id (fun z=>⟨z.1,eP.any⟩),y3.sub hs⟩
theorem bC.sub {w w':World} (hs:Cells w w'):∀{l:aH} {b off k:Nat},bC w false none l b off k→bC w' false none l b off k
 | .nil,_,_,_,_=>trivial
 | .cons h x body els rest,b,off,k,⟨x1,⟨v,z1,z2⟩,⟨ka,kb,aD,aK,y1,y2,y3⟩,⟨ea,eb,eoff,ecap,u1,u2,u3⟩,x3⟩=>
  ⟨x1.sub hs,⟨v,hs _ _ z1,z2.sub hs⟩,⟨ka,kb,aD,aK,hs _ _ y1,y2.imp id (fun z=>⟨z.1,eP.any⟩),bC.sub hs y3⟩,⟨ea,eb,eoff,ecap,hs _ _ u1,u2.imp id (fun z=>⟨z.1,eP.any⟩),bC.sub hs u3⟩,bC.sub hs x3⟩
theorem dR.sub {w w':World} {l:aH} {v:Value} (h:dR w false none l v) (hs:Cells w w'):dR w' false none l v:=by
 obtain⟨ka,kb,aD,aK,rfl,y2,y3⟩:=h;exact⟨ka,kb,aD,aK,rfl,y2.imp id (fun z=>⟨z.1,eP.any⟩),y3.sub hs⟩
abbrev fN (n:Nat):Nat→Bool:=fun b=>decide (n≤b)
abbrev eX (n g:Nat):Nat→Bool:=fun b=>decide (n≤b)&&b !=g
theorem cZ.row {α:Type} {w:World} {B:Nat} {e:TypeId} {n:Nat} {R:Nat→α→List Value→Prop} {l:List α} {g cap m:Nat} (h:cZ w B e n R l (.slice (some ⟨g,0,none⟩) m cap)) (hm:m=l.length) (k:Nat) (hk:k<l.length):
  ∃c,R k l[k] c∧∀j,j<n→w.cell? ⟨g,k*n+j,none⟩=c[j]? :=by
 subst hm;obtain⟨cs,h1,h2,h3⟩:=h;have hl:∀i (h:i<cs.length),cs[i].length=n:=fun i h=>(h2 i (by omega) h).1
 refine⟨cs[k],(h2 k hk (by omega)).2,fun j hj=>?_⟩;have hlt:k*n+j<l.length*n:=by
  calc k*n+j<k*n+n:=by omega
   _=(k+1)*n:=by rw[Nat.add_mul];omega
   _≤l.length*n:=Nat.mul_le_mul_right _ (by omega)
 rw[h3.cellAt _ hlt,gw hl k (by omega) j hj]
theorem cZ.shape {α:Type} {w:World} {B:Nat} {e:TypeId} {n:Nat} {R:Nat→α→List Value→Prop} {l:List α} {v:Value} (h:cZ w B e n R l v):∃va vc,v=.slice va l.length vc∧(l.length=0∨∃g,va=some ⟨g,0,none⟩):=by
 obtain⟨cs,h1,h2,h3⟩:=h;rcases h3.2 with⟨rfl,hn⟩|⟨g,cap,cur,rfl,_⟩
 ·exact⟨none,0,by rw[hn],.inl hn⟩
 ·exact⟨_,_,rfl,.inr ⟨g,rfl⟩⟩
theorem eu (w:World) (b i:Nat) (u:Value) (a:Addr) (h:a.block≠b):(w.setCell ⟨b,i,none⟩ u).cell? a=w.cell? a:=
 World.cell?_of_block (Below.heap_setCell w ⟨b,i,none⟩ u a.block h)
def FE (w0 wr:World) (g:Nat) (d:Bool) (a:EH×az) (c:List Value):Prop:=
 ∃t v,c=[.int .i64 t,.int .u8 a.1.kind,.int .u32 a.1.word,.int .u8 a.1.type,.string a.1.name,.string a.1.sign,v]∧if d then dI (aA wr (eX w0.heap.size g)) false none a.2 v else dI w0 false none a.2 v
theorem FE.on {w0 wr w':World} {g:Nat} {d:Bool} {a:EH×az} {c:List Value} (h:FE w0 wr g d a c) (hs:Cells (aA wr (eX w0.heap.size g)) (aA w' (eX w0.heap.size g))):FE w0 w' g d a c:=by
 obtain⟨t,v,hc,hv⟩:=h;refine⟨t,v,hc,?_⟩;cases d
 ·exact hv
 ·exact hv.sub hs
theorem my {w w':World} {n g:Nat} (h:Below w.heap.size w w'):Cells (aA w (eX n g)) (aA w' (eX n g)):=bt fun a u hp hc=>⟨hp,ag hc h⟩
theorem eL {w:World} {n g i:Nat} {u:Value}:Cells (aA w (eX n g)) (aA (w.setCell ⟨g,i,none⟩ u) (eX n g)):=bt fun a v hp hc=>⟨hp,by
 rw[eu _ _ _ _ _ (by simp at hp;exact hp.2)];exact hc⟩
theorem xg.cells {w:World} {a:EH×az} {b q:Nat} (h:xg w false none a b q):∃c:List Value,c.length=7∧FE w w 0 false a c∧(∀u∈c,u.oneCell'=true)∧∀j u,c[j]? =some u→w.cell? ⟨b,q+j,none⟩=some u:=by
 obtain⟨⟨⟨t,y0,_⟩,y1,y2,y3,y4,y5⟩,⟨v,y6,hv⟩⟩:=h;have hv2:=hv;obtain⟨ka,kc,rfl⟩:=hv2.ay;refine⟨_,rfl,⟨t,_,rfl,hv⟩,by simp[Value.oneCell'],fun j u hj=>?_⟩
 match j,hj with
 |0,hj=>simp at hj;subst hj;exact y0
 |1,hj=>simp at hj;subst hj;exact y1
 |2,hj=>simp at hj;subst hj;exact y2
 |3,hj=>simp at hj;subst hj;exact y3
 |4,hj=>simp at hj;subst hj;exact y4
 |5,hj=>simp at hj;subst hj;exact y5
 |6,hj=>simp at hj;subst hj;exact y6
 |j+7,hj=>simp at hj
theorem yf {w0 wr:World} {l:az} {v:Value} (hg:∀g,v.ownBlock=some g→cZ wr w0.heap.size 134 7 (fun _=>FE w0 wr g true) l.bu v) (hn:v.ownBlock=none→l.len=0) (hs:∃va vc,v=.slice va l.len vc∧(l.len=0∨∃g,va=some ⟨g,0,none⟩)):dI (aA wr (fN w0.heap.size)) false none l v:=by
 obtain⟨va,vc,rfl,hs⟩:=hs;rcases hs with h0|⟨g,rfl⟩
 ·cases l with
  |nil=>exact⟨va,0,0,vc,rfl,.inl ⟨rfl,rfl⟩,trivial⟩
  |cons h k r=>simp[az.len] at h0
 ·have h:=hg g rfl;refine nx.2 ⟨_,g,0,vc,by rw[az.br],.inr ⟨rfl,eP.any⟩,fun i hi=>?_⟩;obtain⟨c,⟨t,v,rfl,hv⟩,hc⟩:=h.row (by rw[az.br]) i hi;have Fu:=(h.lt g rfl).1;have hb:∀j u,j<7→([Value.int .i64 t,.int .u8 l.bu[i].1.kind,.int .u32 l.bu[i].1.word,.int .u8 l.bu[i].1.type,.string l.bu[i].1.name,.string l.bu[i].1.sign,v]:List Value)[j]? =some u→(aA wr (fN w0.heap.size)).cell? ⟨g,0+i*7+j,none⟩=some u:=fun j u hj hu=>by
   rw[dx,if_pos (by simpa using Fu),Nat.zero_add,hc j hj,hu]
  exact⟨⟨⟨t,hb 0 _ (by omega) rfl,fun e=>by cases e⟩,hb 1 _ (by omega) rfl,hb 2 _ (by omega) rfl,hb 3 _ (by omega) rfl,hb 4 _ (by omega) rfl,hb 5 _ (by omega) rfl⟩,
   ⟨v,hb 6 _ (by omega) rfl,hv.sub (bt fun a u hp hc=>⟨by simp at hp⊢;exact hp.1,hc⟩)⟩⟩
theorem rZ:∀(n:Nat) (l:az) (v:Value) (w:World),l.sz<n→l.sz≤100000000→dI w false none l v→
  Calls Tryz.prog 114 #[v] w fun e w'=>∃v',e=.returned v'∧dI (aA w' (fN w.heap.size)) false none l v'∧Below w.heap.size w w':=by
 intro n
 induction n with
 |zero=>intro l v w hn;omega
 | succ n ih=>
  have IH:=af ih;clear ih;intro l v w hn hs hv;have hl:=l.bU;have hS:=af (And.intro hn hs);have hV:=af hv;obtain⟨ka,kc,rfl⟩:=hv.ay;obtain⟨cs,c1,c2,c3,-,c5,c6⟩:=ei.cells (by omega) (nx.1 hv) (FE w w 0 false) (fun a b q h=>h.cells);have OC:l.bu.length=l.len:=az.br l;have cc:=af (HI ka l.len kc cs.flatten w c5 (af c6) (af c3) (by omega));have Md:=af (And.intro c1 c2);have AB:=af OC;obtain⟨len,hlen⟩:∃m,m=l.len:=⟨_,rfl⟩;rw[←hlen] at cc;rw[←hlen] at hl;rw[←hlen];have hkb:len≤100000000:=by have:=hS.out;omega
  have HL:=af hlen;clear hn hs hv c1 c2 c3 c5 c6 OC hlen;go_enter Tryz.func114,Tryz.ntmps114;go_wp2_with fail
  refine cc.mono ?_;clear cc;rintro e w1 ⟨v1,rfl,hown,hb1⟩;have iU:=af hb1;have D2:Hid (∀g,cZ w1 w.heap.size 134 7 (fun i=>FE w w1 g (decide (i<0))) l.bu v1):=af (fun g=>⟨cs,Md.1,fun i h h'=>⟨(Md.2 i h h').1,by
   obtain⟨t,v,hc,hv⟩:=(Md.2 i h h').2;exact⟨t,v,hc,by simpa using hv⟩⟩,by rw[AB.out,←HL.out];exact hown⟩)
  have Kr:=(D2.out 0).shape;rw[AB.out,←HL.out] at Kr;obtain⟨va,vc,rfl,tT⟩:=Kr;clear hown hb1 Md;go_wp2_with fail
  go_loopw [10] (fun i wr=>∃k:Nat,i=.int .i64 k∧k≤len∧(∀g,(Value.slice va len vc).ownBlock=some g→cZ wr w.heap.size 134 7 (fun i=>FE w wr g (decide (i<k))) l.bu (.slice va len vc))∧Below w.heap.size w wr) (fun i _=>len- (intOf i).toNat)
  case atStart=>exact⟨0,rfl,Nat.zero_le _,fun g _=>D2.out g,iU.out⟩
  case round=>
   clear D2 iU;obtain⟨k,rfl,hk,lS,hb⟩:=hrel;have HB:=af hb;have QB:=af lS;clear lS;by_cases hlt:k<len
   ·have tU:∃g,va=some ⟨g,0,none⟩:=by rcases tT with q|q;(·omega);(·exact q)
    obtain⟨g,rfl⟩:=tU;have hD:=QB.out g rfl;have gR:k<l.bu.length:=by rw[AB.out,←HL.out];exact hlt
    obtain⟨c,⟨t,vk,hc,Me⟩,hcell⟩:=hD.row (by rw[AB.out,←HL.out]) k gR;simp only[Nat.lt_irrefl,decide_false,Bool.false_eq_true,if_false] at Me;have hsz:=az.jX l _ (List.getElem_mem gR);have zN:Hid (∀(w2:World) (u:Value),cZ w2 w.heap.size 134 7 (fun i=>FE w w2 g (decide (i<k))) l.bu (.slice (some ⟨g,0,none⟩) len vc)→dI (aA (w2.setCell ⟨g,k*7+6,none⟩ u) (eX w.heap.size g)) false none l.bu[k].2 u→cZ (w2.setCell ⟨g,k*7+6,none⟩ u) w.heap.size 134 7 (fun i=>FE w (w2.setCell ⟨g,k*7+6,none⟩ u) g (decide (i<k+1))) l.bu (.slice (some ⟨g,0,none⟩) len vc)):=af (fun w2 u Tc hu=>by
     refine Tc.store (by rw[AB.out,←HL.out]) k gR 6 (by omega) u (fun i a c hi hx=>?_) (fun c hx=>?_)
     ·have e1:decide (i<k+1)=decide (i<k):=by simp;omega
      rw[e1];exact hx.on eL
     ·obtain⟨t,v,rfl,-⟩:=hx;exact⟨t,u,rfl,by simpa using hu⟩)
    obtain⟨ak,HY⟩:∃a,a=l.bu[k]:=⟨_,rfl⟩;rw[←HY] at hc Me hsz zN;obtain⟨⟨b0,b1,b2,b3,b4,b5⟩,kids⟩:=ak;simp only[] at hc Me hsz zN;subst hc;obtain⟨xa,xc,rfl⟩:=Me.ay;have x0:=hcell 0 (by omega);have x1:=hcell 1 (by omega);have x2:=hcell 2 (by omega);have x3:=hcell 3 (by omega);have x4:=hcell 4 (by omega);have x5:=hcell 5 (by omega);have x6:=hcell 6 (by omega);have f6:=hD.free (by rw[AB.out,←HL.out]) (k*7+6);simp at x0 x1 x2 x3 x4 x5 x6;have FI:=af ((Below.refl wr.heap.size wr).alloc (Nat.le_refl _) (.cells #[.int .i64 t,.int .u8 b1,.int .u32 b2,.int .u8 b3,.string b4,.string b5,.slice xa kids.len xc] 134));have cx:=af (IH.out kids (.slice xa kids.len xc) (wr.alloc (.cells #[.int .i64 t,.int .u8 b1,.int .u32 b2,.int .u8 b3,.string b4,.string b5,.slice xa kids.len xc] 134)) (by have:=hS.out;omega) (by have:=hS.out;omega) (Me.mono (hb.trans (FI.mono hb.size))));have Vz:=(hD.lt g rfl);have HG:=af Vz;clear hcell Me hsz hb hD HY gR Vz;go_wp2_with fail
    refine cx.mono ?_;rintro e w2 ⟨v2,rfl,hv2,hb2⟩;obtain⟨ya,yc,rfl⟩:=hv2.ay;have HV2:=af hv2;have pU:=af (FI.trans (hb2.mono FI.size));have Tc:=af ((QB.out g rfl).on (ah pU.out) (.inr (by simp[Value.ownBlock])) (R':=fun i=>FE w w2 g (decide (i<k))) (fun i a c h=>h.on (my pU.out)));have f6b:=Tc.free (by rw[AB.out,←HL.out]) (k*7+6);have x6b:=ag x6 pU.out;clear hv2 hb2 cx;go_wp2_with fail
    have hD3:=af (zN.out w2 (.slice ya kids.len yc) Tc.out (HV2.sub (bt fun a u hp hc=>by
     simp at hp;have:=HG.out;refine⟨by simp;omega,?_⟩;rw[eu _ _ _ _ _ (by omega)];exact hc)))
    exact⟨⟨k+1,by go_num,by omega,fun g' Ks=>by cases Ks;exact hD3.out,(HB.trans (pU.mono HB.size)).setCell (by have:=HG.out;simpa using this.1) _⟩,by simp only[intOf];omega⟩
   ·have hk2:k=len:=by omega
    subst k;go_wp2_with fail
    go_ret;refine⟨.slice va len vc,rfl,?_,HB.out⟩;refine yf (fun g hg=>?_) (fun hn=>?_) ⟨va,vc,by rw[HL.out],by rw[←HL.out];exact tT⟩
    ·obtain⟨cs,d1,d2,d3⟩:=QB.out g hg;refine⟨cs,d1,fun i h h'=>⟨(d2 i h h').1,?_⟩,d3⟩;have hi:i<len:=by have:=AB.out;have:=HL.out;omega
     have hd:decide (i<len)=true:=by simpa using hi
     have h2:FE w wr g (decide (i<len)) l.bu[i] cs[i]:=(d2 i h h').2;rw[hd] at h2;exact h2
    ·rw[←HL.out];rcases tT with h0|⟨g,rfl⟩
     ·exact h0
     ·simp[Value.ownBlock] at hn
end
section
open Go.Shelf
def zu (w0 wr:World) (g:Nat) (d:Bool) (a:SB) (c:List Value):Prop:=
 ∃t v5 v6 v7,c=[.int .i64 t,.int .u8 a.1.kind,.string a.1.name,.int .u8 a.1.type,.string a.1.sign,v5,v6,v7]∧
  if d then dI (aA wr (eX w0.heap.size g)) false none a.2.1 v5∧dR (aA wr (eX w0.heap.size g)) false none a.2.2.1 v6∧dR (aA wr (eX w0.heap.size g)) false none a.2.2.2 v7
  else dI w0 false none a.2.1 v5∧dR w0 false none a.2.2.1 v6∧dR w0 false none a.2.2.2 v7
theorem zu.on {w0 wr w':World} {g:Nat} {d:Bool} {a:SB} {c:List Value} (h:zu w0 wr g d a c) (hs:Cells (aA wr (eX w0.heap.size g)) (aA w' (eX w0.heap.size g))):zu w0 w' g d a c:=by
 obtain⟨t,v5,v6,v7,hc,hv⟩:=h;refine⟨t,v5,v6,v7,hc,?_⟩;cases d
 ·exact hv
 ·exact⟨hv.1.sub hs,hv.2.1.sub hs,hv.2.2.sub hs⟩
theorem xk.cells {w:World} {a:SB} {b q:Nat} (h:xk w false none a b q):∃c:List Value,c.length=8∧zu w w 0 false a c∧(∀u∈c,u.oneCell'=true)∧∀j u,c[j]? =some u→w.cell? ⟨b,q+j,none⟩=some u:=by
 obtain⟨⟨⟨t,y0,_⟩,y1,y2,y3,y4⟩,⟨v5,y5,h5⟩,⟨v6,y6,h6⟩,⟨v7,y7,h7⟩⟩:=h;have hh:=And.intro h5 (And.intro h6 h7);obtain⟨k5,d5,rfl⟩:=h5.ay;obtain⟨k6,d6,rfl⟩:=h6.ay;obtain⟨k7,d7,rfl⟩:=h7.ay;refine⟨_,rfl,⟨t,_,_,_,rfl,hh⟩,by simp[Value.oneCell'],fun j u hj=>?_⟩
 match j,hj with
 |0,hj=>simp at hj;subst hj;exact y0
 |1,hj=>simp at hj;subst hj;exact y1
 |2,hj=>simp at hj;subst hj;exact y2
 |3,hj=>simp at hj;subst hj;exact y3
 |4,hj=>simp at hj;subst hj;exact y4
 |5,hj=>simp at hj;subst hj;exact y5
 |6,hj=>simp at hj;subst hj;exact y6
 |7,hj=>simp at hj;subst hj;exact y7
 |j+8,hj=>simp at hj
theorem vR {w0 wr:World} {l:aH} {v:Value} (hg:∀g,v.ownBlock=some g→cZ wr w0.heap.size 109 8 (fun _=>zu w0 wr g true) l.bu v) (hs:∃va vc,v=.slice va l.len vc∧(l.len=0∨∃g,va=some ⟨g,0,none⟩)):dR (aA wr (fN w0.heap.size)) false none l v:=by
 obtain⟨va,vc,rfl,hs⟩:=hs;rcases hs with h0|⟨g,rfl⟩
 ·cases l with
  |nil=>exact⟨va,0,0,vc,rfl,.inl ⟨rfl,rfl⟩,trivial⟩
  |cons h x b e r=>simp[aH.len] at h0
 ·have h:=hg g rfl;refine ny.2 ⟨_,g,0,vc,by rw[aH.br],.inr ⟨rfl,eP.any⟩,fun i hi=>?_⟩;obtain⟨c,⟨t,v5,v6,v7,rfl,QC,yg,VA⟩,hc⟩:=h.row (by rw[aH.br]) i hi;have Fu:=(h.lt g rfl).1;have hb:∀j u,j<8→([Value.int .i64 t,.int .u8 l.bu[i].1.kind,.string l.bu[i].1.name,.int .u8 l.bu[i].1.type,.string l.bu[i].1.sign,v5,v6,v7]:List Value)[j]? =some u→(aA wr (fN w0.heap.size)).cell? ⟨g,0+i*8+j,none⟩=some u:=fun j u hj hu=>by
   rw[dx,if_pos (by simpa using Fu),Nat.zero_add,hc j hj,hu]
  have hm:Cells (aA wr (eX w0.heap.size g)) (aA wr (fN w0.heap.size)):=bt fun a u hp hc=>⟨by simp at hp⊢;exact hp.1,hc⟩
  exact⟨⟨⟨t,hb 0 _ (by omega) rfl,fun e=>by cases e⟩,hb 1 _ (by omega) rfl,hb 2 _ (by omega) rfl,hb 3 _ (by omega) rfl,hb 4 _ (by omega) rfl⟩,
   ⟨v5,hb 5 _ (by omega) rfl,QC.sub hm⟩,⟨v6,hb 6 _ (by omega) rfl,yg.sub hm⟩,⟨v7,hb 7 _ (by omega) rfl,VA.sub hm⟩⟩
theorem gC {w w':World} (h:Below w.heap.size w w') (row:Option Nat):w.grownBy w' row:=⟨h.os,h.tape,h.output,h.size,fun k hk _=>h.block k hk⟩
theorem AE {w w4:World} {l:List SB} {g k len vc:Nat} (hD:cZ w4 w.heap.size 109 8 (fun i=>zu w w4 g (decide (i<k))) l (.slice (some ⟨g,0,none⟩) len vc)) (hm:len=l.length) (hk:k<l.length) (v5 v6 v7:Value)
  (h5:dI (aA w4 (eX w.heap.size g)) false none l[k].2.1 v5) (h6:dR (aA w4 (eX w.heap.size g)) false none l[k].2.2.1 v6) (h7:dR (aA w4 (eX w.heap.size g)) false none l[k].2.2.2 v7):
  cZ (((w4.setCell ⟨g,k*8+5,none⟩ v5).setCell ⟨g,k*8+6,none⟩ v6).setCell ⟨g,k*8+7,none⟩ v7) w.heap.size 109 8 (fun i=>zu w (((w4.setCell ⟨g,k*8+5,none⟩ v5).setCell ⟨g,k*8+6,none⟩ v6).setCell ⟨g,k*8+7,none⟩ v7) g (decide (i<k+1))) l (.slice (some ⟨g,0,none⟩) len vc):=by
 have s1:=hD.store (R':=fun i a c=>(i≠k→zu w (w4.setCell ⟨g,k*8+5,none⟩ v5) g (decide (i<k)) a c)∧(i=k→∃t u6 u7,c=[.int .i64 t,.int .u8 a.1.kind,.string a.1.name,.int .u8 a.1.type,.string a.1.sign,v5,u6,u7])) hm k hk 5 (by omega) v5
  (fun i a c hi hx=>⟨fun _=>hx.on eL,fun e=>absurd e hi⟩) (fun c hx=>by
   obtain⟨t,u5,u6,u7,rfl,-⟩:=hx;exact⟨fun e=>absurd rfl e,fun _=>⟨t,u6,u7,rfl⟩⟩)
 have s2:=s1.store (R':=fun i a c=>(i≠k→zu w ((w4.setCell ⟨g,k*8+5,none⟩ v5).setCell ⟨g,k*8+6,none⟩ v6) g (decide (i<k)) a c)∧(i=k→∃t u7,c=[.int .i64 t,.int .u8 a.1.kind,.string a.1.name,.int .u8 a.1.type,.string a.1.sign,v5,v6,u7])) hm k hk 6 (by omega) v6
  (fun i a c hi hx=>⟨fun _=>(hx.1 hi).on eL,fun e=>absurd e hi⟩) (fun c hx=>by
   obtain⟨t,u6,u7,rfl⟩:=hx.2 rfl;exact⟨fun e=>absurd rfl e,fun _=>⟨t,u7,rfl⟩⟩)
 refine s2.store hm k hk 7 (by omega) v7 (fun i a c hi hx=>?_) (fun c hx=>?_)
 ·have e1:decide (i<k+1)=decide (i<k):=by simp;omega
  rw[e1];exact(hx.1 hi).on eL
 ·obtain⟨t,u7,rfl⟩:=hx.2 rfl;have Lq:Cells (aA w4 (eX w.heap.size g)) (aA (((w4.setCell ⟨g,k*8+5,none⟩ v5).setCell ⟨g,k*8+6,none⟩ v6).setCell ⟨g,k*8+7,none⟩ v7) (eX w.heap.size g)):=fun a u h=>eL _ _ (eL _ _ (eL _ _ h))
  exact⟨t,v5,v6,v7,rfl,by simpa using⟨h5.sub Lq,h6.sub Lq,h7.sub Lq⟩⟩
theorem vS:∀(n:Nat) (l:aH) (v:Value) (w:World),l.sz<n→l.sz≤100000000→dR w false none l v→
  Calls Tryz.prog 72 #[v] w fun e w'=>∃v',e=.returned v'∧dR (aA w' (fN w.heap.size)) false none l v'∧Below w.heap.size w w':=by
 intro n
 induction n with
 |zero=>intro l v w hn;omega
 | succ n ih=>
  have IH:=af ih;clear ih;intro l v w hn hs hv;have hl:=l.bU;have hS:=af (And.intro hn hs);have hV:=af hv;obtain⟨ka,kc,rfl⟩:=hv.ay;obtain⟨cs,c1,c2,c3,-,c5,c6⟩:=ei.cells (by omega) (ny.1 hv) (zu w w 0 false) (fun a b q h=>h.cells);have OC:l.bu.length=l.len:=aH.br l;have cc:=af (Hz ka l.len kc cs.flatten w c5 (af c6) (af c3) (by omega));have Md:=af (And.intro c1 c2);have AB:=af OC;obtain⟨len,hlen⟩:∃m,m=l.len:=⟨_,rfl⟩;rw[←hlen] at cc;rw[←hlen] at hl;rw[←hlen];have hkb:len≤100000000:=by have:=hS.out;omega
  have HL:=af hlen;clear hn hs hv c1 c2 c3 c5 c6 OC hlen;go_enter Tryz.func72,Tryz.ntmps72;go_wp2_with fail
  refine cc.mono ?_;clear cc;rintro e w1 ⟨v1,rfl,hown,hb1⟩;have iU:=af hb1;have D2:Hid (∀g,cZ w1 w.heap.size 109 8 (fun i=>zu w w1 g (decide (i<0))) l.bu v1):=af (fun g=>⟨cs,Md.1,fun i h h'=>⟨(Md.2 i h h').1,by
   obtain⟨t,u5,u6,u7,hc,hv⟩:=(Md.2 i h h').2;exact⟨t,u5,u6,u7,hc,by simpa using hv⟩⟩,by rw[AB.out,←HL.out];exact hown⟩)
  have Kr:=(D2.out 0).shape;rw[AB.out,←HL.out] at Kr;obtain⟨va,vc,rfl,tT⟩:=Kr;clear hown hb1 Md;go_wp2_with fail
  go_loopw [10] (fun i wr=>∃k:Nat,i=.int .i64 k∧k≤len∧(∀g,(Value.slice va len vc).ownBlock=some g→cZ wr w.heap.size 109 8 (fun i=>zu w wr g (decide (i<k))) l.bu (.slice va len vc))∧Below w.heap.size w wr) (fun i _=>len- (intOf i).toNat)
  case atStart=>exact⟨0,rfl,Nat.zero_le _,fun g _=>D2.out g,iU.out⟩
  case round=>
   clear D2 iU;obtain⟨k,rfl,hk,lS,hb⟩:=hrel;have HB:=af hb;have QB:=af lS;clear lS;by_cases hlt:k<len
   ·have tU:∃g,va=some ⟨g,0,none⟩:=by rcases tT with q|q;(·omega);(·exact q)
    obtain⟨g,rfl⟩:=tU;have hD:=QB.out g rfl;have gR:k<l.bu.length:=by rw[AB.out,←HL.out];exact hlt
    have hm:len=l.bu.length:=by rw[AB.out,←HL.out]
    obtain⟨c,⟨t,u5,u6,u7,hc,Me⟩,hcell⟩:=hD.row hm k gR;simp only[Nat.lt_irrefl,decide_false,Bool.false_eq_true,if_false] at Me;obtain⟨h5,h6,h7⟩:=Me;have hsz:=aH.jX l _ (List.getElem_mem gR);have zN:Hid (∀(w4:World) (v5 v6 v7:Value),cZ w4 w.heap.size 109 8 (fun i=>zu w w4 g (decide (i<k))) l.bu (.slice (some ⟨g,0,none⟩) len vc)→dI (aA w4 (eX w.heap.size g)) false none l.bu[k].2.1 v5→dR (aA w4 (eX w.heap.size g)) false none l.bu[k].2.2.1 v6→dR (aA w4 (eX w.heap.size g)) false none l.bu[k].2.2.2 v7→cZ (((w4.setCell ⟨g,k*8+5,none⟩ v5).setCell ⟨g,k*8+6,none⟩ v6).setCell ⟨g,k*8+7,none⟩ v7) w.heap.size 109 8 (fun i=>zu w (((w4.setCell ⟨g,k*8+5,none⟩ v5).setCell ⟨g,k*8+6,none⟩ v6).setCell ⟨g,k*8+7,none⟩ v7) g (decide (i<k+1))) l.bu (.slice (some ⟨g,0,none⟩) len vc)):=af (fun w4 v5 v6 v7 Tc k5 k6 k7=>AE Tc hm gR v5 v6 v7 k5 k6 k7);have HM:=af hm;obtain⟨ak,HY⟩:∃a,a=l.bu[k]:=⟨_,rfl⟩;rw[←HY] at hc h5 h6 h7 hsz zN;obtain⟨⟨b0,b1,b2,b3,b4⟩,x,bd,el⟩:=ak;simp only[] at hc h5 h6 h7 hsz zN;subst hc;obtain⟨xa,xc,rfl⟩:=h5.ay;obtain⟨ba,bc,rfl⟩:=h6.ay;obtain⟨ea,ec,rfl⟩:=h7.ay;have x0:=hcell 0 (by omega);have x1:=hcell 1 (by omega);have x2:=hcell 2 (by omega);have x3:=hcell 3 (by omega);have x4:=hcell 4 (by omega);have x5:=hcell 5 (by omega);have x6:=hcell 6 (by omega);have x7:=hcell 7 (by omega);simp at x0 x1 x2 x3 x4 x5 x6 x7;have H5:=af (h5.mono hb);have H6:=af (h6.mono hb);have H7:=af (h7.mono hb);have VB:=af (show x.sz<n∧x.sz≤100000000∧bd.sz<n∧bd.sz≤100000000∧el.sz<n∧el.sz≤100000000 by have:=hS.out;omega);have FI:=af ((Below.refl wr.heap.size wr).alloc (Nat.le_refl _) (.cells #[.int .i64 t,.int .u8 b1,.string b2,.int .u8 b3,.string b4,.slice xa x.len xc,.slice ba bd.len bc,.slice ea el.len ec] 109));have n5:(wr.alloc (.cells #[.int .i64 t,.int .u8 b1,.string b2,.int .u8 b3,.string b4,.slice xa x.len xc,.slice ba bd.len bc,.slice ea el.len ec] 109)).cell? ⟨wr.heap.size,5,none⟩=some (.slice xa x.len xc):=by simp
    have n6:(wr.alloc (.cells #[.int .i64 t,.int .u8 b1,.string b2,.int .u8 b3,.string b4,.slice xa x.len xc,.slice ba bd.len bc,.slice ea el.len ec] 109)).cell? ⟨wr.heap.size,6,none⟩=some (.slice ba bd.len bc):=by simp
    have n7:(wr.alloc (.cells #[.int .i64 t,.int .u8 b1,.string b2,.int .u8 b3,.string b4,.slice xa x.len xc,.slice ba bd.len bc,.slice ea el.len ec] 109)).cell? ⟨wr.heap.size,7,none⟩=some (.slice ea el.len ec):=by simp
    have Vz:=(hD.lt g rfl);have HG:=af Vz;have Mf:wr.heap.size≠g:=by omega
    have X5:=af x5;have X6:=af x6;have X7:=af x7;clear hcell h5 h6 h7 hsz hb hD HY gR Vz hm;go_wp2_with fail
    refine wp_region_held_drew (S:=(fun w9=>World.grownBy (wr.alloc (.cells #[.int .i64 t,.int .u8 b1,.string b2,.int .u8 b3,.string b4,.slice xa x.len xc,.slice ba bd.len bc,.slice ea el.len ec] 109)) w9 (some g))) (by kernel_rfl) (aJ _ _) (fun hHeld=>?_);refine tk 0 ?_;refine tk 1 ?_;refine tk 2 ?_;refine tk 3 ?_;refine tk 4 ?_;refine tk 5 ?_;refine tk 6 ?_;refine tk 7 ?_ (hy:=by intro w' hSw;have q1:=hSw.cell n5 (by simpa using Mf);go_simp;(try with_reducible rfl));refine tk 9 ?_;refine tk 10 ?_ (hy:=by intro w' hSw;have q1:=hSw.cell n6 (by simpa using Mf);go_simp;(try with_reducible rfl));refine tk 12 ?_;refine tk 13 ?_ (hy:=by intro w' hSw;have q1:=hSw.cell n7 (by simpa using Mf);go_simp;(try with_reducible rfl));have cx:=af (rZ (x.sz+1) x (.slice xa x.len xc) (wr.alloc (.cells #[.int .i64 t,.int .u8 b1,.string b2,.int .u8 b3,.string b4,.slice xa x.len xc,.slice ba bd.len bc,.slice ea el.len ec] 109)).drew (Nat.lt_succ_self _) (by have:=VB.out;omega) (H5.mono FI.drew));refine tr 8 fun K hK=>?_
    go_simp;go_at_call 114;refine cx.mono ?_;clear cx;rintro e w2 ⟨v5,rfl,QC,dS⟩;obtain⟨QD,QE,rfl⟩:=QC.ay;have Hhv5:=af QC;have VC:=af ((Below.refl (wr.alloc (.cells #[.int .i64 t,.int .u8 b1,.string b2,.int .u8 b3,.string b4,.slice xa x.len xc,.slice ba bd.len bc,.slice ea el.len ec] 109)).heap.size (wr.alloc (.cells #[.int .i64 t,.int .u8 b1,.string b2,.int .u8 b3,.string b4,.slice xa x.len xc,.slice ba bd.len bc,.slice ea el.len ec] 109))).drew.trans dS);have cT:=gC VC.out (some g);clear hHeld QC dS;go_wp2_with fail
    refine hK.out _ _ cT (fun hHeld=>?_);clear hK K cT
    try simp only[bK,bL,bM,bN,bO]
    have cx:=af (IH.out bd (.slice ba bd.len bc) w2 (by have:=VB.out;omega) (by have:=VB.out;omega) (H6.mono (FI.trans (VC.mono FI.size))));refine tr 11 fun K hK=>?_
    go_simp;go_at_call 72;refine cx.mono ?_;clear cx;rintro e w3 ⟨v6,rfl,yg,dS⟩;obtain⟨H0,H3,rfl⟩:=yg.ay;have Hhv6:=af yg;have VD:=af (VC.trans (dS.mono VC.size));have B34:=af dS;have cT:=gC VD.out (some g);clear hHeld yg dS;go_wp2_with fail
    refine hK.out _ _ cT (fun hHeld=>?_);clear hK K cT
    try simp only[bK,bL,bM,bN,bO]
    have cx:=af (IH.out el (.slice ea el.len ec) w3 (by have:=VB.out;omega) (by have:=VB.out;omega) (H7.mono (FI.trans (VD.mono FI.size))));refine tr 14 fun K hK=>?_
    go_simp;go_at_call 72;refine cx.mono ?_;clear cx;rintro e w4 ⟨v7,rfl,VA,dS⟩;obtain⟨QG,QH,rfl⟩:=VA.ay;have Hhv7:=af VA;have YM:=af (VD.trans (dS.mono VD.size));have B43:=af dS;have cT:=gC YM.out (some g);clear hHeld VA dS;go_wp2_with fail
    refine hK.out _ _ cT (fun hHeld=>?_);clear hK K cT
    try simp only[bK,bL,bM,bN,bO]
    have Td:=af (FI.trans (YM.mono FI.size));have YN:=af ((QB.out g rfl).on (ah Td.out) (.inr (by simp[Value.ownBlock])) (R':=fun i=>zu w w4 g (decide (i<k))) (fun i a c h=>h.on (my Td.out)));have y5:=ag X5.out Td.out;have y6:=ag X6.out Td.out;have y7:=ag X7.out Td.out;have f5:=YN.free HM.out (k*8+5);have f6:=YN.free HM.out (k*8+6);have f7:=YN.free HM.out (k*8+7);have G7b:=af (aO (aj w4 ⟨g,k*8+5,none⟩ (.slice QD x.len QE)) (aO (aj (w4.setCell ⟨g,k*8+5,none⟩ (.slice QD x.len QE)) ⟨g,k*8+6,none⟩ (.slice H0 bd.len H3)) (aj ((w4.setCell ⟨g,k*8+5,none⟩ (.slice QD x.len QE)).setCell ⟨g,k*8+6,none⟩ (.slice H0 bd.len H3)) ⟨g,k*8+7,none⟩ (.slice QG el.len QH))));have G4:=af (gC YM.out (some g));have G5:=af (aO G4.out (aj w4 ⟨g,k*8+5,none⟩ (.slice QD x.len QE)));have G6:=af (aO G5.out (aj (w4.setCell ⟨g,k*8+5,none⟩ (.slice QD x.len QE)) ⟨g,k*8+6,none⟩ (.slice H0 bd.len H3)));have G7:=af (aO G6.out (aj ((w4.setCell ⟨g,k*8+5,none⟩ (.slice QD x.len QE)).setCell ⟨g,k*8+6,none⟩ (.slice H0 bd.len H3)) ⟨g,k*8+7,none⟩ (.slice QG el.len QH)));refine tk 15 ?_;refine tk 16 ?_;refine tr 17 fun K hK=>?_
    go_simp;have cT:=G5.out;clear hHeld;refine hK.out _ _ cT (fun hHeld=>?_);clear hK K cT
    try simp only[bK,bL,bM,bN,bO]
    refine tk 18 ?_;refine tk 19 ?_;refine tr 20 fun K hK=>?_
    go_simp;have cT:=G6.out;clear hHeld;refine hK.out _ _ cT (fun hHeld=>?_);clear hK K cT
    try simp only[bK,bL,bM,bN,bO]
    refine tk 21 ?_;refine tk 22 ?_;refine tr 23 fun K hK=>?_
    go_simp;have cT:=G7.out;clear hHeld;refine hK.out _ _ cT (fun hHeld=>?_);clear hK K cT
    try simp only[bK,bL,bM,bN,bO]
    refine td ?_;have hD7:=af (zN.out w4 (.slice QD x.len QE) (.slice H0 bd.len H3) (.slice QG el.len QH) YN.out
     (Hhv5.sub (bt fun a u hp hc=>by
      simp at hp;have:=HG.out;have hb:=World.block_lt_of_cell? _ _ hc;exact⟨by simp;omega,ag hc (B34.trans (B43.mono B34.size))⟩))
     (Hhv6.sub (bt fun a u hp hc=>by
      simp at hp;have:=HG.out;have h1:=VC.size;simp at h1;exact⟨by simp;omega,ag hc B43.out⟩))
     (Hhv7.sub (bt fun a u hp hc=>by
      simp at hp;have:=HG.out;have h1:=VD.size;simp at h1;exact⟨by simp;omega,hc⟩)))
    clear hHeld;go_wp2_with fail
    exact⟨⟨k+1,by go_num,by omega,fun g' Ks=>by cases Ks;exact hD7.out,(HB.trans ((FI.mono HB.size).trans (YM.mono (by have:=HB.size;simp;omega)))).grown G7b.out (by have:=HB.size;have:=Td.size;omega) (fun q e=>by cases e;exact HG.1)⟩,by simp only[intOf];omega⟩
   ·have hk2:k=len:=by omega
    subst k;go_wp2_with fail
    go_ret;refine⟨.slice va len vc,rfl,?_,HB.out⟩;refine vR (fun g hg=>?_) ⟨va,vc,by rw[HL.out],by rw[←HL.out];exact tT⟩;obtain⟨cs,d1,d2,d3⟩:=QB.out g hg;refine⟨cs,d1,fun i h h'=>⟨(d2 i h h').1,?_⟩,d3⟩;have hi:i<len:=by have:=AB.out;have:=HL.out;omega
    have hd:decide (i<len)=true:=by simpa using hi
    have h2:zu w wr g (decide (i<len)) l.bu[i] cs[i]:=(d2 i h h').2;rw[hd] at h2;exact h2
end
end Go.Proofs.YtlabadkfkbenoaaGreatDoor
