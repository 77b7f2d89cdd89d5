/- Walks and plain laws, merged: IntG EvlT EvlL IntI IntJ IntK IntL. No condition. -/
import Derived.Test.YtlabadkfkbenoaaGreatDoorKp12
import Derived.Test.YtlabadkfkbenoaaGreatDoorKp08
import Derived.Outline
import Derived.Deep.RegionHeld3
import Derived.Test.YtlabadkfkbenoaaGreatDoorKp01
namespace Go.Proofs.YtlabadkfkbenoaaGreatDoor
open Go.RowKit
set_option linter.unusedVariables false
set_option linter.unusedSimpArgs false
set_option maxRecDepth 100000
set_option maxHeartbeats 64000000
section
open Go.Shelf
structure kG (p:Pt) (cf:Cf) (u:UT) (n d:Nat) (m:MS) (ve:EvS) (F:Nat) (fb:List dQ) (g cap:Nat) (ms:List Nat) (w:World):Prop where
 st:Mv p cf u n w
 me:iy p cf.allowed n d m ve w
 fr:mO w n F fb g cap ms
 pos:∀q∈m.held,0<q.length∧q.length≤4096
theorem kG.below {p:Pt} {cf:Cf} {u:UT} {n d:Nat} {m:MS} {ve:EvS} {F:Nat} {fb:List dQ} {g cap:Nat} {ms:List Nat} {w w':World} (h:kG p cf u n d m ve F fb g cap ms w) (hb:Below w.heap.size w w'):kG p cf u n d m ve F fb g cap ms w':=
 ⟨h.st.move h.me (aU.of hb) h.me.size,h.me.below hb,h.fr.below hb,h.pos⟩
theorem kG.spot {p:Pt} {cf:Cf} {u:UT} {n d:Nat} {m:MS} {ve:EvS} {F:Nat} {fb:List dQ} {g cap:Nat} {ms:List Nat} {w:World} (h:kG p cf u n d m ve F fb g cap ms w) {s:ByteArray} {ty:Int} (ht:gi cf.vs (dm fb) s=.ok ty):
  ∃b,(((∃x,cJ s fb=some x∧b=x.2∧ty=x.1.1))∨(cJ s fb=none∧∃(i:Nat) (hi:i<p.xs.length),getM s cf.pl=some (i:Int)∧b=sy p.xs[i]∧mn cf s=ty))∧
   Calls Tryz.prog 76 #[.pointer (some ⟨p.M,0,none⟩),.pointer (some ⟨F,0,none⟩),.string s] w fun e w'=>e=.returned (.tuple #[.pointer (some ⟨b,0,none⟩),.int .u8 ty])∧Below w.heap.size w w':=by
 unfold gi at ht;rw[uF] at ht;cases hs:cJ s fb with
 |some x=>
  rw[hs] at ht;simp only[Option.map_some] at ht;cases ht;exact⟨x.2,.inl ⟨x,rfl,rfl,rfl⟩,IV p n F fb g cap ms s x w h.fr hs⟩
 | none=>
  rw[hs] at ht;simp only[Option.map_none] at ht;cases hv:getM s cf.vs with
  |none=>rw[hv] at ht;cases ht
  | some y=>
   obtain⟨t,ln⟩:=y;rw[hv] at ht;simp only[] at ht;split at ht
   ·cases ht;obtain⟨i,h1,h2⟩:=h.st.pl s _ hv;exact⟨_,.inr ⟨rfl,i,h2,h1,rfl,by unfold mn;rw[hv];rfl⟩,IW p cf u cf.allowed n d m ve F fb g cap ms s _ ln i w h.st h.me h.fr hs hv h1 h2 fun q hq=>(h.pos q hq).1⟩
   ·cases ht
end
section
abbrev qz (sc:Hp):Scope:=sc.map fun x=>(x.1,x.2.1)
abbrev cV (fr:Fr):List Scope:=fr.map qz
def Out.Ty {α:Type} (P:α→Prop):Out α→Prop
 | .ok a _=>P a
 | .stop _ _ _=>True
 | .lost=>True
theorem Out.lJ {α β:Type} {P:α→Prop} {Q:β→Prop} {o:Out α} {f:α→MS→Out β} (h:o.Ty P) (hf:∀a m,P a→(f a m).Ty Q):(o.bind f).Ty Q:=by
 cases o with
 |ok a m=>exact hf a m h
 |stop k x m=>trivial
 |lost=>trivial
theorem Out.jv {α β:Type} {Q:β→Prop} {o:Out α} {f:α→MS→Out β} (hf:∀a m,(f a m).Ty Q):(o.bind f).Ty Q:=
 Out.lJ (P:=fun _=>True) (by cases o<;>trivial) fun a m _=>hf a m
theorem CQ {s:ByteArray} {t v v0:Int}:∀{c:Hp},getM s c=some (t,v0)→qz (aY s (t,v) c)=qz c
 |[],h=>by cases h
 | x::r,h=>by
  rw[cO] at h;simp only[aY];by_cases hq:(s==x.1)=true
  ·rw[if_pos hq] at h⊢;have e:s=x.1:=(MapKept.bytes_beq s x.1).1 hq;have e2:x.2=(t,v0):=by simpa using h
   simp only[qz,List.map_cons,e,e2]
  ·rw[if_neg hq] at h⊢;have:=CQ (t:=t) (v:=v) h;simp only[qz,List.map_cons] at this⊢;rw[this]
theorem CR (s:ByteArray) (v:Int):∀fr:Fr,cV (rM s v fr)=cV fr
 |[]=>rfl
 | c::r=>by
  unfold rM;split
  ·simp only[cV,List.map_cons];have:=CR s v r;unfold cV at this;rw[this]
  ·split
   ·rename_i t x hq;simp only[cV,List.map_cons];rw[CQ hq]
   ·rfl
def sA (s:ByteArray) (t:Int) (ss:List Scope):List Scope:=ss.dropLast++[aY s t (ss.getLastD [])]
theorem IY (s:ByteArray) (x:Int×Int) (fr:Fr):cV (iE s x fr)=sA s x.1 (cV fr):=by
 unfold iE sA;simp only[cV,List.map_append,List.map_dropLast,List.map_cons,List.map_nil]
 congr 2
 have:(List.map qz fr).getLastD []=qz (fr.getLastD []):=by
  simp only[List.getLastD_eq_getLast?,List.getLast?_map];cases fr.getLast?<;>rfl
 rw[this];exact(dA (fun y:Int×Int=>y.1) s x _).symm
theorem Bc (s:ByteArray) (t:Int) (ss:List Scope) (c:Scope):sA s t (ss++[c])=ss++[aY s t c]:=by
 unfold sA;simp
structure ic.Ty (ev:ic):Prop where
 L:∀d fr l m,(ev.L d fr l m).Ty fun q=>cV q.2.2=cV fr
 W:∀d fr h k b m,(ev.W d fr h k b m).Ty fun q=>cV q.2.2=cV fr
def My (h:SH) (ss:List Scope):List Scope:=if h.kind=1 then sA h.name h.type ss else ss
theorem OQ {h:SH} {ss:List Scope} (hk:h.kind=1):My h ss=sA h.name h.type ss:=by unfold My;rw[if_pos hk]
theorem OS {h:SH} {ss:List Scope} (hk:h.kind≠1):My h ss=ss:=by unfold My;rw[if_neg hk]
theorem yy (h:SH) (ss:List Scope):(My h ss).dropLast=ss.dropLast:=by
 unfold My;split
 ·unfold sA;simp
 ·rfl
section
variable {cf:Cf} {ev:ic} (hg:ev.Ty)
theorem Mz (d:Nat) (fr:Fr) (h:SH) (x:az) (m:MS):(ij cf ev d fr h x m).Ty fun fr'=>cV fr'=cV fr:=by
 have hw:∀m v,cV (cE cf fr m h.name v).1=cV fr:=fun m v=>by
  unfold cE;split
  ·exact CR _ _ _
  ·rfl
 unfold ij;refine Out.jv fun v m2=>?_
 split
 ·exact hw _ _
 ·split
  ·exact hw _ _
  ·trivial
include hg
theorem sB (d:Nat) (fr:Fr) (h:SH) (x:az) (b e:aH) (m:MS):(bn cf ev d fr h x b e m).Ty fun q=>cV q.2.2=My h (cV fr):=by
 unfold bn;refine Out.jv fun _ m1=>?_
 split
 ·rename_i hk;refine Out.jv fun v m2=>?_
  show cV (iE _ _ _)=_
  rw[IY,OQ hk]
 rename_i h1;have HN:=af (show My h (cV fr)=cV fr from OS h1);clear h1;rw[HN.out];split
 ·exact Out.lJ (Mz d fr h x _) fun fr' m2 h=>h
 split
 ·exact Out.jv fun _ m2=>rfl
 split
 ·refine Out.jv fun v m2=>?_
  split
  ·exact hg.L _ _ _ _
  ·exact hg.L _ _ _ _
 split
 ·split
  ·exact hg.W _ _ _ _ _ _
  ·trivial
 split
 ·rfl
 split
 ·rfl
 split
 ·exact Out.jv fun v m2=>rfl
 split
 ·exact Out.jv fun v m2=>rfl
 ·rfl
theorem uG (d:Nat):∀(l:aH) (fr:Fr) (m:MS),(cM cf ev d l fr m).Ty fun q=>(cV q.2.2).dropLast=(cV fr).dropLast
 | .nil,fr,m=>rfl
 | .cons h x b e r,fr,m=>by
  unfold cM;refine Out.lJ (sB hg d fr h x b e m) fun q m1 hq=>?_
  split
  ·have:=uG d r q.2.2 m1;rw[hq,yy] at this;exact this
  ·show(cV q.2.2).dropLast=_
   rw[hq,yy]
theorem IZ (d:Nat) (fr:Fr) (l:aH) (m:MS):(mq cf ev d fr l m).Ty fun q=>cV q.2.2=cV fr:=by
 unfold mq;refine Out.lJ (uG hg d l _ m) fun q m1 hq=>?_
 show cV q.2.2.dropLast=cV fr
 simp only[cV,List.map_dropLast,List.map_append,List.map_cons,List.map_nil] at hq⊢;rw[hq];simp
theorem EO (d:Nat) (fr:Fr) (h:EH) (k:az) (b:aH) (m:MS):(fU cf ev d fr h k b m).Ty fun q=>cV q.2.2=cV fr:=by
 unfold fU;refine Out.jv fun c m1=>?_
 split
 ·rfl
 ·refine Out.lJ (hg.L _ _ _ _) fun q m2 hq=>?_
  split
  ·exact hq
  split
  ·exact hq
  ·refine Out.jv fun _ m3=>?_
   have:=hg.W d q.2.2 h k b m3;rw[hq] at this;exact this
end
theorem pA (cf:Cf):∀n,(aI cf n).Ty
 |0=>⟨fun _ _ _ _=>trivial,fun _ _ _ _ _ _=>trivial⟩
 |n+1=>⟨fun d fr l m=>IZ (pA cf n) d fr l m,fun d fr h k b m=>EO (pA cf n) d fr h k b m⟩
theorem sD (ev:ic) (d:Nat) (fr:Fr):∀(l:az) (m:MS),(df ev d fr l m).Ty fun a=>a.length=l.len
 | .nil,m=>rfl
 | .cons h k r,m=>Out.jv fun v m1=>Out.lJ (sD ev d fr r m1) fun a m2 ha=>by
   show(v::a).length=_
   simp[az.len,ha]
theorem MA (cf:Cf) (fr:Fr) (h:EH) (k:az) {t:Int} (ht:um cf.vs cf.cs (cV fr) h k=.ok t):Ef cf fr h k=t:=by
 unfold Ef;rw[show(fr.map fun sc=>sc.map fun x=>(x.1,x.2.1))=cV fr from rfl,ht]
end
section
/-! ### what makes sense -/
structure Cf.Ok (cf:Cf):Prop where
 call:∀s g,getM s cf.cs=some g→(g.host<0→∃f,cf.fs[g.fn.toNat]? =some f∧f.params=g.params)∧(¬g.host<0→∃h,cf.hs[g.host.toNat]? =some h)
 fn:∀f∈cf.fs,gU f.body=true∧∃sc c,cC cf.vs cf.cs f.params []=.ok sc∧fO cf.vs cf.cs f.type f.body [sc] [] 0=.ok c
structure XT (cf:Cf) (ss:List Scope) (h:EH) (k:az) (t:Int):Prop where
 ok:tN h k.len=true
 kids:jS k=true
 ty:um cf.vs cf.cs ss h k=.ok t
theorem Bd:∀{l:az},jS l=true→∀(i:Nat) (a:EH×az),l.bu[i]? =some a→tN a.1 a.2.len=true∧jS a.2=true
 | .nil,_,i,a,h=>by simp[az.bu] at h
 | .cons h k r,hk,i,a,ha=>by
  simp only[jS,Bool.and_eq_true] at hk;cases i with
  |zero=>
   simp only[az.bu,List.getElem?_cons_zero,Option.some.injEq] at ha;subst ha;exact⟨hk.1.2,hk.1.1⟩
  |succ i=>
   simp only[az.bu,List.getElem?_cons_succ] at ha;exact Bd hk.2 i a ha
theorem az.uH:∀{l:az} (i:Nat) (a:EH×az),l.bu[i]? =some a→a.2.sz+1≤l.sz
 | .nil,i,a,h=>by simp[az.bu] at h
 | .cons h k r,i,a,ha=>by
  simp only[az.sz];cases i with
  |zero=>
   simp only[az.bu,List.getElem?_cons_zero,Option.some.injEq] at ha;subst ha
   show k.sz+1≤_
   omega
  |succ i=>
   simp only[az.bu,List.getElem?_cons_succ] at ha;have:=az.uH i a ha;omega
theorem dL {cf:Cf} {ss:List Scope} {l:az} {ks:List Int} (ho:jS l=true) (h:jn cf.vs cf.cs ss l=.ok ks) (i:Nat) (a:EH×az) (ha:l.bu[i]? =some a):∃t,XT cf ss a.1 a.2 t∧ks[i]? =some t:=by
 obtain⟨t,h1,h2⟩:=(wq h).2 i a ha;exact⟨t,⟨(Bd ho i a ha).1,(Bd ho i a ha).2,h1⟩,h2⟩
theorem XT.kinds {cf:Cf} {ss:List Scope} {h:EH} {k:az} {t:Int} (hx:XT cf ss h k t):∃ks,jn cf.vs cf.cs ss k=.ok ks∧mj cf.vs cf.cs ss h ks=.ok t:=by
 have:=hx.ty;unfold um at this;cases hk:jn cf.vs cf.cs ss k with
 |error e=>rw[hk] at this;cases this
 |ok ks=>rw[hk] at this;exact⟨ks,rfl,this⟩
theorem XT.kid {cf:Cf} {ss:List Scope} {h:EH} {k:az} {t:Int} (hx:XT cf ss h k t) (i:Nat) (a:EH×az) (ha:k.bu[i]? =some a):∃t',XT cf ss a.1 a.2 t':=by
 obtain⟨ks,h1,-⟩:=hx.kinds;obtain⟨t',h2,-⟩:=dL hx.kids h1 i a ha;exact⟨t',h2⟩
theorem oo {h:EH} {n:Nat} (hk:tN h n=true):(h.kind=1∨h.kind=2∨h.kind=3∨h.kind=4∨h.kind=5∨h.kind=6∨h.kind=7∨h.kind=8)∧(h.kind=4→n=1)∧(h.kind=6→n=1)∧(h.kind=7→n=2)∧(h.kind=8→n=1)∧(h.kind=5→n≤15):=by
 obtain⟨a0,a1,a2,a3,a4,a5⟩:=h;simp only[];by_cases h1:a1=1
 ·subst h1;simp
 by_cases h2:a1=2
 ·subst h2;simp
 by_cases h3:a1=3
 ·subst h3;simp
 by_cases h4:a1=4
 ·subst h4;rw[xG] at hk;simp only[Bool.and_eq_true,beq_iff_eq] at hk;have:n=1:=by omega
  simp[this]
 by_cases h5:a1=5
 ·subst h5;rw[Cb] at hk;simp only[Bool.and_eq_true,decide_eq_true_eq] at hk;have:n≤15:=by omega
  simp[this]
 by_cases h6:a1=6
 ·subst h6;rw[Cc] at hk;simp only[Bool.and_eq_true] at hk;have:=nP hk.1;simp[this]
 by_cases h7:a1=7
 ·subst h7;rw[Ce] at hk;simp only[Bool.and_eq_true] at hk;have:=nP hk.1;simp[this]
 by_cases h8:a1=8
 ·subst h8;rw[GF] at hk;simp only[Bool.and_eq_true] at hk;have:=nP hk.1;simp[this]
 ·rw[Om a0 a1 a2 a3 a4 a5 n ⟨h1,h2,h3,h4,h5,h6,h7,h8⟩] at hk;cases hk
theorem az.jg {l:az} {i:Nat} (h:i<l.len):∃a,l.bu[i]? =some a:=⟨l.bu[i]'(by rw[az.br];exact h),List.getElem?_eq_getElem _⟩
theorem yz {cs:dM} {s:ByteArray} {ks:List Int} {t:Int} (h:fj cs s ks=.ok t):∃g,getM s cs=some g∧g.params.length=ks.length∧g.type=t:=by
 unfold fj at h;split at h
 ·cases h
 ·rename_i g hg;refine⟨g,hg,?_⟩
  repeat' split at h
  all_goals (first|(cases h;done)|skip)
  all_goals (cases h)
  all_goals (simp_all)
theorem XT.call {cf:Cf} {ss:List Scope} {h:EH} {k:az} {t:Int} (hx:XT cf ss h k t) (h5:h.kind=5):∃g,getM h.name cf.cs=some g∧g.params.length=k.len∧g.type=t:=by
 obtain⟨ks,h1,h2⟩:=hx.kinds;have h3:mj cf.vs cf.cs ss h ks=fj cf.cs h.name ks:=by
  unfold mj;rw[h5];rfl
 rw[h3] at h2;obtain⟨g,q1,q2,q3⟩:=yz h2;refine⟨g,q1,?_,q3⟩;rw[q2,(wq h1).1,az.br]
theorem Be {vs:VS} {cs:dM} {ret:Int} {h:SH} {x:az} {rb re rw:Except Int Unit} {ss:List Scope} {c c':Scope} {lp:Nat} (hs:ix vs cs ret h x rb re rw ss c lp=.ok c'):
  ∃ts,jn vs cs (ss++[c]) x=.ok ts∧(h.kind=1→c'=aY h.name h.type c)∧(h.kind≠1→c'=c)∧(h.kind=2→∃t,gi vs (ss++[c]) h.name=.ok t)∧(h.kind=3→∃t,gj vs (ss++[c]) h.name=.ok t)∧
   (h.kind=4→rb=.ok ()∧re=.ok ())∧(h.kind=5→rw=.ok ()):=by
 unfold ix at hs;cases hx:jn vs cs (ss++[c]) x with
 |error e=>rw[hx] at hs;cases hs
 | ok ts=>
  rw[hx] at hs;simp only[] at hs;refine⟨ts,rfl,?_⟩;obtain⟨a0,a1,a2,a3,a4⟩:=h;simp only[] at hs⊢;by_cases h1:a1=1
  ·subst h1;simp only[if_true] at hs
   repeat' split at hs
   all_goals (cases hs)
   simp
  rw[if_neg h1] at hs;by_cases h2:a1=2
  ·subst h2;simp only[if_true] at hs;cases hv:gi vs (ss++[c]) a2 with
   |error e=>rw[hv] at hs;cases hs
   |ok t=>
    rw[hv] at hs;simp only[] at hs
    repeat' split at hs
    all_goals (cases hs)
    simp
  rw[if_neg h2] at hs;by_cases h3:a1=3
  ·subst h3;simp only[if_true] at hs;cases hv:gj vs (ss++[c]) a2 with
   |error e=>rw[hv] at hs;cases hs
   |ok t=>
    rw[hv] at hs;simp only[] at hs
    repeat' split at hs
    all_goals (cases hs)
    simp
  rw[if_neg h3] at hs;by_cases h4:a1=4
  ·subst h4;simp only[if_true] at hs;cases rb with
   |error e=>simp only[] at hs;split at hs<;>cases hs
   | ok u=>
    cases re with
    |error e=>simp only[] at hs;split at hs<;>cases hs
    |ok u2=>
     simp only[] at hs;split at hs
     ·cases hs;simp
     ·cases hs
  rw[if_neg h4] at hs;by_cases h5:a1=5
  ·subst h5;simp only[if_true] at hs;cases rw with
   |error e=>simp only[] at hs;split at hs<;>cases hs
   |ok u=>
    simp only[] at hs;split at hs
    ·cases hs;simp
    ·cases hs
  rw[if_neg h5] at hs;have hc:c'=c:=by
   repeat' split at hs
   all_goals (cases hs)
   all_goals rfl
  simp[h1,h2,h3,h4,h5,hc]
theorem jK {α:Type} {x:Except Int α} (h:bW x=.ok ()):∃a,x=.ok a:=by
 cases x with
 |ok a=>exact⟨a,rfl⟩
 |error e=>cases h
theorem yA {vs:VS} {cs:dM} {ret:Int} {h:SH} {x:az} {b e r:aH} {ss:List Scope} {c c':Scope} {lp:Nat} (hs:fO vs cs ret (.cons h x b e r) ss c lp=.ok c'):
  ∃c1,ix vs cs ret h x (bW (fO vs cs ret b (ss++[c]) [] lp)) (bW (fO vs cs ret e (ss++[c]) [] lp)) (bW (fO vs cs ret b (ss++[c]) [] (lp+1))) ss c lp=.ok c1∧fO vs cs ret r ss c1 lp=.ok c':=by
 simp only[fO] at hs;split at hs
 ·cases hs
 ·rename_i c1 h1;exact⟨c1,h1,hs⟩
theorem I0 {vs:VS} {cs:dM} {ret:Int} {h:SH} {x:az} {rb re rw:Except Int Unit} {ss:List Scope} {c c':Scope} {lp:Nat} (hs:ix vs cs ret h x rb re rw ss c lp=.ok c'):My h (ss++[c])=ss++[c']:=by
 obtain⟨ts,-,h1,h2,-⟩:=Be hs;by_cases hk:h.kind=1
 ·rw[OQ hk,Bc,h1 hk]
 ·rw[OS hk,h2 hk]
theorem sF (vs:VS) (cs:dM):∀(ps:List PW) (args:List Int) (VO:Hp) (sc sc':Scope),cC vs cs ps sc=.ok sc'→qz VO=sc→args.length=ps.length→qz (fT ps args VO)=sc'
 |[],[],VO,sc,sc',h,ht,_=>by
  simp only[cC] at h;cases h;exact ht
 |[],a::l,_,_,_,_,_,hl=>by simp at hl
 |p::r,[],_,_,_,_,_,hl=>by simp at hl
 | p::r,a::l,VO,sc,sc',h,ht,hl=>by
  simp only[cC] at h;split at h
  ·cases h
  ·refine sF vs cs r l _ _ _ h ?_ (by simpa using hl);rw[←ht];exact(dA (fun y:Int×Int=>y.1) p.1 (p.2,a) VO).symm
/-! ### fuel enough -/
def nd (A Z d s z:Nat):Nat:=(17-d)* ((A+1)* (Z+4))+ (A-s)* (Z+4)+z
theorem wu {A Z d s s' z z':Nat} (hs:s≤s') (hz:z+1≤z'):nd A Z d s' z+1≤nd A Z d s z':=by
 unfold nd;have:(A-s')* (Z+4)≤(A-s)* (Z+4):=Nat.mul_le_mul_right _ (by omega);omega
theorem MB {A Z d s s' z:Nat} (hs:s+1≤s') (ha:s<A):nd A Z d s' z+1≤nd A Z d s z:=by
 unfold nd;have h1:(A-s')* (Z+4)≤(A- (s+1))* (Z+4):=Nat.mul_le_mul_right _ (by omega);have h2:(A-s)* (Z+4)=(A- (s+1))* (Z+4)+ (Z+4):=by
  rw[show A-s=(A- (s+1))+1 by omega,Nat.succ_mul]
 omega
theorem MC {A Z d s s' z:Nat} (hd:d<16) (hs:s≤s') (hz:z≤Z+2):nd A Z (d+1) s' z+1≤nd A Z d s 0:=by
 unfold nd;have h1:(A-s')* (Z+4)≤(A-s)* (Z+4):=Nat.mul_le_mul_right _ (by omega);have h2:(17-d)* ((A+1)* (Z+4))=(17- (d+1))* ((A+1)* (Z+4))+ (A+1)* (Z+4):=by
  rw[show 17-d=(17- (d+1))+1 by omega,Nat.succ_mul]
 have h3:(A+1)* (Z+4)=A* (Z+4)+ (Z+4):=Nat.succ_mul _ _;omega
theorem wx {A Z d s z:Nat} (hd:d≤16):0<nd A Z d s z:=by
 unfold nd;have h1:1≤17-d:=by omega
 have h3:(A+1)* (Z+4)=A* (Z+4)+ (Z+4):=Nat.succ_mul _ _;have h2:1* ((A+1)* (Z+4))≤(17-d)* ((A+1)* (Z+4)):=Nat.mul_le_mul_right _ h1;omega
theorem Out.cm {α β:Type} {o:Out α} {f:α→MS→Out β} (h:o≠.lost) (hf:∀a m,o=.ok a m→f a m≠.lost):o.bind f≠.lost:=by
 cases o with
 |ok a m=>exact hf a m rfl
 |stop k x m=>intro q;cases q
 |lost=>exact absurd rfl h
theorem Out.cN {α β:Type} {o:Out α} {f:α→MS→Out β} (h:o.bind f≠.lost):o≠.lost:=fun q=>by subst q;exact h rfl
theorem Out.il {α:Type} {m m':MS} {o:Out α} {a:α} (h:o.from m) (e:o=.ok a m'):MS.le m m':=by subst e;exact h
theorem Out.yB {α:Type} {P:α→Prop} {m:MS} {o:Out α} {a:α} (h:o.Ty P) (e:o=.ok a m):P a:=by subst e;exact h
theorem wy (cf:Cf) (m:MS):tick cf m≠.lost:=by
 unfold tick;split<;>intro q<;>cases q
theorem sG {cf:Cf} {m m':MS} {a:Unit} (h:tick cf m=.ok a m'):m.steps<cf.allowed∧m'.steps=m.steps+1:=by
 unfold tick at h;split at h
 ·cases h
 ·cases h;exact⟨by omega,rfl⟩
structure ic.NL (cf:Cf) (Z n:Nat) (ev:ic):Prop where
 E:∀d fr h k m t,d≤16→XT cf (cV fr) h k t→nd cf.allowed Z d m.steps (k.sz+1)≤n→ev.E d fr h k m≠.lost
 L:∀d fr l m ret lp c',d≤16→gU l=true→fO cf.vs cf.cs ret l (cV fr) [] lp=.ok c'→nd cf.allowed Z d m.steps (l.sz+1)≤n→ev.L d fr l m≠.lost
 W:∀d fr h k b m t ret lp c',d≤16→XT cf (cV fr) h k t→gU b=true→fO cf.vs cf.cs ret b (cV fr) [] lp=.ok c'→nd cf.allowed Z d m.steps (k.sz+b.sz+2)≤n→ev.W d fr h k b m≠.lost
 F:∀d s g l m,d≤16→getM s cf.cs=some g→g.host<0→l.length=g.params.length→nd cf.allowed Z d m.steps 0≤n→ev.F d g l m≠.lost
section
variable {cf:Cf} {Z n:Nat} {ev:ic} (hc:cf.Ok) (hz:∀f∈cf.fs,f.body.sz≤Z) (hg:ev.NL cf Z n) (hq:ev.Good) (ht:ev.Ty)
include hg
theorem wz {d:Nat} {fr:Fr} {l:az} {i:Nat} {m:MS} {ts:List Int} (hd:d≤16) (hi:i<l.len) (ho:jS l=true) (hx:jn cf.vs cf.cs (cV fr) l=.ok ts) (hn:nd cf.allowed Z d m.steps l.sz≤n):jo ev d fr l i m≠.lost:=by
 obtain⟨a,ha⟩:=az.jg hi;obtain⟨t,h1,-⟩:=dL ho hx i a ha;have h2:=az.uH i a ha;unfold jo;rw[ha];refine hg.E _ _ _ _ _ t hd h1 (Nat.le_trans ?_ hn);unfold nd;omega
include hq
theorem uI {d:Nat} {fr:Fr} (hd:d≤16):∀{l:az} {m:MS} {ts:List Int},jS l=true→jn cf.vs cf.cs (cV fr) l=.ok ts→nd cf.allowed Z d m.steps l.sz≤n→df ev d fr l m≠.lost
 | .nil,m,ts,_,_,_=>by intro q;cases q
 | .cons h k r,m,ts,ho,hx,hn=>by
  obtain⟨t,h1,-⟩:=dL ho hx 0 (h,k) rfl;have h2:∃ts,jn cf.vs cf.cs (cV fr) r=.ok ts:=by
   simp only[jn] at hx
   repeat' split at hx
   all_goals (first|(cases hx;done)|skip)
   rename_i ts2 h3;exact⟨ts2,h3⟩
  obtain⟨ts2,h2⟩:=h2;simp only[jS,Bool.and_eq_true] at ho;simp only[az.sz] at hn;unfold df;refine Out.cm (hg.E _ _ _ _ _ t hd h1 (Nat.le_trans ?_ hn)) fun v m1 e1=>Out.cm (uI hd ho.2 h2 (Nat.le_trans ?_ hn)) fun l m2 _ q=>by cases q
  ·unfold nd;omega
  ·have hs:=(Out.il (hq.E _ _ _ _ _) e1).1;have:nd cf.allowed Z d m1.steps r.sz+1≤nd cf.allowed Z d m.steps (k.sz+r.sz+1):=wu hs (by omega);unfold nd at this⊢;omega
include hc
theorem I1 {d:Nat} {fr:Fr} {h:EH} {k:az} {m:MS} {t:Int} (hd:d≤16) (hx:XT cf (cV fr) h k t) (hn:nd cf.allowed Z d m.steps (k.sz+1)≤n+1):uq cf ev d fr h k m≠.lost:=by
 unfold uq;refine Out.cm (wy _ _) fun _ m1 e1=>?_
 have hs:=(sG e1).2;have zU:nd cf.allowed Z d m1.steps k.sz≤n:=by
  have:=wu (A:=cf.allowed) (Z:=Z) (d:=d) (show m.steps≤m1.steps by omega) (Nat.le_refl (k.sz+1));omega
 clear e1 hs hn;obtain⟨ks,pL,-⟩:=hx.kinds;obtain⟨hk,h4,h6,h7,h8,-⟩:=oo hx.ok;have K0:(h.kind=4∨h.kind=6∨h.kind=7∨h.kind=8)→∀m',m1.steps≤m'.steps→jo ev d fr k 0 m'≠.lost:=fun q m' hs=>wz hg hd (by rcases q with q|q|q|q<;>simp_all) hx.kids pL (by unfold nd at zU⊢;have:(cf.allowed-m'.steps)* (Z+4)≤(cf.allowed-m1.steps)* (Z+4):=Nat.mul_le_mul_right _ (by omega);omega)
 have K1:h.kind=7→∀m',m1.steps≤m'.steps→jo ev d fr k 1 m'≠.lost:=fun q m' hs=>wz hg hd (by simp_all) hx.kids pL (by unfold nd at zU⊢;have:(cf.allowed-m'.steps)* (Z+4)≤(cf.allowed-m1.steps)* (Z+4):=Nat.mul_le_mul_right _ (by omega);omega)
 have KC:h.kind=5→∃g,getM h.name cf.cs=some g∧g.params.length=k.len:=fun q=>by obtain⟨g,q1,q2,-⟩:=hx.call q;exact⟨g,q1,q2⟩
 have HO:=af hx.kids;have HK:=af hk;clear hk h4 h6 h7 h8 hx;unfold aF;split
 ·intro q;cases q
 split
 ·intro q;cases q
 split
 ·rename_i hk;refine Out.cm (K0 (.inl hk) _ (Nat.le_refl _)) fun i m2 _=>?_
  split<;>intro q<;>cases q
 split
 ·rename_i hk;refine Out.cm (uI hg hq hd HO.out pL zU) fun args m2 e2=>?_
  obtain⟨g,hg1,hg2⟩:=KC hk;rw[hg1];simp only[];have hl:=Out.yB (sD ev d fr k m1) e2;have hs:=(Out.il (kT hq d fr k m1) e2).1;split
  ·rename_i hh;refine hg.F d _ g args m2 hd hg1 hh (by rw[hl,hg2]) ?_;unfold nd at zU⊢;have:(cf.allowed-m2.steps)* (Z+4)≤(cf.allowed-m1.steps)* (Z+4):=Nat.mul_le_mul_right _ (by omega);omega
  ·rename_i hh;obtain⟨x,hx⟩:=(hc.call _ g hg1).2 hh;unfold je;rw[hx];split<;>intro q<;>cases q
 split
 ·rename_i hk;refine Out.cm (K0 (.inr (.inl hk)) _ (Nat.le_refl _)) fun v m2 _=>?_
  repeat' split
  all_goals (intro q;cases q)
 split
 ·rename_i hk;refine Out.cm (K0 (.inr (.inr (.inl hk))) _ (Nat.le_refl _)) fun a m2 e2=>?_
  split
  ·intro q;cases q
  split
  ·intro q;cases q
  refine Out.cm (K1 hk _ ?_) fun b m3 _=>?_
  ·refine(Out.il (m:=m1) ?_ e2).1;unfold jo;split
   ·exact hq.E _ _ _ _ _
   ·trivial
  repeat' split
  all_goals (intro q;cases q)
 split
 ·rename_i hk;refine Out.cm (K0 (.inr (.inr (.inr hk))) _ (Nat.le_refl _)) fun v m2 _=>?_
  repeat' split
  all_goals (intro q;cases q)
 ·rename_i q1 q2 q3 q4 q5 q6 q7;rcases HK.out with q|q|q|q|q|q|q|q
  ·exact absurd (.inl q) q1
  ·exact absurd (.inr q) q1
  ·exact absurd q q2
  ·exact absurd q q3
  ·exact absurd q q4
  ·exact absurd q q5
  ·exact absurd q q6
  ·exact absurd q q7
include ht
omit hc ht in
theorem I2 {d:Nat} {fr:Fr} {h:SH} {x:az} {b e:aH} {m:MS} {ss:List Scope} {c c1:Scope} {ret:Int} {lp:Nat} (hd:d≤16) (hty:cV fr=ss++[c]) (OT:gy h x.len x.fk b.len e.len=true) (CT:jS x=true) (qR:gU b=true) (VP:gU e=true)
  (hs:ix cf.vs cf.cs ret h x (bW (fO cf.vs cf.cs ret b (ss++[c]) [] lp)) (bW (fO cf.vs cf.cs ret e (ss++[c]) [] lp)) (bW (fO cf.vs cf.cs ret b (ss++[c]) [] (lp+1))) ss c lp=.ok c1)
  (hn:nd cf.allowed Z d m.steps (x.sz+b.sz+e.sz+1)≤n):bn cf ev d fr h x b e m≠.lost:=by
 obtain⟨ts,zx,-,-,-,-,h4,h5⟩:=Be hs;have kP:=vJ OT;rw[←hty] at zx;unfold bn;refine Out.cm (wy _ _) fun _ m1 e1=>?_
 have hs1:=(sG e1).2;have le:∀(m':MS) (z:Nat),m1.steps≤m'.steps→z≤x.sz+b.sz+e.sz+1→nd cf.allowed Z d m'.steps z≤n:=fun m' z hs hz=>by
  refine Nat.le_trans ?_ hn;unfold nd;have:(cf.allowed-m'.steps)* (Z+4)≤(cf.allowed-m.steps)* (Z+4):=Nat.mul_le_mul_right _ (by omega);omega
 have OU:∀(i:Nat) (m m':MS) (v:Int),jo ev d fr x i m=.ok v m'→m.steps≤m'.steps:=fun i m m' v e=>(Out.il (m:=m) (by
   unfold jo;split
   ·exact hq.E _ _ _ _ _
   ·trivial) e).1
 have K0:qx h.kind x.len=true→(h.kind=1∨h.kind=2∨h.kind=3∨h.kind=4∨h.kind=5∨h.kind=8∨0<x.len)→∀m',m1.steps≤m'.steps→jo ev d fr x 0 m'≠.lost:=fun kP q m' hs=>wz hg hd (by
   rcases q with q|q|q|q|q|q|q
   ·rw[q] at kP;exact of_decide_eq_true kP
   ·rw[q] at kP;exact of_decide_eq_true kP
   ·rw[q] at kP;have:2≤x.len:=of_decide_eq_true kP;omega
   ·rw[q] at kP;exact of_decide_eq_true kP
   ·rw[q] at kP;exact of_decide_eq_true kP
   ·rw[q] at kP;exact of_decide_eq_true kP
   ·exact q) CT zx (le _ _ hs (by omega))
 have K1:h.kind=3→∀m',m1.steps≤m'.steps→jo ev d fr x 1 m'≠.lost:=fun q m' hs=>wz hg hd (by rw[q] at kP;have:2≤x.len:=of_decide_eq_true kP;omega) CT zx (le _ _ hs (by omega))
 have QW:=af kP;have HL:=af le;have HF:=af OU;have HOS:=af OT;have H4:=af h4;have H5:=af h5;clear kP le OU OT h4 h5 hs;split
 ·rename_i hk;exact Out.cm (K0 QW.out (.inl hk) _ (Nat.le_refl _)) fun v m2 _ q=>by cases q
 split
 ·rename_i _ hk;refine Out.cm ?_ fun v m2 _ q=>by cases q
  unfold ij;refine Out.cm (K0 QW.out (.inr (.inl hk)) _ (Nat.le_refl _)) fun v m2 _=>?_
  repeat' split
  all_goals (intro q;cases q)
 split
 ·rename_i _ _ hk;refine Out.cm ?_ fun v m2 _ q=>by cases q
  unfold gB;refine Out.cm (K0 QW.out (.inr (.inr (.inl hk))) _ (Nat.le_refl _)) fun v m2 e2=>?_
  split
  ·intro q;cases q
  refine Out.cm (K1 hk _ (HF.out _ _ _ _ e2)) fun v m3 _=>?_
  repeat' split
  all_goals (intro q;cases q)
 split
 ·rename_i _ _ _ hk;obtain⟨r1,r2⟩:=H4.out hk;obtain⟨cb,hcb⟩:=jK r1;obtain⟨ce,hce⟩:=jK r2;refine Out.cm (K0 QW.out (.inr (.inr (.inr (.inl hk)))) _ (Nat.le_refl _)) fun v m2 e2=>?_
  have hs2:=HF.out _ _ _ _ e2;split
  ·exact hg.L _ _ _ _ ret lp ce hd VP (by rw[hty];exact hce) (HL.out _ _ hs2 (by omega))
  ·exact hg.L _ _ _ _ ret lp cb hd qR (by rw[hty];exact hcb) (HL.out _ _ hs2 (by omega))
 split
 ·rename_i _ _ _ _ hk;obtain⟨cb,hcb⟩:=jK (H5.out hk);have hlen:0<x.len:=by have:=QW.out;rw[hk] at this;exact of_decide_eq_true this
  obtain⟨a,ha⟩:=az.jg hlen;obtain⟨t,hx,-⟩:=dL CT zx 0 a ha;have hz2:=az.uH 0 a ha;rw[ha];exact hg.W _ _ _ _ _ _ t ret (lp+1) cb hd hx qR (by rw[hty];exact hcb) (HL.out _ _ (Nat.le_refl _) (by omega))
 split
 ·intro q;cases q
 split
 ·intro q;cases q
 split
 ·rename_i _ _ _ _ _ _ _ hk;exact Out.cm (K0 QW.out (.inr (.inr (.inr (.inr (.inr (.inl hk)))))) _ (Nat.le_refl _)) fun v m2 _ q=>by cases q
 split
 ·rename_i hk;have hlen:0<x.len:=by
   have:=HOS.out;obtain⟨a0,a1,a2,a3,a4⟩:=h;simp only[] at hk;subst hk;rw[vA] at this;simp only[Bool.and_eq_true] at this;have:=gS this.1;omega
  exact Out.cm (K0 QW.out (.inr (.inr (.inr (.inr (.inr (.inr hlen)))))) _ (Nat.le_refl _)) fun v m2 _ q=>by cases q
 ·intro q;cases q
omit hc in
theorem uJ {d:Nat} (hd:d≤16):∀{l:aH} {fr:Fr} {m:MS} {ss:List Scope} {c c':Scope} {ret:Int} {lp:Nat},cV fr=ss++[c]→gU l=true→fO cf.vs cf.cs ret l ss c lp=.ok c'→nd cf.allowed Z d m.steps l.sz≤n→cM cf ev d l fr m≠.lost
 | .nil,fr,m,ss,c,c',ret,lp,_,_,_,_=>by intro q;cases q
 | .cons h x b e r,fr,m,ss,c,c',ret,lp,hty,ho,hs,hn=>by
  obtain⟨c1,h1,h2⟩:=yA hs;simp only[gU,Bool.and_eq_true] at ho;simp only[aH.sz] at hn;unfold cM;refine Out.cm (I2 hg hq hd hty ho.1 ho.2.2.2.1 ho.2.1 ho.2.2.1 h1 (Nat.le_trans ?_ hn)) fun q m1 e1=>?_
  ·unfold nd;omega
  have hs1:=(Out.il (rO hq d fr h x b e m) e1).1;have ht1:=Out.yB (sB ht d fr h x b e m) e1;rw[hty,I0 h1] at ht1;split
  ·refine uJ hd ht1 ho.2.2.2.2 h2 (Nat.le_trans ?_ hn);unfold nd;have:(cf.allowed-m1.steps)* (Z+4)≤(cf.allowed-m.steps)* (Z+4):=Nat.mul_le_mul_right _ (by omega);omega
  ·intro q;cases q
omit hc in
theorem I3 {d:Nat} {fr:Fr} {l:aH} {m:MS} {ret:Int} {lp:Nat} {c':Scope} (hd:d≤16) (ho:gU l=true) (hs:fO cf.vs cf.cs ret l (cV fr) [] lp=.ok c') (hn:nd cf.allowed Z d m.steps (l.sz+1)≤n+1):mq cf ev d fr l m≠.lost:=by
 unfold mq;refine Out.cm (uJ hg hq ht hd (by simp[cV,qz]) ho hs ?_) fun q m1 _ q=>by cases q
 unfold nd at hn⊢;omega
omit hc in
theorem EP {d:Nat} {fr:Fr} {h:EH} {k:az} {b:aH} {m:MS} {t ret:Int} {lp:Nat} {c':Scope} (hd:d≤16) (hx:XT cf (cV fr) h k t) (ho:gU b=true) (hs:fO cf.vs cf.cs ret b (cV fr) [] lp=.ok c')
  (hn:nd cf.allowed Z d m.steps (k.sz+b.sz+2)≤n+1):fU cf ev d fr h k b m≠.lost:=by
 unfold fU;refine Out.cm (hg.E _ _ _ _ _ t hd hx (by unfold nd at hn⊢;omega)) fun c m1 e1=>?_
 have hs1:=(Out.il (hq.E _ _ _ _ _) e1).1;split
 ·intro q;cases q
 refine Out.cm (hg.L _ _ _ _ ret lp c' hd ho hs ?_) fun q m2 e2=>?_
 ·have:=wu (A:=cf.allowed) (Z:=Z) (d:=d) hs1 (show(b.sz+1)+1≤k.sz+b.sz+2 by omega);omega
 have hs2:=(Out.il (hq.L _ _ _ _) e2).1;have ki:=Out.yB (ht.L _ _ _ _) e2;split
 ·intro q;cases q
 split
 ·intro q;cases q
 refine Out.cm (wy _ _) fun _ m3 e3=>?_
 obtain⟨a1,a2⟩:=sG e3;refine hg.W _ _ _ _ _ _ t ret lp c' hd (by rw[ki];exact hx) ho (by rw[ki];exact hs) ?_;have:=MB (A:=cf.allowed) (Z:=Z) (d:=d) (s:=m.steps) (s':=m3.steps) (z:=k.sz+b.sz+2) (by omega) (by omega);omega
include hz
omit hq ht in
theorem I4 {d:Nat} {s:ByteArray} {g:eE} {l:List Int} {m:MS} (hd:d≤16) (hs:getM s cf.cs=some g) (hh:g.host<0) (hl:l.length=g.params.length) (hn:nd cf.allowed Z d m.steps 0≤n+1):ku cf ev d g l m≠.lost:=by
 obtain⟨f,h1,h2⟩:=(hc.call s g hs).1 hh;have hf:=List.mem_of_getElem? h1;obtain⟨h3,sc,c,h4,h5⟩:=hc.fn f hf;unfold ku;split
 ·intro q;cases q
 ·rename_i hd2;rw[h1];simp only[];refine Out.cm (hg.L _ _ _ _ f.type 0 c (by omega) h3 ?_ ?_) fun q m1 _ q=>by cases q
  ·have:=sF cf.vs cf.cs f.params l [] [] sc h4 rfl (by rw[hl,h2]);rw[h2] at this;rw[show cV [fT g.params l []]=[qz (fT g.params l [])] from rfl,this];exact h5
  ·have:=MC (A:=cf.allowed) (Z:=Z) (d:=d) (s:=m.steps) (s':=m.steps) (z:=f.body.sz+1) (by omega) (Nat.le_refl _) (by have:=hz f hf;omega);omega
end
theorem sH {cf:Cf} {Z:Nat} (hc:cf.Ok) (hz:∀f∈cf.fs,f.body.sz≤Z):∀n,(aI cf n).NL cf Z n
 | 0=>⟨fun d fr h k m t hd _ hn=>by have:=wx (A:=cf.allowed) (Z:=Z) (s:=m.steps) (z:=k.sz+1) hd;omega,fun d fr l m ret lp c' hd _ _ hn=>by have:=wx (A:=cf.allowed) (Z:=Z) (s:=m.steps) (z:=l.sz+1) hd;omega,
   fun d fr h k b m t ret lp c' hd _ _ _ hn=>by have:=wx (A:=cf.allowed) (Z:=Z) (s:=m.steps) (z:=k.sz+b.sz+2) hd;omega,fun d s g l m hd _ _ _ hn=>by have:=wx (A:=cf.allowed) (Z:=Z) (s:=m.steps) (z:=0) hd;omega⟩
 | n+1=>⟨fun d fr h k m t hd hx hn=>I1 hc (sH hc hz n) (fV cf n) hd hx hn,fun d fr l m ret lp c' hd ho hs hn=>I3 (sH hc hz n) (fV cf n) (pA cf n) hd ho hs hn,
   fun d fr h k b m t ret lp c' hd hx ho hs hn=>EP (sH hc hz n) (fV cf n) (pA cf n) hd hx ho hs hn,fun d s g l m hd hs hh hl hn=>I4 hc hz (sH hc hz n) hd hs hh hl hn⟩
end
section
open Go.Shelf
structure jL (w:World) (b q:Nat) (t:Int) (a:EH×az) (v:Value):Prop where
 c0:w.cell? ⟨b,q,none⟩=some (.int .i64 t)
 c1:w.cell? ⟨b,q+1,none⟩=some (.int .u8 a.1.kind)
 c2:w.cell? ⟨b,q+2,none⟩=some (.int .u32 a.1.word)
 c3:w.cell? ⟨b,q+3,none⟩=some (.int .u8 a.1.type)
 c4:w.cell? ⟨b,q+4,none⟩=some (.string a.1.name)
 c5:w.cell? ⟨b,q+5,none⟩=some (.string a.1.sign)
 c6:w.cell? ⟨b,q+6,none⟩=some v
theorem jL.sub {w w':World} {b q:Nat} {t:Int} {a:EH×az} {v:Value} (h:jL w b q t a v) (hc:Cells w w'):jL w' b q t a v:=⟨hc _ _ h.c0,hc _ _ h.c1,hc _ _ h.c2,hc _ _ h.c3,hc _ _ h.c4,hc _ _ h.c5,hc _ _ h.c6⟩
theorem dI.kid {w:World} {l:az} {v:Value} (h:dI w false none l v) (i:Nat) (a:EH×az) (ha:l.bu[i]? =some a):
  ∃b off cap t ka kc,v=.slice (some ⟨b,off,none⟩) l.len cap∧jL w b (off+i*7) t a (.slice ka a.2.len kc)∧dI w false none a.2 (.slice ka a.2.len kc):=by
 obtain⟨ka,kb,aD,aK,rfl,y2,y3⟩:=nx.1 h;obtain⟨hi,rfl⟩:=List.getElem?_eq_some_iff.1 ha;obtain⟨⟨⟨t,z0,_⟩,z1,z2,z3,z4,z5⟩,v,z6,hv⟩:=y3 i hi;have hk:ka=some ⟨kb,aD,none⟩:=by
  rcases y2 with⟨q,_⟩|⟨q,_⟩
  ·omega
  ·exact q
 subst hk;obtain⟨xa,xc,rfl⟩:=hv.ay;exact⟨kb,aD,aK,t,xa,xc,by rw[az.br],⟨z0,z1,z2,z3,z4,z5,z6⟩,hv⟩
section
variable {p:Pt} {cf:Cf} {u:UT} {n d:Nat} {m:MS} {ve:EvS} {F:Nat} {fb:List dQ} {g cap:Nat} {ms:List Nat} {w w':World}
theorem mO.move (h:mO w n F fb g cap ms) {a:Nat} (hm:iy p a n d m ve w) (hk:aU (p.TE ve) w.heap.size w w'):mO w' n F fb g cap ms where
 box:=hk.box h.box h.box.lt (hm.dB h.box (by decide) (by decide) (by decide))
 row:=hk.own h.row fun b hb=>⟨(h.row.lt b hb).2,hm.other h.row (by decide) (by decide) (by decide) hb⟩
 len:=h.len
 maps:=fun i h1 h2=>hk.map (h.maps i h1 h2) (h.maps i h1 h2).lt (by obtain⟨es,c,q,_⟩:=h.maps i h1 h2;exact hm.jt q)
 boxes:=fun sc h1 x h2=>hk.box (h.boxes sc h1 x h2) (h.boxes sc h1 x h2).lt (hm.dB (h.boxes sc h1 x h2) (by decide) (by decide) (by decide))
 nd:=h.nd
 apart:=h.apart
 far:=h.far
 le:=h.le
theorem QY {m m1:MS} (hs:m1.held.map List.length=m.held.map List.length) (h:∀q∈m.held,0<q.length∧q.length≤4096):∀q∈m1.held,0<q.length∧q.length≤4096:=by
 intro q hq;have h1:q.length∈m1.held.map List.length:=List.mem_map.2 ⟨q,hq,rfl⟩;rw[hs] at h1;obtain⟨r,h2,h3⟩:=List.mem_map.1 h1;rw[←h3];exact h r h2
theorem kG.move (h:kG p cf u n d m ve F fb g cap ms w) {d1:Nat} {m1:MS} {aR:EvS} (hm:iy p cf.allowed n d1 m1 aR w') (hk:aU (p.TE ve) w.heap.size w w') (hs:m1.held.map List.length=m.held.map List.length):kG p cf u n d1 m1 aR F fb g cap ms w':=
 ⟨h.st.move h.me hk h.me.size,hm,h.fr.move h.me hk,QY hs h.pos⟩
theorem kG.cells (h:kG p cf u n d m ve F fb g cap ms w) (hk:aU (p.TE ve) w.heap.size w w'):Cells (aA w (bJ p.B)) (aA w' (bJ p.B)):=
 hk.cells fun b hb=>⟨by have:=h.me.size;have:=h.st.Bn;simp at hb;omega,h.me.old h.st.M h.st.Bn (by simpa using hb)⟩
end
theorem aw {w w':World} {B:Nat} (hb:Below w.heap.size w w'):Cells (aA w (bJ B)) (aA w' (bJ B)):=bt fun a u h1 h2=>⟨h1,ag h2 hb⟩
/-! ### walks one behind another -/
theorem CV {p:Pt} {ve aR:EvS} {k b:Nat} (hv:Vc ve aR k) (hb:b<k) (h:p.TE aR b):p.TE ve b:=by
 rcases h with h|h
 ·exact .inl h
 ·rcases hv.1 with q|⟨c,q,q2⟩
  ·exact .inr (q▸h)
  ·rw[q] at h;cases h;omega
theorem Vc.trans {ve aR eI:EvS} {k k1:Nat} (h:Vc ve aR k) (h2:Vc aR eI k1) (hk:k≤k1):Vc ve eI k:=by
 refine⟨?_,fun x hx=>?_⟩
 ·rcases h2.1 with q|⟨c,q,q2⟩
  ·rcases h.1 with r|⟨c,r,r2⟩
   ·exact .inl (q.trans r)
   ·exact .inr ⟨c,q.trans r,r2⟩
  ·exact .inr ⟨c,q,by omega⟩
 ·rcases h2.2 x hx with q|q
  ·exact h.2 x q
  ·exact .inr fun b hb=>Nat.le_trans hk (q b hb)
theorem aU.chain {p:Pt} {ve aR:EvS} {k k1:Nat} {w w1 w2:World} (hK:aU (p.TE ve) k w w1) (hv:Vc ve aR k) (hk:k≤k1) (h:aU (p.TE aR) k1 w1 w2):aU (p.TE ve) k w w2:=
 hK.trans (h.mono hk fun b hb ht=>CV hv hb ht)
theorem aX.chain {p:Pt} {a n d k k1:Nat} {ve aR:EvS} {α:Type} {f:α→Ending} {o:Out α} {w w1 w2:World} {e:Ending} (hK:aU (p.TE ve) k w w1) (hv:Vc ve aR k) (hk:k≤k1) (h:aX p a n d k1 aR f o w1 e w2):aX p a n d k ve f o w e w2:=by
 cases o with
 |ok x m=>
  obtain⟨h1,fJ,h2,h3,h4⟩:=h;exact⟨h1,fJ,h2,hK.chain hv hk h3,Vc.trans hv h4 hk⟩
 |stop x y m=>
  obtain⟨h1,fJ,d',h2,h3,h4⟩:=h;exact⟨h1,fJ,d',h2,hK.chain hv hk h3,Vc.trans hv h4 hk⟩
 |lost=>trivial
end
section
open Go.Shelf
theorem CW {vs:VS} {ss:List Scope} {s:ByteArray} {t:Int} (h:gj vs ss s=.ok t):∃n,getM s vs=some (t,n)∧0<n∧ez s ss=none:=by
 unfold gj at h;split at h
 ·split at h
  ·rename_i hq h2;cases h;exact⟨_,hq,h2.2,h2.1⟩
  ·cases h
 ·cases h
theorem OV {vs:VS} {cs:dM} {ss:List Scope} {a0 a2 a3:Int} {a4 a5:ByteArray} {ks:List Int} {ty:Int} (h:mj vs cs ss ⟨a0,4,a2,a3,a4,a5⟩ ks=.ok ty):∃ln,getM a4 vs=some (ty,ln)∧ks.getD 0 0=1:=by
 have e:mj vs cs ss ⟨a0,4,a2,a3,a4,a5⟩ ks=(match gj vs ss a4 with| .error e=>.error e| .ok t=>if ks.getD 0 0=1 then .ok t else .error 292):=rfl;rw[e] at h;cases hq:gj vs ss a4 with
 |error e=>rw[hq] at h;cases h
 |ok t=>
  rw[hq] at h;simp only[] at h;obtain⟨ln,q,-⟩:=CW hq;by_cases h1:ks.getD 0 0=1
  ·rw[if_pos h1] at h;cases h;exact⟨ln,q,h1⟩
  ·rw[if_neg h1] at h;cases h
theorem VQ {vs:VS} {cs:dM} {ss:List Scope} {a0 a2 a3:Int} {a4 a5:ByteArray} {ks:List Int} {ty:Int} (h:mj vs cs ss ⟨a0,6,a2,a3,a4,a5⟩ ks=.ok ty):ks.getD 0 0=ty:=by
 have e:mj vs cs ss ⟨a0,6,a2,a3,a4,a5⟩ ks=if (a5.toList==[45]||ks.getD 0 0==1)=true then .ok (ks.getD 0 0) else .error 292:=rfl;rw[e] at h;by_cases h1:(a5.toList==[45]||ks.getD 0 0==1)=true
 ·rw[if_pos h1] at h;cases h;rfl
 ·rw[if_neg h1] at h;cases h
theorem VR {vs:VS} {cs:dM} {ss:List Scope} {a0 a2 a3:Int} {a4 a5:ByteArray} {ks:List Int}:mj vs cs ss ⟨a0,7,a2,a3,a4,a5⟩ ks=eF a5 (ks.getD 0 0) (ks.getD 1 0):=rfl
section
variable {p:Pt} {cf:Cf} {u:UT} {n d:Nat} {m:MS} {ve:EvS} {F:Nat} {fb:List dQ} {g cap:Nat} {ms:List Nat} {w w':World}
theorem kG.b0 (h:kG p cf u n d m ve F fb g cap ms w):w.cell? ⟨p.M,0,none⟩=some (.pointer (some ⟨p.X,0,none⟩)):=by
 obtain⟨en,va,fa,hb⟩:=h.me.box;simpa using hb.cell 0
theorem kG.pw (h:kG p cf u n d m ve F fb g cap ms w):w.cell? ⟨p.M,10,none⟩=some (.map (some p.kb)):=by
 obtain⟨en,va,fa,hb⟩:=h.me.box;simpa using hb.cell 10
theorem kG.x0 (h:kG p cf u n d m ve F fb g cap ms w):w.cell? ⟨p.X,0,none⟩=some p.vg:=by simpa using h.st.X.cell 0
theorem kG.x1 (h:kG p cf u n d m ve F fb g cap ms w):w.cell? ⟨p.X,1,none⟩=some p.vh:=by simpa using h.st.X.cell 1
theorem kG.x2 (h:kG p cf u n d m ve F fb g cap ms w):w.cell? ⟨p.X,2,none⟩=some p.vf:=by simpa using h.st.X.cell 2
theorem kG.x3 (h:kG p cf u n d m ve F fb g cap ms w):w.cell? ⟨p.X,3,none⟩=some (.map (some p.vb)):=by simpa using h.st.X.cell 3
theorem kG.x4 (h:kG p cf u n d m ve F fb g cap ms w):w.cell? ⟨p.X,4,none⟩=some (.map (some p.cb)):=by simpa using h.st.X.cell 4
theorem kG.var (h:kG p cf u n d m ve F fb g cap ms w) {s:ByteArray} {t ln:Int} (hv:getM s cf.vs=some (t,ln)):(Instr.lookup 88 (.map (some p.vb)) (.string s) false).run Tryz.prog w=.ok (.agg #[.int .u8 t,.int .u32 ln]) w:=by
 have l2:=(ew h.st.nm.vars (by simpa using h.st.lv)).lookup nt bm s _ (qD w) false;rw[di tG,hv] at l2;simpa using l2
theorem kG.sig (h:kG p cf u n d m ve F fb g cap ms w) {s:ByteArray} {q:eE} (hv:getM s cf.cs=some q):∃ka kc,wW (aA w (bJ p.B)) q.params (.slice ka q.params.length kc)∧(Instr.lookup 89 (.map (some p.cb)) (.string s) false).run Tryz.prog w=.ok (.agg #[.slice ka q.params.length kc,.int .u8 q.type,.int .i64 q.host,.int .i64 q.fn]) w:=by
 obtain⟨l,h2,h3⟩:=h.st.nm.calls;have hl:=(ew h2 (by simpa using h.st.lc)).lookup jW bm s _ (nv w) false;rcases h3.get s with⟨e1,e2⟩|⟨g',v,e1,e2,pv,rfl,h5⟩
 ·rw[hv] at e1;cases e1
 ·rw[hv] at e1;cases e1;rw[e2] at hl;have h6:=h5;obtain⟨ka,kb,aD,kc,rfl,-⟩:=h6;exact⟨ka,kc,h5,by simpa using hl⟩
end
theorem dI.sI {w w':World} {B:Nat} {l:az} {ka:Option Addr} {len c:Nat} (h:dI (aA w (bJ B)) false none l (.slice ka len c)) (i:Nat) (hi:i<l.len):
  ∃b off t xa xc a,l.bu[i]? =some a∧ka=some ⟨b,off,none⟩∧jL (aA w (bJ B)) b (off+i*7) t a (.slice xa a.2.len xc)∧dI (aA w (bJ B)) false none a.2 (.slice xa a.2.len xc):=by
 obtain⟨a,ha⟩:=az.jg hi;obtain⟨b,off,cap,t,xa,xc,h1,h2,h3⟩:=h.kid i a ha;cases h1;exact⟨b,off,t,xa,xc,a,ha,rfl,h2,h3⟩
theorem I5 (p:Pt) (cf:Cf) (u:UT) (n d:Nat) (m:MS) (ve:EvS) (F:Nat) (fb:List dQ) (g cap:Nat) (ms:List Nat):∀(N:Nat) (t:Int) (h:EH) (kids:az) (v:Value) (ty:Int) (w:World),kids.sz<N→XT cf (dm fb) h kids ty→
  dI (aA w (bJ p.B)) false none kids v→kG p cf u n d m ve F fb g cap ms w→
  Calls Tryz.prog 84 #[.pointer (some ⟨p.M,0,none⟩),.pointer (some ⟨F,0,none⟩),qq t h v] w fun e w'=>e=.returned (.int .u8 ty)∧Below w.heap.size w w':=by
 intro N
 induction N with
 |zero=>intro t h kids v ty w hn;omega
 | succ N ih=>
  have IH:=af ih;clear ih;intro t h kids v ty w hn hx hv hC;obtain⟨ka,kc,rfl⟩:=hv.ay;obtain⟨ks,pL,hty⟩:=hx.kinds;obtain⟨hk,h4,h6,h7,h8,-⟩:=oo hx.ok;have HN:=af (And.intro hn (And.intro hx.kids (And.intro pL hv)));have hB:=af ((Below.refl w.heap.size w).alloc (Nat.le_refl _) (.cells #[.int .i64 t,.int .u8 h.kind,.int .u32 h.word,.int .u8 h.type,.string h.name,.string h.sign,.slice ka kids.len kc] 134));have sJ:=af (hC.below hB.out);obtain⟨a0,a1,a2,a3,a4,a5⟩:=h;simp only[] at hk h4 h6 h7 h8 hB sJ⊢;have cG:=af (Bx.new w #[.int .i64 t,.int .u8 a1,.int .u32 a2,.int .u8 a3,.string a4,.string a5,.slice ka kids.len kc] 134);obtain⟨len,hlen⟩:∃q,q=kids.len:=⟨_,rfl⟩;rw[←hlen] at h4 h6 h7 h8 hB sJ cG⊢;have bq:=af hlen;have H4:=af h4;have H6:=af h6;have H7:=af h7;have H8:=af h8;have HC:=af hC;have HV:=af hv;have HT:=af hty;clear hn hx hv hC pL hty h4 h6 h7 h8 hlen;rcases hk with hk|hk|hk|hk|hk|hk|hk|hk<;>subst hk
  ·obtain rfl:ty=1:=by have:=HT.out;simp only[mj] at this;simpa using this.symm
   clear HT HN H4 H6 H7 H8 HC HV sJ IH;go_enter Tryz.func84,Tryz.ntmps84;go_wp2_with fail
   go_ret;exact⟨rfl,hB.out⟩
  ·obtain rfl:ty=2:=by have:=HT.out;simp only[mj] at this;simpa using this.symm
   clear HT HN H4 H6 H7 H8 HC HV sJ IH;go_enter Tryz.func84,Tryz.ntmps84;go_wp2_with fail
   go_ret;exact⟨rfl,hB.out⟩
  ·have hv:gi cf.vs (dm fb) a4=.ok ty:=by have:=HT.out;simp only[mj] at this;simpa using this
   obtain⟨b,-,cx⟩:=sJ.spot hv;have CX:=af cx;clear cx HT HN H4 H6 H7 H8 HC HV sJ IH hv;go_enter Tryz.func84,Tryz.ntmps84;go_wp2_with fail
   refine CX.mono ?_;rintro e w2 ⟨rfl,hb2⟩;have aQ:=af (hB.trans (hb2.mono hB.size));clear hb2 CX;go_wp2_with fail
   go_ret;exact⟨rfl,aQ.out⟩
  ·obtain⟨ln,hv,-⟩:=OV HT.out;clear HT HN H4 H6 H7 H8 HC HV IH;go_enter Tryz.func84,Tryz.ntmps84;go_wp2_with fail
   have ky:=sJ.below (Below.refl _ _).drew;have aB:=cG.out;have iU:=hB.out;clear sJ cG hB;generalize w.alloc (.cells #[.int .i64 t,.int .u8 _,.int .u32 a2,.int .u8 a3,.string a4,.string a5,.slice ka len kc] 134)=w0 at ky aB iU⊢;have e4:w0.drew.cell? ⟨w.heap.size,4,none⟩=some (.string a4):=by simpa using aB.cell 4
   have b0:=ky.b0;have x3:=ky.x3;have l2:=ky.var hv;have IX:(Instr.field 155 (.agg #[.int .u8 ty,.int .u32 ln]) 0).run Tryz.prog w0.drew=.ok (.int .u8 ty) w0.drew:=by kernel_rfl
   clear hv;have HB:=af iU;clear ky aB iU
   go_region
   go_wp2_with fail
   go_ret;exact⟨rfl,HB.drew⟩
  ·obtain⟨q,hq,hqt⟩:∃q,getM a4 cf.cs=some q∧q.type=ty:=by
     have:=HT.out;simp only[mj] at this;obtain⟨q,h1,-,h3⟩:=yz (by simpa using this);exact⟨q,h1,h3⟩
   clear HT HN H4 H6 H7 H8 HC HV IH;go_enter Tryz.func84,Tryz.ntmps84;go_wp2_with fail
   have ky:=sJ.below (Below.refl _ _).drew;have aB:=cG.out;have iU:=hB.out;clear sJ cG hB;generalize w.alloc (.cells #[.int .i64 t,.int .u8 _,.int .u32 a2,.int .u8 a3,.string a4,.string a5,.slice ka len kc] 134)=w0 at ky aB iU⊢;have e4:w0.drew.cell? ⟨w.heap.size,4,none⟩=some (.string a4):=by simpa using aB.cell 4
   have b0:=ky.b0;have x4:=ky.x4;obtain⟨sa,sc,-,l2⟩:=ky.sig hq;rw[hqt] at l2;have IX:(Instr.field 114 (.agg #[.slice sa q.params.length sc,.int .u8 ty,.int .i64 q.host,.int .i64 q.fn]) 1).run Tryz.prog w0.drew=.ok (.int .u8 ty) w0.drew:=by kernel_rfl
   clear hq hqt;have HB:=af iU;clear ky aB iU
   go_region
   go_wp2_with fail
   go_ret;exact⟨rfl,HB.drew⟩
  ·have hl:len=1:=H6.out rfl;have hl0:0<len:=by omega
   obtain⟨b0,o0,t0,yC,yD,k0,gJ,mR,oV,hs0⟩:=HV.sI (w':=w) 0 (by rw[←bq.out];omega);obtain⟨jw,hx0,ER⟩:=dL HN.2.1 HN.2.2.1 0 k0 gJ;have hz0:=az.uH 0 k0 gJ;obtain rfl:jw=ty:=by rw[←VQ HT.out,List.getD_eq_getElem?_getD,ER];rfl
   obtain⟨⟨c0,c1,c2,c3,c4,c5⟩,kk⟩:=k0;subst mR;obtain⟨y0,y1,y2,y3,y4,y5,y6⟩:=oV.sub (aZ _ _);have VT:=ag y0 hB.out;have VU:=ag y1 hB.out;have VW:=ag y2 hB.out;have VX:=ag y3 hB.out;have VY:=ag y4 hB.out;have VZ:=ag y5 hB.out;have V6:=ag y6 hB.out;clear y0 y1 y2 y3 y4 y5 y6;simp only[Nat.zero_mul,Nat.add_zero] at VT VU VW VX VY VZ V6;have cx:=af (IH.out t0 ⟨c0,c1,c2,c3,c4,c5⟩ kk (.slice yC kk.len yD) jw _ (by have:=HN.1;simp only[] at hz0;omega) hx0 (hs0.sub (aw hB.out)) sJ.out);clear HT HN H4 H6 H7 H8 HC HV IH sJ oV hs0 hx0 ER hz0 gJ hl;go_enter Tryz.func84,Tryz.ntmps84;go_wp2_with fail
   refine cx.mono ?_;rintro e w2 ⟨rfl,hb2⟩;have aQ:=af (hB.trans (hb2.mono hB.size));clear hb2 cx;go_wp2_with fail
   go_ret;exact⟨rfl,aQ.out⟩
  ·have hl:len=2:=H7.out rfl;have hl0:0<len:=by omega
   have kt:1<len:=by omega
   have hl2:(1:Int)<(len:Int):=by omega
   obtain⟨b0,o0,t0,yC,yD,k0,gJ,mR,oV,hs0⟩:=HV.sI (w':=w) 0 (by rw[←bq.out];omega);obtain⟨jw,hx0,ER⟩:=dL HN.2.1 HN.2.2.1 0 k0 gJ;have hz0:=az.uH 0 k0 gJ;obtain⟨b1,o1,t1,V7,V8,k1,dH,yE,hr1,hs1⟩:=HV.sI (w':=w) 1 (by rw[←bq.out];omega);obtain⟨OW,hx1,Vu⟩:=dL HN.2.1 HN.2.2.1 1 k1 dH;have hz1:=az.uH 1 k1 dH;have hbin:eF a5 jw OW=.ok ty:=by rw[←HT.out,VR,List.getD_eq_getElem?_getD,List.getD_eq_getElem?_getD,ER,Vu];rfl
   subst mR;obtain⟨rfl,rfl⟩:b1=b0∧o1=o0:=by cases yE;exact⟨rfl,rfl⟩
   clear yE;obtain⟨⟨c00,c01,c02,c03,c04,c05⟩,kk0⟩:=k0;obtain⟨⟨c10,c11,c12,c13,c14,c15⟩,kk1⟩:=k1;obtain⟨y0,y1,y2,y3,y4,y5,y6⟩:=oV.sub (aZ _ _);have VT:=ag y0 hB.out;have VU:=ag y1 hB.out;have VW:=ag y2 hB.out;have VX:=ag y3 hB.out;have VY:=ag y4 hB.out;have VZ:=ag y5 hB.out;have V6:=ag y6 hB.out;clear y0 y1 y2 y3 y4 y5 y6;obtain⟨y0,y1,y2,y3,y4,y5,y6⟩:=hr1.sub (aZ _ _);have SL:=ag y0 hB.out;have SN:=ag y1 hB.out;have SQ:=ag y2 hB.out;have SS:=ag y3 hB.out;have SU:=ag y4 hB.out;have SV:=ag y5 hB.out;have SX:=ag y6 hB.out;clear y0 y1 y2 y3 y4 y5 y6;simp only[Nat.zero_mul,Nat.add_zero,Nat.one_mul] at VT VU VW VX VY VZ V6 SL SN SQ SS SU SV SX;have hs0:=hs0.sub (aw hB.out);have hs1:=hs1.sub (aw hB.out);clear HT H4 H6 H7 H8 HC HV oV hr1 ER Vu gJ dH hl;go_enter Tryz.func84,Tryz.ntmps84;go_wp2_with fail
   have ky:=sJ.out;have aB:=cG.out;have iU:=hB.out;clear sJ cG hB;generalize w.alloc (.cells #[.int .i64 t,.int .u8 _,.int .u32 a2,.int .u8 a3,.string a4,.string a5,.slice _ len kc] 134)=w0 at ky aB iU VT VU VW VX VY VZ V6 SL SN SQ SS SU SV SX hs0 hs1⊢;have e5:w0.cell? ⟨w.heap.size,5,none⟩=some (.string a5):=by simpa using aB.cell 5
   have e6:w0.cell? ⟨w.heap.size,6,none⟩=some (.slice (some ⟨b1,o1,none⟩) len kc):=by simpa using aB.cell 6
   have ky:=af ky;have HB:=af iU;clear aB iU;refine wp_region_held_drew (S:=(Below w0.heap.size w0)) (by kernel_rfl) (Below.refl _ _).drew (fun hHeld=>?_);refine tk 0 ?_;refine tk 1 ?_ (hy:=by intro w' hSw;have q5:=ag e5 hSw;go_simp;(try with_reducible rfl));refine tk 2 ?_;refine tk 3 ?_;refine tk 4 ?_;refine tk 5 ?_ (hy:=by intro w' hSw;have q6:=ag e6 hSw;go_simp;(try with_reducible rfl));refine tk 6 ?_;refine tk 7 ?_ (hy:=by intro w' hSw;have q0:=ag VT hSw;have q1:=ag VU hSw;have q2:=ag VW hSw;have q3:=ag VX hSw;have q4:=ag VY hSw;have q5:=ag VZ hSw;have q6:=ag V6 hSw;go_simp;(try with_reducible rfl));refine tk 9 ?_;refine tk 10 ?_;refine tk 11 ?_;refine tk 12 ?_ (hy:=by intro w' hSw;have q6:=ag e6 hSw;go_simp;(try with_reducible rfl));refine tk 13 ?_;refine tk 14 ?_ (hy:=by intro w' hSw;have q0:=ag SL hSw;have q1:=ag SN hSw;have q2:=ag SQ hSw;have q3:=ag SS hSw;have q4:=ag SU hSw;have q5:=ag SV hSw;have q6:=ag SX hSw;go_simp;(try with_reducible rfl));refine tr 8 fun K hK=>?_
   go_simp;go_at_call 84;refine(IH.out t0 ⟨c00,c01,c02,c03,c04,c05⟩ kk0 (.slice yC kk0.len yD) jw _ (by have:=HN.1;(try simp only[] at hz0);omega) hx0 (hs0.sub (aw hHeld)) (ky.below hHeld)).mono ?_;rintro e w2 ⟨rfl,hb2⟩;have hk:=hHeld.trans (hb2.mono hHeld.size);clear hHeld;go_wp2_with fail
   refine hK.out _ _ hk (fun hHeld=>?_);clear hK K hk
   try simp only[bK,bL,bM,bN,bO]
   refine tr 15 fun K hK=>?_
   go_simp;go_at_call 84;refine(IH.out t1 ⟨c10,c11,c12,c13,c14,c15⟩ kk1 (.slice V7 kk1.len V8) OW _ (by have:=HN.1;(try simp only[] at hz1);omega) hx1 (hs1.sub (aw hHeld)) (ky.below hHeld)).mono ?_;rintro e w2 ⟨rfl,hb2⟩;have hk:=hHeld.trans (hb2.mono hHeld.size);clear hHeld;go_wp2_with fail
   refine hK.out _ _ hk (fun hHeld=>?_);clear hK K hk
   try simp only[bK,bL,bM,bN,bO]
   refine tr 16 fun K hK=>?_
   go_simp;go_at_call 119;refine((by have:=oX a5 jw OW;rw[hbin] at this;exact this _:Calls Tryz.prog 119 #[.string a5,.int .u8 jw,.int .u8 OW] _ fun e w'=>e=.returned (.int .u8 ty)∧w'=_)).mono ?_;rintro e w2 ⟨rfl,hw⟩;have hk:=hHeld;subst w2;clear hHeld;go_wp2_with fail
   refine hK.out _ _ hk (fun hHeld=>?_);clear hK K hk
   try simp only[bK,bL,bM,bN,bO]
   refine tk 17 ?_;refine td ?_;go_wp2_with fail
   go_ret;exact⟨rfl,HB.trans (hHeld.mono HB.size)⟩
  ·obtain rfl:ty=a3:=by have:=HT.out;simp only[mj] at this;simpa using this.symm
   clear HT HN H4 H6 H7 H8 HC HV sJ IH;go_enter Tryz.func84,Tryz.ntmps84;go_wp2_with fail
   go_ret;exact⟨rfl,hB.out⟩
end
section
open Go.Shelf
structure KV (p:Pt) (ve aR:EvS) (w w1:World):Prop where
 k:aU (p.TE ve) w.heap.size w w1
 v:Vc ve aR w.heap.size
theorem KV.refl (p:Pt) (ve:EvS) (w:World):KV p ve ve w w:=⟨aU.refl _ _ _,Vc.refl _ _⟩
theorem KV.size {p:Pt} {ve aR:EvS} {w w1:World} (h:KV p ve aR w w1):w.heap.size≤w1.heap.size:=h.k.size
theorem KV.below {p:Pt} {ve aR:EvS} {w w1 w2:World} (h:KV p ve aR w w1) (hb:Below w1.heap.size w1 w2):KV p ve aR w w2:=⟨h.k.trans (aU.of (hb.mono h.size)),h.v⟩
theorem KV.trans {p:Pt} {ve aR eI:EvS} {w w1 w2:World} (h:KV p ve aR w w1) (h2:KV p aR eI w1 w2):KV p ve eI w w2:=⟨h.k.chain h.v h.size h2.k,h.v.trans h2.v h.size⟩
theorem KV.of (p:Pt) (ve:EvS) {w w1:World} (hb:Below w.heap.size w w1):KV p ve ve w w1:=(KV.refl p ve w).below hb
structure dW (p:Pt) (cf:Cf) (u:UT) (n:Nat) (aN:List Nat) (d:Nat) (m:MS) (ve:EvS) (F:Nat) (fb:List dQ) (g cap:Nat) (ms:List Nat) (w:World):Prop where
 c:kG p cf u n d m ve F fb g cap ms w
 inv:Inv cf aN m
 rg:m.Rg
 I6:Fr.Rg (ai fb)
theorem dW.below {p:Pt} {cf:Cf} {u:UT} {n:Nat} {aN:List Nat} {d:Nat} {m:MS} {ve:EvS} {F:Nat} {fb:List dQ} {g cap:Nat} {ms:List Nat} {w w':World} (h:dW p cf u n aN d m ve F fb g cap ms w) (hb:Below w.heap.size w w'):dW p cf u n aN d m ve F fb g cap ms w':=⟨h.c.below hb,h.inv,h.rg,h.I6⟩
def OY (p:Pt) (cf:Cf) (u:UT) (n:Nat) (aN:List Nat) (d F:Nat) (fb:List dQ) (g cap:Nat) (ms:List Nat) (ve:EvS) {α:Type} (P:α→Prop) (f:α→Ending) (o:Out α) (w:World) (e:Ending) (w':World):Prop:=match o with
 | .ok x m=>e=f x∧P x∧∃fJ,dW p cf u n aN d m fJ F fb g cap ms w'∧KV p ve fJ w w'
 | .stop x y m=>e=dy x y∧∃fJ d',iy p cf.allowed n d' m fJ w'∧KV p ve fJ w w'
 | .lost=>True
section
variable {p:Pt} {cf:Cf} {u:UT} {n:Nat} {aN:List Nat} {d:Nat} {m:MS} {ve:EvS} {F:Nat} {fb:List dQ} {g cap:Nat} {ms:List Nat} {w w':World}
theorem aX.lift {α:Type} {P:α→Prop} {f:α→Ending} {o:Out α} {e:Ending} (hX:dW p cf u n aN d m ve F fb g cap ms w) (hi:o.Ok cf aN) (hr:o.Rg P) (h:aX p cf.allowed n d w.heap.size ve f o w e w'):OY p cf u n aN d F fb g cap ms ve P f o w e w':=by
 cases o with
 |ok x m1=>
  obtain⟨h1,fJ,h2,h3,h4⟩:=h;have Kw:Inv cf aN m1:=hi;exact⟨h1,hr.1,fJ,⟨hX.c.move h2 h3 (by rw[Kw.shape,hX.inv.shape]),Kw,hr.2,hX.I6⟩,⟨h3,h4⟩⟩
 |stop x y m1=>
  obtain⟨h1,fJ,d',h2,h3,h4⟩:=h;exact⟨h1,fJ,d',h2,⟨h3,h4⟩⟩
 |lost=>trivial
theorem iJ {α:Type} {f:α→Ending} {x:α} {m1:MS} {aR:EvS} {w1:World} {e:Ending} (hX:dW p cf u n aN d m1 aR F fb g cap ms w1) (hK:KV p ve aR w w1) (he:e=f x):aX p cf.allowed n d w.heap.size ve f (.ok x m1) w e w1:=⟨he,aR,hX.c.me,hK.k,hK.v⟩
theorem dG {α:Type} {f:α→Ending} {x y:Int} {m1:MS} {d1:Nat} {aR:EvS} {w1:World} {e:Ending} (hM:iy p cf.allowed n d1 m1 aR w1) (hK:KV p ve aR w w1) (he:e=dy x y):aX p cf.allowed n d w.heap.size ve f (.stop x y m1) w e w1:=⟨he,aR,d1,hM,hK.k,hK.v⟩
theorem aU.at {T:Nat→Prop} {w w':World} (h:aU T w.heap.size w w') {a:Addr} {v:Value} (hc:w.cell? a=some v) (ht:¬T a.block):w'.cell? a=some v:=by
 have hb:=h.block a.block (World.block_lt_of_cell? _ _ hc) ht;unfold World.cell? at hc⊢;rw[hb];exact hc
theorem kG.fX (h:kG p cf u n d m ve F fb g cap ms w) (hk:aU (p.TE ve) w.heap.size w w') {q i:Nat} {cs:Array Value} {t:TypeId} (hb:Bx w q cs t) (h1:t≠119) (h2:t≠52) (h3:t≠127):w'.cell? ⟨q,i,none⟩=cs[i]? :=
 (hk.box hb hb.lt (h.me.dB hb h1 h2 h3)).cell i
theorem dW.word (h:dW p cf u n aN d m ve F fb g cap ms w) {s:ByteArray} {ty:Int} (ht:gi cf.vs (dm fb) s=.ok ty):
  ∃ b,((ib cf (ai fb) m s).1=ty∧w.cell? ⟨b,0,none⟩=some (.int .u32 (ib cf (ai fb) m s).2)∧w.frozen? ⟨b,0,none⟩=false∧
    ((∃x,cJ s fb=some x∧b=x.2)∨(cJ s fb=none∧∃(i:Nat) (hi:i<p.xs.length),placeOf cf s=i∧b=sy p.xs[i]∧p.xs[i].ownBlock=some b)))∧
   Calls Tryz.prog 76 #[.pointer (some ⟨p.M,0,none⟩),.pointer (some ⟨F,0,none⟩),.string s] w fun e w'=>e=.returned (.tuple #[.pointer (some ⟨b,0,none⟩),.int .u8 ty])∧Below w.heap.size w w':=by
 obtain⟨b,h1,h2⟩:=h.c.spot ht;refine⟨b,?_,h2⟩;unfold ib;rw[j6];rcases h1 with⟨x,q1,rfl,rfl⟩|⟨q1,i,hi,q2,rfl,rfl⟩
 ·rw[q1];obtain⟨sc,r1,r2⟩:=py q1;have hb:=h.c.fr.boxes sc r1 _ r2;exact⟨rfl,by simpa using hb.cell 0,hb.free 0,.inl ⟨x,rfl,rfl⟩⟩
 ·rw[q1];have hp:placeOf cf s=i:=by unfold placeOf;rw[q2];rfl
  have gq:i<m.held.length:=by have:=h.c.me.len;omega
  have hw:=h.c.me.words i hi gq;have hl0:=(h.c.pos _ (List.getElem_mem gq)).1;obtain⟨gx,cx,e1,k1,k2⟩:=eV hw hl0;have hr:sy p.xs[i]=gx:=by rw[e1];rfl
  have qR:p.xs[i].ownBlock=some gx:=by rw[e1];rfl
  obtain⟨cs,dT⟩:=dz hw qR;refine⟨rfl,?_,?_,.inr ⟨rfl,i,hi,hp,rfl,by rw[hr];exact qR⟩⟩
  ·rw[hr];have hw2:=hw;rw[e1] at hw2;have:=hw2.cellAt 0 (by omega);rw[this];simp only[Option.map_none,bI,hp,List.getD_eq_getElem?_getD,List.getElem?_eq_getElem gq,Option.getD_some];simp[hl0]
  ·rw[hr];exact dT.free 0
end
/-! ### the evaluator at known kids -/
theorem jM (fb:List dQ):cV (ai fb)=dm fb:=by
 simp only[cV,ai,dm,j5,qz,List.map_map];apply List.map_congr_left;intro a _;simp[List.map_map]
theorem gY {ev:ic} {d:Nat} {fr:Fr} {l:az} {i:Nat} {m:MS} {a:EH×az} (h:l.bu[i]? =some a):jo ev d fr l i m=ev.E d fr a.1 a.2 m:=by unfold jo;rw[h]
theorem wA {cf:Cf} {fb:List dQ} {l:az} {i:Nat} {a:EH×az} {t:Int} (h:l.bu[i]? =some a) (hx:XT cf (dm fb) a.1 a.2 t):rN cf (ai fb) l i=t:=by
 unfold rN;rw[h];exact MA cf _ _ _ (by rw[jM];exact hx.ty)
def CY (p:Pt) (cf:Cf) (u:UT) (n:Nat) (aN:List Nat) (k:Nat):Prop:=
 ∀(d:Nat) (m:MS) (ve:EvS) (F:Nat) (fb:List dQ) (g cap:Nat) (ms:List Nat) (t:Int) (h:EH) (kids:az) (v:Value) (ty:Int) (w:World),XT cf (dm fb) h kids ty→h.Wf→kids.Wf→dI (aA w (bJ p.B)) false none kids v→dW p cf u n aN d m ve F fb g cap ms w→
  (aI cf k).E d (ai fb) h kids m≠.lost→
  Calls Tryz.prog 79 #[.pointer (some ⟨p.M,0,none⟩),.pointer (some ⟨F,0,none⟩),qq t h v] w (OY p cf u n aN d F fb g cap ms ve U (fun x=>.returned (.int .u32 x)) ((aI cf k).E d (ai fb) h kids m) w)
end
section
open Go.Shelf
theorem MD {cf:Cf} {ev:ic} {d:Nat} {fr:Fr} {a0 a2 a3:Int} {a4 a5:ByteArray} {k:az} {m:MS}:aF cf ev d fr ⟨a0,1,a2,a3,a4,a5⟩ k m=.ok a2 m:=by
 unfold aF;exact if_pos (show(1:Int)=1∨(1:Int)=2 by decide)
theorem MI {cf:Cf} {ev:ic} {d:Nat} {fr:Fr} {a0 a2 a3:Int} {a4 a5:ByteArray} {k:az} {m:MS}:aF cf ev d fr ⟨a0,2,a2,a3,a4,a5⟩ k m=.ok a2 m:=by
 unfold aF;exact if_pos (show(2:Int)=1∨(2:Int)=2 by decide)
theorem MJ {cf:Cf} {ev:ic} {d:Nat} {fr:Fr} {a0 a2 a3:Int} {a4 a5:ByteArray} {k:az} {m:MS}:aF cf ev d fr ⟨a0,3,a2,a3,a4,a5⟩ k m=.ok (ib cf fr m a4).2 m:=by
 unfold aF;exact(if_neg (show¬((3:Int)=1∨(3:Int)=2) by decide)).trans (if_pos (show(3:Int)=3 by decide))
theorem MK {cf:Cf} {ev:ic} {d:Nat} {fr:Fr} {a0 a2 a3:Int} {a4 a5:ByteArray} {k:az} {m:MS}:aF cf ev d fr ⟨a0,4,a2,a3,a4,a5⟩ k m=(jo ev d fr k 0 m).bind fun i m=>match (bI cf m a4)[i.toNat]? with
  |some x=>.ok x m
  |none=>.stop 2 1 m:=by
 unfold aF;exact(if_neg (show¬((4:Int)=1∨(4:Int)=2) by decide)).trans ((if_neg (show¬((4:Int)=3) by decide)).trans (if_pos (show(4:Int)=4 by decide)))
theorem ML {cf:Cf} {ev:ic} {d:Nat} {fr:Fr} {a0 a2 a3:Int} {a4 a5:ByteArray} {k:az} {m:MS}:aF cf ev d fr ⟨a0,5,a2,a3,a4,a5⟩ k m=(df ev d fr k m).bind fun args m=>match getM a4 cf.cs with
  |none=>.lost
  |some g=>if g.host<0 then ev.F d g args m else je cf g args m:=by
 unfold aF;exact(if_neg (show¬((5:Int)=1∨(5:Int)=2) by decide)).trans ((if_neg (show¬((5:Int)=3) by decide)).trans ((if_neg (show¬((5:Int)=4) by decide)).trans (if_pos (show(5:Int)=5 by decide))))
theorem MN {cf:Cf} {ev:ic} {d:Nat} {fr:Fr} {a0 a2 a3:Int} {a4 a5:ByteArray} {k:az} {m:MS}:aF cf ev d fr ⟨a0,6,a2,a3,a4,a5⟩ k m=(jo ev d fr k 0 m).bind fun v m=>
  if a5.toList==[126] then .ok (cf.jd.U 49 v) m
  else if a5.toList==[33] then .ok (fu (v==0)) m
  else if rN cf fr k 0=2 then .ok (cf.jd.U 53 v) m else .ok (cf.jd.U 38 v) m:=by
 unfold aF;exact(if_neg (show¬((6:Int)=1∨(6:Int)=2) by decide)).trans ((if_neg (show¬((6:Int)=3) by decide)).trans ((if_neg (show¬((6:Int)=4) by decide)).trans ((if_neg (show¬((6:Int)=5) by decide)).trans (if_pos (show(6:Int)=6 by decide)))))
theorem MO {cf:Cf} {ev:ic} {d:Nat} {fr:Fr} {a0 a2 a3:Int} {a4 a5:ByteArray} {k:az} {m:MS}:aF cf ev d fr ⟨a0,7,a2,a3,a4,a5⟩ k m=(jo ev d fr k 0 m).bind fun a m=>
  if a5.toList==[38,38]&&a==0 then .ok 0 m
  else if a5.toList==[124,124]&&a !=0 then .ok 1 m
  else(jo ev d fr k 1 m).bind fun b m=>
   if a5.toList==[38,38]||a5.toList==[124,124] then .ok (fu (b !=0)) m
   else match cD cf.jd a5 (rN cf fr k 0) a b with
    |some x=>.ok x m
    |none=>.stop 2 2 m:=by
 unfold aF;exact(if_neg (show¬((7:Int)=1∨(7:Int)=2) by decide)).trans ((if_neg (show¬((7:Int)=3) by decide)).trans ((if_neg (show¬((7:Int)=4) by decide)).trans ((if_neg (show¬((7:Int)=5) by decide)).trans ((if_neg (show¬((7:Int)=6) by decide)).trans (if_pos (show(7:Int)=7 by decide))))))
theorem MP {cf:Cf} {ev:ic} {d:Nat} {fr:Fr} {a0 a2 a3:Int} {a4 a5:ByteArray} {k:az} {m:MS}:aF cf ev d fr ⟨a0,8,a2,a3,a4,a5⟩ k m=(jo ev d fr k 0 m).bind fun v m=>
  if rN cf fr k 0=a3 then .ok v m else if a3=1 then .ok (cf.jd.U 59 v) m else .ok (cf.jd.U 58 v) m:=by
 unfold aF;exact(if_neg (show¬((8:Int)=1∨(8:Int)=2) by decide)).trans ((if_neg (show¬((8:Int)=3) by decide)).trans ((if_neg (show¬((8:Int)=4) by decide)).trans ((if_neg (show¬((8:Int)=5) by decide)).trans ((if_neg (show¬((8:Int)=6) by decide)).trans ((if_neg (show¬((8:Int)=7) by decide)).trans (if_pos (show(8:Int)=8 by decide)))))))
theorem OZ (F:Nat) (a0 a1 a2 a3:Int) (a4 a5:ByteArray) (ka:Option Addr) (len kc:Nat) (w:World):
  Calls Tryz.prog 74 #[.pointer (some ⟨F,0,none⟩),.agg #[.int .i64 a0,.int .u8 a1,.int .u32 a2,.int .u8 a3,.string a4,.string a5,.slice ka len kc]] w fun e w'=>e=.returned (.int .u32 a2)∧Below w.heap.size w w':=by
 have hB:=af ((Below.refl w.heap.size w).alloc (Nat.le_refl _) (.cells #[.int .i64 a0,.int .u8 a1,.int .u32 a2,.int .u8 a3,.string a4,.string a5,.slice ka len kc] 134));go_enter Tryz.func74,Tryz.ntmps74;go_wp2_with fail
 go_ret;exact⟨rfl,hB.out⟩
theorem QZ (p:Pt) (cf:Cf) (u:UT) (n:Nat) (aN:List Nat) (k d:Nat) (m:MS) (ve:EvS) (F:Nat) (fb:List dQ) (g cap:Nat) (ms:List Nat) (a0 a2 a3:Int) (a4 a5:ByteArray) (kids:az) (v:Value) (ty:Int) (w:World) (HE:Hid (CY p cf u n aN k)) (hx:XT cf (dm fb) ⟨a0,3,a2,a3,a4,a5⟩ kids ty) (lW:kids.Wf) (hv:dI (aA w (bJ p.B)) false none kids v) (hX:dW p cf u n aN d m ve F fb g cap ms w) (ey:aF cf (aI cf k) d (ai fb) ⟨a0,3,a2,a3,a4,a5⟩ kids m≠.lost):
  Calls Tryz.prog 75 #[.pointer (some ⟨F,0,none⟩),qq a0 ⟨a0,3,a2,a3,a4,a5⟩ v,.pointer (some ⟨p.kc,0,none⟩)] w (aX p cf.allowed n d w.heap.size ve (fun x=>.returned (.int .u32 x)) (aF cf (aI cf k) d (ai fb) ⟨a0,3,a2,a3,a4,a5⟩ kids m) w):=by
 obtain⟨ka,kc,rfl⟩:=hv.ay;obtain⟨ks,pL,hty⟩:=hx.kinds;have hn:=oo hx.ok;obtain⟨R,hR⟩:∃x,x=(aX p cf.allowed n d w.heap.size ve (fun x=>.returned (.int .u32 x)) (aF cf (aI cf k) d (ai fb) ⟨a0,3,a2,a3,a4,a5⟩ kids m) w):=⟨_,rfl⟩;rw[←hR];have HR:=af hR;clear hR;simp only[] at hn⊢;have O0:gi cf.vs (dm fb) a4=.ok ty:=by simpa[mj] using hty
 obtain⟨len,hlen⟩:∃q,q=kids.len:=⟨_,rfl⟩;rw[←hlen] at hv hn⊢;have cF:=(Below.refl w.heap.size w).alloc (Nat.le_refl _) (.cells #[.int .i64 a0,.int .u8 3,.int .u32 a2,.int .u8 a3,.string a4,.string a5,.slice ka len kc] 134);have cG:=hX.below cF;have hb0:=Bx.new w #[.int .i64 a0,.int .u8 3,.int .u32 a2,.int .u8 a3,.string a4,.string a5,.slice ka len kc] 134;obtain⟨b,⟨r1,r2,r3,-⟩,cx⟩:=cG.word O0;have CX:=af cx;have EK:=af (show _=_ from cG.c.fX (i:=0) (aU.refl _ _ _) cG.c.st.IC (by decide) (by decide) (by decide));have HX:=af cG;have HB:=af cF;have RB:=af r2;have e:=EK.out;simp at e;clear hv hx ey hX cG cx hb0 cF r1 r2 r3 pL hty hn O0 HE hlen;go_enter Tryz.func75,Tryz.ntmps75;go_wp2_with fail
 refine CX.mono ?_;rintro e w2 ⟨rfl,hb2⟩;have rb:=ag RB.out hb2;have H2:=af hb2;clear hb2 CX;go_wp2_with fail
 rw[HR.out,MJ];exact iJ (HX.below H2.out) (KV.of p ve (HB.trans (H2.mono HB.size))) rfl
theorem MQ (p:Pt) (cf:Cf) (u:UT) (n:Nat) (aN:List Nat) (k d:Nat) (m:MS) (ve:EvS) (F:Nat) (fb:List dQ) (g cap:Nat) (ms:List Nat) (a0 a2 a3:Int) (a4 a5:ByteArray) (kids:az) (v:Value) (ty:Int) (w:World) (HE:Hid (CY p cf u n aN k)) (hx:XT cf (dm fb) ⟨a0,4,a2,a3,a4,a5⟩ kids ty) (lW:kids.Wf) (hv:dI (aA w (bJ p.B)) false none kids v) (hX:dW p cf u n aN d m ve F fb g cap ms w) (ey:aF cf (aI cf k) d (ai fb) ⟨a0,4,a2,a3,a4,a5⟩ kids m≠.lost):
  Calls Tryz.prog 77 #[.pointer (some ⟨F,0,none⟩),qq a0 ⟨a0,4,a2,a3,a4,a5⟩ v,.pointer (some ⟨p.kc,0,none⟩)] w (aX p cf.allowed n d w.heap.size ve (fun x=>.returned (.int .u32 x)) (aF cf (aI cf k) d (ai fb) ⟨a0,4,a2,a3,a4,a5⟩ kids m) w):=by
 obtain⟨ka,kc,rfl⟩:=hv.ay;obtain⟨ks,pL,hty⟩:=hx.kinds;have hn:=oo hx.ok;obtain⟨R,hR⟩:∃x,x=(aX p cf.allowed n d w.heap.size ve (fun x=>.returned (.int .u32 x)) (aF cf (aI cf k) d (ai fb) ⟨a0,4,a2,a3,a4,a5⟩ kids m) w):=⟨_,rfl⟩;rw[←hR];have HR:=af hR;clear hR;simp only[] at hn⊢;obtain⟨ln,QM,-⟩:=OV hty;have hl:kids.len=1:=hn.2.1 (by trivial);obtain⟨len,hlen⟩:∃q,q=kids.len:=⟨_,rfl⟩;rw[←hlen] at hv hl hn⊢;have hl0:0<len:=by omega
 obtain⟨b0,o0,t0,yC,yD,k0,gJ,mR,oV,hs0⟩:=hv.sI (w':=w) 0 (by omega);obtain⟨jw,hx0,ER⟩:=dL hx.kids pL 0 k0 gJ;have hw0:=az.fW lW 0 k0 gJ;have gJ:=af gJ;subst mR;have cF:=(Below.refl w.heap.size w).alloc (Nat.le_refl _) (.cells #[.int .i64 a0,.int .u8 4,.int .u32 a2,.int .u8 a3,.string a4,.string a5,.slice (some ⟨b0,o0,none⟩) len kc] 134);have cG:=hX.below cF;have hb0:=Bx.new w #[.int .i64 a0,.int .u8 4,.int .u32 a2,.int .u8 a3,.string a4,.string a5,.slice (some ⟨b0,o0,none⟩) len kc] 134;clear hl hlen hn;go_enter Tryz.func77,Tryz.ntmps77;go_wp2_with fail
 generalize w.alloc (.cells #[.int .i64 a0,.int .u8 4,.int .u32 a2,.int .u8 a3,.string a4,.string a5,.slice (some ⟨b0,o0,none⟩) len kc] 134)=w0 at cG hb0 cF⊢;have K0:Hid (∀w',aU (p.TE ve) w0.heap.size w0 w'→jL w' b0 (o0) t0 k0 (.slice yC k0.2.len yD)):=af fun w' hk=>by
  have h:=((oV.sub (aw cF)).sub (cG.c.cells hk)).sub (aZ _ _);simpa only[Nat.zero_mul,Nat.add_zero,Nat.one_mul] using h
 have E4:Hid (∀w',aU (p.TE ve) w0.heap.size w0 w'→w'.cell? ⟨w.heap.size,4,none⟩=some (.string a4)):=af fun w' hk=>by simpa using cG.c.fX (i:=4) hk hb0 (by decide) (by decide) (by decide)
 have E6:Hid (∀w',aU (p.TE ve) w0.heap.size w0 w'→w'.cell? ⟨w.heap.size,6,none⟩=some (.slice (some ⟨b0,o0,none⟩) len kc)):=af fun w' hk=>by simpa using cG.c.fX (i:=6) hk hb0 (by decide) (by decide) (by decide)
 have EK:Hid (∀w',aU (p.TE ve) w0.heap.size w0 w'→w'.cell? ⟨p.kc,0,none⟩=some (.pointer (some ⟨p.M,0,none⟩))):=af fun w' hk=>by simpa using cG.c.fX (i:=0) hk cG.c.st.IC (by decide) (by decide) (by decide)
 have DR:=af ((KV.of p ve cF).below (Below.refl w0.heap.size w0).drew);have W0:=af (KV.of p ve (Below.refl w0.heap.size w0).drew);have hh:=af (show aF cf (aI cf k) d (ai fb) ⟨a0,4,a2,a3,a4,a5⟩ kids m=_ by rw[MK,gY gJ.out]);have cL:(aI cf k).E d (ai fb) k0.1 k0.2 m≠.lost:=Out.cN (f:=fun i m=>match (bI cf m a4)[i.toNat]? with
   |some x=>.ok x m
   |none=>.stop 2 1 m) (by rw[←hh.out];exact ey)
 have cx:=af (HE.out d m ve F fb g cap ms t0 k0.1 k0.2 _ jw w0.drew hx0 hw0.1 hw0.2 (hs0.sub (aw (cF.trans ((Below.refl w0.heap.size w0).drew.mono cF.size)))) (cG.below (Below.refl _ _).drew) cL);obtain⟨⟨c0,c1,c2,c3,c4,c5⟩,kk⟩:=k0;clear hx lW hv oV hs0 hx0 ER hw0 hty pL ey HE cG hb0 cF;refine wp_region_held_drew (S:=(aU (p.TE ve) w0.heap.size w0)) (by kernel_rfl) (aU.of (Below.refl _ _).drew) (fun hHeld=>?_);refine tk 0 ?_ (hy:=by intro w' hSw;have q:=EK.out w' hSw;go_simp;(try with_reducible rfl));refine tk 1 ?_;refine tk 2 ?_ (hy:=by intro w' hSw;have q:=E4.out w' hSw;go_simp;(try with_reducible rfl));refine tk 3 ?_ (hy:=by intro w' hSw;have q:=EK.out w' hSw;go_simp;(try with_reducible rfl));refine tk 4 ?_;refine tk 5 ?_;refine tk 6 ?_ (hy:=by intro w' hSw;have q:=E6.out w' hSw;go_simp;(try with_reducible rfl));refine tk 7 ?_;refine tk 8 ?_ (hy:=by intro w' hSw;obtain⟨q0,q1,q2,q3,q4,q5,q6⟩:=K0.out w' hSw;go_simp;(try with_reducible rfl));refine tr 9 fun K hK=>?_
 go_simp;go_at_call 79;cases ho:(aI cf k).E d (ai fb) ⟨c0,c1,c2,c3,c4,c5⟩ kk m with
 |lost=>exact absurd ho cL
 |stop a b m1=>
  simp only[] at cx hh;rw[ho] at cx hh;have hh:=af (show _=Out.stop a b m1 from hh.out);refine cx.mono ?_;rintro e w1 ⟨rfl,aR,d1,pZ,hV1⟩;have F1:Hid (aX p cf.allowed n d w.heap.size ve (fun x=>.returned (.int .u32 x)) (.stop a b m1) w (dy a b) w1):=af (dG pZ (DR.trans hV1) rfl);clear pZ hV1 cx hK hHeld;go_wp2_with fail
  refine ar ?_;rw[HR.out,hh.out];exact F1.out
 | ok x m1=>
  simp only[] at cx hh;rw[ho] at cx hh;have hh:Hid (aF cf (aI cf k) d (ai fb) ⟨a0,4,a2,a3,a4,a5⟩ kids m=match (bI cf m1 a4)[x.toNat]? with
   |some x=>.ok x m1
   |none=>.stop 2 1 m1):=af hh.out
  obtain⟨i,hp,hi⟩:=hX.c.st.pl a4 _ QM;have hpl:placeOf cf a4=i:=by unfold placeOf;rw[hp];rfl
  refine cx.mono ?_;rintro e w1 ⟨rfl,hU,aR,aB,hV1⟩;have gq:i<m1.held.length:=by have:=aB.c.me.len;omega
  have hwd:bI cf m1 a4=m1.held[i]:=by unfold bI;rw[hpl,List.getD_eq_getElem?_getD,List.getElem?_eq_getElem gq];rfl
  have tS:=aB.c.pos _ (List.getElem_mem gq);have hwr:=aB.c.me.words i hi gq;have rB:=af (uE p cf u cf.allowed n d m1 aR a4 i x w1 aB.c.st aB.c.me hp hi gq tS.1 tS.2 hU);rw[hwd] at hh;obtain⟨gx,cx2,e1,-,-⟩:=eV hwr tS.1;have hgx:sy p.xs[i]=gx:=by rw[e1];rfl
  rw[hgx] at rB;rw[e1] at hwr;have hk:=(W0.trans hV1).k;have X1:=af aB;have V1:=af (DR.trans hV1);have V1w:=af (W0.trans hV1);have U1:=af hU;have W1:=af hwr;have DR2:=DR;generalize m1.held[i]=lw at rB hh hwr W1 tS;clear hHeld aB hV1 hU hwr gq hwd hp hi hpl cx hgx tS e1;go_wp2_with fail
  refine hK.out _ _ hk (fun hHeld=>?_);clear hK K hk
  try simp only[bK,bL,bM,bN,bO]
  refine tr 10 fun K hK=>?_
  go_simp;go_at_call 78;unfold CP at rB;by_cases hc:(lw.length:Int)≤x
  ·rw[if_pos hc] at rB;have hz:=af (show aF cf (aI cf k) d (ai fb) ⟨a0,4,a2,a3,a4,a5⟩ kids m=.stop 2 1 m1 by rw[hh.out,List.getElem?_eq_none (by have:=U1.1;omega)]);refine rB.mono ?_;rintro e w2 ⟨rfl,hb2⟩;have F2:Hid (aX p cf.allowed n d w.heap.size ve (fun x=>.returned (.int .u32 x)) (.stop 2 1 m1) w (dy 2 1) w2):=af (dG (X1.c.me.below hb2) (V1.below hb2) rfl);clear rB hK hHeld hb2;go_wp2_with fail
   refine ar ?_;rw[HR.out,hz.out];exact F2.out
  ·rw[if_neg hc] at rB;have hlt:x.toNat<lw.length:=by have:=U1.1;omega
   have hz:=af (show aF cf (aI cf k) d (ai fb) ⟨a0,4,a2,a3,a4,a5⟩ kids m=.ok lw[x.toNat] m1 by rw[hh.out,List.getElem?_eq_getElem hlt]);refine rB.mono ?_;rintro e w2 ⟨rfl,hb2⟩;have hcell:w2.cell? ⟨gx,x.toNat,none⟩=some (.int .u32 lw[x.toNat]):=by
     rw[ag (v:=.int .u32 lw[x.toNat]) ?_ hb2];rw[W1.cellAt x.toNat (by omega)];simp[hlt]
   have F2:Hid (aX p cf.allowed n d w.heap.size ve (fun x=>.returned (.int .u32 x)) (.ok lw[x.toNat] m1) w (.returned (.int .u32 lw[x.toNat])) w2):=af (iJ (X1.below hb2) (V1.below hb2) rfl);have hk:=(V1w.below hb2).k;clear hHeld rB hb2;generalize lw[x.toNat]=y at hz hcell F2;go_wp2_with fail
   refine hK.out _ _ hk (fun hHeld=>?_);clear hK K hk
   try simp only[bK,bL,bM,bN,bO]
   refine tk 11 ?_;refine tr 12 fun K hK=>?_
   go_simp;refine hK.out _ _ hHeld (fun hHeld=>?_);clear hK K
   try simp only[bK,bL,bM,bN,bO]
   refine tk 13 ?_;refine td ?_;go_wp2_with fail
   rw[HR.out,hz.out];exact F2.out
end
end Go.Proofs.YtlabadkfkbenoaaGreatDoor
