/- Walks and plain laws, merged: RefM TreeQ TreeR ChkD SenD. No condition. -/
import Derived.Test.YtlabadkfkbenoaaGreatDoorProg
import Derived.Outline
import Derived.Test.YtlabadkfkbenoaaGreatDoorKp03
import Derived.Test.YtlabadkfkbenoaaGreatDoorKp02
import Derived.Test.YtlabadkfkbenoaaGreatDoorKp01
namespace Go.Proofs.YtlabadkfkbenoaaGreatDoor
open Go.RowKit
set_option linter.unusedVariables false
set_option linter.unusedSimpArgs false
set_option maxRecDepth 100000
set_option maxHeartbeats 64000000
section
open Go.Shelf
attribute [local go_sem] Oper.semAt_some
def Gt (s:ByteArray) (p:Nat) (kd at':Int) (txt:ByteArray) (er:Int):Prop:=
 (er=0→at'=p∧∃n:Nat,txt=s.extract p n∧p<n∧n≤s.size)∧(p=0→cP (aM s 0)=true→kd=1∧er=0∧txt=s.extract 0 (bV s 0))∧(p=0→cP (aM s 0)=false→kd≠1)
def Z5 (s:ByteArray) (p:Nat) (w:World) (e:Ending) (w':World):Prop:=
 (∃(kd at':Int) (txt:ByteArray) (en er:Int),e=.returned (.tuple #[.agg #[.int .u8 kd,.int .i64 at',.string txt],.int .i64 en,.int .i64 er])∧Gt s p kd at' txt er)∧Below w.heap.size w w'
theorem Gt.plain {s:ByteArray} {p:Nat} {kd at':Int} {txt:ByteArray} {er:Int} (hp:p<s.size) (h1:er=0→at'=p∧∃n:Nat,txt=s.extract p n∧p<n∧n≤s.size) (hk:kd≠1) (hn:cP (aM s p)=false):Gt s p kd at' txt er:=
 ⟨h1,(fun h hs=>by subst h;rw[hn] at hs;cases hs),fun _ _=>hk⟩
theorem Gt.word {s:ByteArray} {p:Nat} (hp:p<s.size) (hn:cP (aM s p)=true) (hw:p<bV s p):Gt s p 1 p (s.extract p (bV s p)) 0:=
 ⟨fun _=>⟨rfl,_,rfl,hw,(iV s p (Nat.le_of_lt hp)).2⟩,(fun h _=>by subst h;exact⟨rfl,rfl,rfl⟩),fun h hs=>by subst h;rw[hn] at hs;cases hs⟩
theorem mI (s:ByteArray) (p:Nat) (hp:p<s.size) (h:(s[p]'hp).toNat<128):aM s p=((s[p]'hp).toNat:Int):=by
 have hb:=l4 s p 0 hp;have hd:=Pu s p (by have:((s[p]'hp).toNat:Int)=by' s p 0:=hb;omega);have hl:fP s p=false:=by
  cases hq:fP s p
  ·rfl
  ·have:=(nA s p hp).1 hq;rw[hd] at this;injection this with h1 h2;have h3:((s[p]'hp).toNat:Int)=by' s p 0:=hb;omega
 unfold aM;rw[hl,hd];have h3:((s[p]'hp).toNat:Int)=by' s p 0:=hb;simp only[Bool.false_eq_true,if_false];omega
theorem tL {s:ByteArray} {p:Nat} (hp:p<s.size) (hd:cR ((s[p]'hp).toNat:Int)=false) (hn:cS (aM s p)=true):cP (aM s p)=true:=by
 have hc:cR (aM s p)=false:=by
  cases hq:cR (aM s p)
  ·rfl
  ·exfalso
   have h0:48≤aM s p∧aM s p≤57:=by unfold cR at hq;simpa using hq
   have Ka:=ui s p hp (by omega) (by omega);have hb:=l4 s p 0 hp;have h3:((s[p]'hp).toNat:Int)=by' s p 0:=hb;rcases Nat.lt_or_ge (s[p]'hp).toNat 128 with h|h
   ·rw[mI s p hp h] at hq;rw[hd] at hq;cases hq
   ·rw[hn,hd] at Ka;have UX:=(s[p]'hp).toNat_lt;unfold kM at Ka;simp at Ka;omega
 unfold cS at hn;unfold cP;rw[hc] at hn;simpa using hn
theorem DL {s:ByteArray} {p:Nat} (hn:cS (aM s p)=false):cP (aM s p)=false:=by
 unfold cS at hn;unfold cP;simp only[Bool.or_eq_false_iff] at hn⊢;exact⟨hn.1.1,hn.2⟩
theorem Lg (s:ByteArray) (p:Nat) (w:World) (hs:s.size≤1048576) (hp:p<s.size):Calls Tryz.prog 152 #[.string s,.int .i64 p,.slice none 0 0] w (Z5 s p w):=by
 have hX:=af (Bx.new w #[.int .u8 0,.int .i64 0,.string ⟨#[]⟩] 222);have cF:=af ((Below.refl w.heap.size w).alloc (Nat.le_refl _) (.cells #[.int .u8 0,.int .i64 0,.string ⟨#[]⟩] 222));have c64:=af (qE ((s[p]'hp).toNat:Int) (w.alloc (.cells #[.int .u8 0,.int .i64 0,.string ⟨#[]⟩] 222)));have c65:=af (xv s p (w.alloc (.cells #[.int .u8 0,.int .i64 0,.string ⟨#[]⟩] 222)) hs hp);have c66:=af (DI s p (w.alloc (.cells #[.int .u8 0,.int .i64 0,.string ⟨#[]⟩] 222)) hs (Nat.le_of_lt hp));have c67:=af (DK s p (w.alloc (.cells #[.int .u8 0,.int .i64 0,.string ⟨#[]⟩] 222)) hs hp);have c68:=af (Gs s p (w.alloc (.cells #[.int .u8 0,.int .i64 0,.string ⟨#[]⟩] 222)));have Yx:=af (ry s p (w.alloc (.cells #[.int .u8 0,.int .i64 0,.string ⟨#[]⟩] 222)) hs hp);have hle:=af (iV s p (Nat.le_of_lt hp));go_enter Tryz.func152,Tryz.ntmps152;by_cases h10:(s[p]'hp).toNat=10
 ·have hq:(((s[p]'hp).toNat:Int)==10)=true:=by simp;omega
  have hst:Hid (cP (aM s p)=false):=af (by rw[mI s p hp (by omega),h10];decide);go_wp2_with fail
  exact bodyPost_ret (v:=.tuple #[.agg #[.int .u8 6,.int .i64 p,.string (s.extract p (p+1))],.int .i64 0,.int .i64 0]) (by simp[results,Tryz.results152,go_sem]) rfl ⟨⟨_,_,_,_,_,rfl,Gt.plain hp (fun _=>⟨rfl,p+1,rfl,by omega,by omega⟩) (by decide) hst.out⟩,by first|exact cF.out|exact(Below.refl _ _).alloc (Nat.le_refl _) _|exact vq cF.out _ _ _⟩
 have hq:(((s[p]'hp).toNat:Int)==10)=false:=by simp;omega
 go_wp2_with fail
 refine c64.mono ?_;rintro e w2 ⟨rfl,hw⟩;subst w2;cases hd:cR ((s[p]'hp).toNat:Int);rotate_left
 ·have hst:Hid (cP (aM s p)=false):=af (by
   have h0:48≤((s[p]'hp).toNat:Int)∧((s[p]'hp).toNat:Int)≤57:=by unfold cR at hd;simpa using hd
   rw[mI s p hp (by omega)];unfold cP eR;simp;omega)
  go_wp2_with fail
  refine c65.mono ?_;rintro e w2 ⟨⟨k,rfl,dH,hk2⟩,hw⟩;subst w2;go_wp2_with fail
  exact bodyPost_ret (v:=.tuple #[.agg #[.int .u8 2,.int .i64 p,.string (s.extract p k)],.int .i64 0,.int .i64 0]) (by simp[results,Tryz.results152,go_sem]) rfl ⟨⟨_,_,_,_,_,rfl,Gt.plain hp (fun _=>⟨rfl,k,rfl,by omega,by omega⟩) (by decide) hst.out⟩,by first|exact cF.out|exact(Below.refl _ _).alloc (Nat.le_refl _) _|exact vq cF.out _ _ _⟩
 go_wp2_with fail
 refine c66.mono ?_;rintro e w2 ⟨rfl,hw⟩;subst w2;cases hn:cS (aM s p);rotate_left
 ·have uZ:=(xu s p hp).2 hn;have hst:=af (tL hp hd hn);have PC:=hle.2;go_wp2_with fail
  exact bodyPost_ret (v:=.tuple #[.agg #[.int .u8 1,.int .i64 p,.string (s.extract p (bV s p))],.int .i64 0,.int .i64 0]) (by simp[results,Tryz.results152,go_sem]) rfl ⟨⟨_,_,_,_,_,rfl,Gt.word hp hst.out uZ⟩,by first|exact cF.out|exact(Below.refl _ _).alloc (Nat.le_refl _) _|exact vq cF.out _ _ _⟩
 have hst:=af (DL hn);have uZ:Hid (bV s p=p):=af (kN s p hp hn);clear hd hn;rw[uZ.out];clear uZ hle c64 c65 c66;by_cases Z6:(s[p]'hp).toNat=34∨(s[p]'hp).toNat=39
 ·rcases Z6 with h|h
  all_goals
   have tJ:((s[p]'hp).toNat:Int)=_:=congrArg (Nat.cast (R:=Int)) h;go_wp2_with fail
   refine c67.mono ?_;rintro e w2 ⟨⟨kd,at',txt,en,er,rfl,ht⟩,hb⟩;have aL:=hX.on (ah hb) (by simp);have p0:=aL.cell 0;have p1:=aL.cell 1;have p2:=aL.cell 2;have pf:=aL.free;have hB:=af (cF.trans (hb.mono (by simp)));have hT:=af ht;simp at p0 p1 p2;clear hb aL c67 c68 Yx ht;go_wp2_with fail
   exact bodyPost_ret (v:=.tuple #[.agg #[.int .u8 kd,.int .i64 at',.string txt],.int .i64 en,.int .i64 er]) (by simp[results,Tryz.results152,go_sem,p0,p1,p2,pf]) rfl ⟨⟨_,_,_,_,_,rfl,Gt.plain hp hT.2 hT.1 hst.out⟩,vq hB.out _ _ _⟩
 have jy:(((s[p]'hp).toNat:Int)==34)=false:=by simp;omega
 have tK:(((s[p]'hp).toNat:Int)==39)=false:=by simp;omega
 go_wp2_with fail
 refine c68.mono ?_;rintro e w2 ⟨rfl,hw⟩;subst w2;go_wp2_with fail
 refine Yx.mono ?_;rintro e w2 ⟨⟨r,n,rfl,hr⟩,hw⟩;subst w2;clear hr;by_cases wM:n=0
 ·subst wM;go_wp2_with fail
  exact bodyPost_ret (v:=.tuple #[.agg #[.int .u8 0,.int .i64 0,.string ⟨#[]⟩],.int .i64 p,.int .i64 13]) (by simp[results,Tryz.results152,go_sem]) rfl ⟨⟨_,_,_,_,_,rfl,Gt.plain hp (fun h=>absurd h (by decide)) (by decide) hst.out⟩,by first|exact cF.out|exact(Below.refl _ _).alloc (Nat.le_refl _) _|exact vq cF.out _ _ _⟩
 ·have zU:((n:Int)==0)=false:=by simp;omega
  go_wp2_with fail
  exact bodyPost_ret (v:=.tuple #[.agg #[.int .u8 0,.int .i64 0,.string ⟨#[]⟩],.int .i64 p,.int .i64 10]) (by simp[results,Tryz.results152,go_sem]) rfl ⟨⟨_,_,_,_,_,rfl,Gt.plain hp (fun h=>absurd h (by decide)) (by decide) hst.out⟩,by first|exact cF.out|exact(Below.refl _ _).alloc (Nat.le_refl _) _|exact vq cF.out _ _ _⟩
open Go.Shelf
attribute [local go_sem] Oper.semAt_some
theorem jZ.Z7 {s:ByteArray} {k n:Nat} {xs:List Value} (h:jZ s k n xs) (hk:k<s.size) {kd:Int} {en:Nat} (h1:k<en) (h2:en≤s.size)
  (t1:k=0→cP (aM s 0)=true→kd=1∧s.extract k en=s.extract 0 (bV s 0)) (t2:k=0→cP (aM s 0)=false→kd≠1):jZ s en (n+1) (xs++[.int .u8 kd,.int .i64 k,.string (s.extract k en)]) where
 t :=fun hq=>by
  rcases h.t hq with⟨rfl,rfl⟩|⟨h1,_⟩
  ·simp only[bP,Bool.and_eq_true,beq_iff_eq,decide_eq_true_eq,jl,nD] at hq;obtain⟨e1,e2⟩:=t1 rfl hq.1.2;rw[hq.2] at e2;have e3:en=s.size:=by
    have:=congrArg ByteArray.size e2;simp at this;omega
   subst e3;refine .inr ⟨rfl,rfl,?_⟩;rw[h.z rfl,e1];simp
  ·omega
 f :=fun hq hn kd' at' txt hx ⟨dH,hk2⟩=>by
  have wM:n=0:=by omega
  rw[h.z wM] at hx;simp at hx;obtain⟨hx1,hx2,hx3⟩:=hx;have hs:(s.extract k en).size=s.size:=by rw[hx3,hk2]
  simp at hs;have gJ:k=0:=by omega
  subst gJ;have hen:en=s.size:=by omega
  cases hst:cP (aM s 0)
  ·exact t2 rfl hst (by omega)
  ·obtain⟨_,e2⟩:=t1 rfl hst;have hle:=iV s 0 (Nat.zero_le _);have:bP s=true:=by
    have hz:=congrArg ByteArray.size e2;simp at hz;simp only[bP,jl,nD,hst,Bool.and_true,Bool.and_eq_true,beq_iff_eq,decide_eq_true_eq];omega
   rw[this] at hq;cases hq
 z:=fun h=>by omega
 one:=fun hn=>by
  have wM:n=0:=by omega
  rw[h.z wM];exact⟨_,_,_,rfl⟩
theorem jZ.pass {s:ByteArray} {p k n:Nat} {xs:List Value} (h:jZ s p n xs) (hp:uj s p k):jZ s k n xs:=by
 obtain⟨h1,h2,h3⟩:=hp;rcases h3 with rfl|h3
 ·exact h
 ·rcases Nat.lt_or_ge p s.size with hlt|Fu
  ·exact h.on hlt k h3
  ·have:k=p:=by omega
   subst this;exact h
theorem Gu (s:ByteArray) (w:World) (hs:s.size≤1048576):Calls Tryz.prog 124 #[.string s,.slice none 0 0] w (Oh s w):=by
 have c46:=af (zV w);have UY:=af (xB s 0 w hs (Nat.zero_le _));go_enter Tryz.func124,Tryz.ntmps124;go_wp2_with fail
 refine c46.mono ?_;rintro e w2 ⟨rfl,hw⟩;subst w2;by_cases Ul:524288<s.size
 ·go_wp2_with fail
  go_ret3
  exact⟨⟨_,_,_,rfl,(fun h=>by cases h),fun _ _=>by omega⟩,Below.refl _ _⟩
 go_wp2_with fail
 refine UY.mono ?_;rintro e w2 ⟨⟨k0,rfl,UZ⟩,hw⟩;subst w2;have Z8:=af UZ;clear UZ c46 UY;go_wp2_with fail
 go_loopw [7,8] (fun x y wr=>∃(k n:Nat) (xs:List Value) (x0:Value),x0=x∧y=.int .i64 k∧k≤s.size∧n≤k∧wr.ownsRow w.heap.size 222 3 x0 n xs∧jZ s k n xs∧Below w.heap.size w wr) (fun _ y _=>s.size- (intOf y).toNat)
 case atStart=>exact⟨k0,0,[],_,rfl,rfl,Z8.2.1,by omega,World.ownsRow_nil _ _ _ _,(jZ.start s).pass Z8.out,Below.refl _ _⟩
 case round=>
  clear Z8;obtain⟨k,n,xs,x0,rfl,rfl,hk,hnk,hown,hF,hb⟩:=hrel;have hO:=af hown;have hF':=af hF;have hB:=af hb;clear hown hF hb;by_cases hlt:k<s.size;rotate_left
  ·obtain rfl:k=s.size:=by omega
   go_wp2_with fail
   go_ret3
   exact⟨⟨_,_,_,rfl,fun _=>⟨n,xs,hO.out,hF'.out⟩,fun h=>absurd rfl h⟩,hB.out⟩
  have c48:=af (Lg s k wr hs hlt);go_wp2_with fail
  refine c48.mono ?_;rintro e w2 ⟨⟨kd,at',txt,en,er,rfl,ht⟩,hb2⟩;have oU:=af (rC hO.out hb2);have aQ:=af (hB.trans (hb2.mono hB.size));have Fx:=af ht;clear hb2 ht c48;by_cases her:er=0;rotate_left
  ·have ZW:(er !=0)=true:=by simpa using her
   go_wp2_with fail
   go_ret3
   refine⟨⟨_,_,_,rfl,(fun h=>absurd h her),fun _ hq=>?_⟩,aQ.alloc aQ.size _⟩
   exfalso
   rcases hF'.t hq with⟨rfl,_⟩|⟨h1,_⟩
   ·simp only[bP,Bool.and_eq_true,jl] at hq;exact her (Fx.2.1 rfl hq.1.2).2.1
   ·omega
  subst her;obtain⟨hat,m,htx,h1,h2⟩:=Fx.1 rfl;subst hat;subst htx;have hF2:=af (hF'.Z7 hlt h1 h2 (fun h hs=>⟨(Fx.2.1 h hs).1,(Fx.2.1 h hs).2.2⟩) Fx.2.2);have u9:w.heap.size≤w2.heap.size:=aQ.size;have hX:=af (Bx.new w2 #[.int .u8 kd,.int .i64 k,.string (s.extract k m)] 222);have hne:Hid (some w2.heap.size≠x0.ownBlock):=af (fun e=>by have:=oU.lt _ e.symm;omega);have hO3:=af (oU.alloc (.cells #[.int .u8 kd,.int .i64 k,.string (s.extract k m)] 222));have gQ:=af (aQ.alloc u9 (.cells #[.int .u8 kd,.int .i64 k,.string (s.extract k m)] 222));obtain⟨w4,hw4⟩:∃w4,w4=w2.alloc (.cells #[.int .u8 kd,.int .i64 k,.string (s.extract k m)] 222):=⟨_,rfl⟩;have vr:w.heap.size≤w4.heap.size:=by rw[hw4];simp;omega
  go_wp2_with (at_builtin;go_must (refine aG rfl (.tmp 36) (.tmp 38) 217 rfl w.heap.size 222 222 (.agg #[.int .u8 0,.int .i64 0,.string ⟨#[]⟩]) 3 32 1 Tryz.underlying217 (by kernel_rfl) rfl (by decide) _ n _ [.int .u8 kd,.int .i64 k,.string (s.extract k m)] (0,0) hO3.out rfl (by simp[Value.oneCell']) (by unfold maxLen;omega) (by omega) (by rw[←hw4];exact vr) rfl (show Value.slice (some ⟨w2.heap.size+1,0,none⟩) 1 1=_ by simp) ?_);intro v' w3 hA;have p2:=(hX.on hA.grown hne.out).cell 2;simp at p2;have La:=af hA.own;have Py:=af (aO (World.grownBy_alloc w2 (.cells #[.int .u8 kd,.int .i64 k,.string (s.extract k m)] 222) _) hA.grown);clear hA)
  have zW:=af (aQ.grown Py.out u9 (fun q hq=>(oU.lt q hq).1));have UY:=af (xB s m w3 hs h2);have hadd:(k:Int)+ ((m:Int) -k)=m:=by omega
  have hz:(s.extract k m).size=m-k:=by simp;omega
  clear hX hO3 gQ hne oU;go_wp2_with fail
  rw[show((k:Int)+ ((m-k:Nat):Int))=(m:Int) by omega];refine UY.mono ?_;rintro e w5 ⟨⟨j,rfl,PA⟩,hw⟩;subst w5;have BZ:=af (hF2.pass PA);have Pw:m≤j:=PA.1;have qC:j≤s.size:=PA.2.1;clear PA UY hF2 hF' Fx;go_wp2_with fail
  go_roundw
  case rel=>exact⟨j,n+1,_,v',rfl,rfl,qC,by omega,La.out,BZ.out,zW.out⟩
  case measure=>simp[intOf];omega
theorem mJ (l:List UInt8):(⟨l.toArray⟩:ByteArray).toList=l:=by rw[ByteArray.toList_eq]
theorem cQ (s:ByteArray):cv tH s=(s.toList==[118,97,114]||s.toList==[105,110,116]||s.toList==[102,108,111,97,116]||s.toList==[104,111,115,116]||s.toList==[102,117,110,99]||s.toList==[111,112,101,110]||s.toList==[105,102]||s.toList==[101,108,115,101]||s.toList==[119,104,105,108,101]||s.toList==[98,114,101,97,107]||s.toList==[99,111,110,116,105,110,117,101]||s.toList==[114,101,116,117,114,110]||false):=by
 simp only[cv,tH,List.any_cons,List.any_nil,mJ,Bool.or_assoc]
theorem zX (s:ByteArray) (w:World):Calls Tryz.prog 125 #[.string s] w fun e w'=>e=.returned (.bool (cv tH s))∧w'=w:=by
 go_enter Tryz.func125,Tryz.ntmps125;cases h0:s.toList==[118,97,114];rotate_left
 ·go_wp2_with fail
  go_ret;exact⟨aq (by rw[cQ];simp only[h0,Bool.false_or,Bool.true_or]),rfl⟩
 cases h1:s.toList==[105,110,116];rotate_left
 ·go_wp2_with fail
  go_ret;exact⟨aq (by rw[cQ];simp only[h0,h1,Bool.false_or,Bool.true_or]),rfl⟩
 cases h2:s.toList==[102,108,111,97,116];rotate_left
 ·go_wp2_with fail
  go_ret;exact⟨aq (by rw[cQ];simp only[h0,h1,h2,Bool.false_or,Bool.true_or]),rfl⟩
 cases h3:s.toList==[104,111,115,116];rotate_left
 ·go_wp2_with fail
  go_ret;exact⟨aq (by rw[cQ];simp only[h0,h1,h2,h3,Bool.false_or,Bool.true_or]),rfl⟩
 cases h4:s.toList==[102,117,110,99];rotate_left
 ·go_wp2_with fail
  go_ret;exact⟨aq (by rw[cQ];simp only[h0,h1,h2,h3,h4,Bool.false_or,Bool.true_or]),rfl⟩
 cases h5:s.toList==[111,112,101,110];rotate_left
 ·go_wp2_with fail
  go_ret;exact⟨aq (by rw[cQ];simp only[h0,h1,h2,h3,h4,h5,Bool.false_or,Bool.true_or]),rfl⟩
 cases h6:s.toList==[105,102];rotate_left
 ·go_wp2_with fail
  go_ret;exact⟨aq (by rw[cQ];simp only[h0,h1,h2,h3,h4,h5,h6,Bool.false_or,Bool.true_or]),rfl⟩
 cases h7:s.toList==[101,108,115,101];rotate_left
 ·go_wp2_with fail
  go_ret;exact⟨aq (by rw[cQ];simp only[h0,h1,h2,h3,h4,h5,h6,h7,Bool.false_or,Bool.true_or]),rfl⟩
 cases h8:s.toList==[119,104,105,108,101];rotate_left
 ·go_wp2_with fail
  go_ret;exact⟨aq (by rw[cQ];simp only[h0,h1,h2,h3,h4,h5,h6,h7,h8,Bool.false_or,Bool.true_or]),rfl⟩
 cases h9:s.toList==[98,114,101,97,107];rotate_left
 ·go_wp2_with fail
  go_ret;exact⟨aq (by rw[cQ];simp only[h0,h1,h2,h3,h4,h5,h6,h7,h8,h9,Bool.false_or,Bool.true_or]),rfl⟩
 cases h10:s.toList==[99,111,110,116,105,110,117,101];rotate_left
 ·go_wp2_with fail
  go_ret;exact⟨aq (by rw[cQ];simp only[h0,h1,h2,h3,h4,h5,h6,h7,h8,h9,h10,Bool.false_or,Bool.true_or]),rfl⟩
 cases h11:s.toList==[114,101,116,117,114,110];rotate_left
 ·go_wp2_with fail
  go_ret;exact⟨aq (by rw[cQ];simp only[h0,h1,h2,h3,h4,h5,h6,h7,h8,h9,h10,h11,Bool.false_or,Bool.true_or]),rfl⟩
 go_wp2_with fail
 go_ret;exact⟨aq (by rw[cQ];simp only[h0,h1,h2,h3,h4,h5,h6,h7,h8,h9,h10,h11,Bool.false_or]),rfl⟩
open Go.Shelf
attribute [local go_sem] Oper.semAt_some
theorem PD (s:ByteArray) (w:World) (hs:s.size≤1048576):Calls Tryz.prog 89 #[.string s] w fun e w'=>e=.returned (.bool (aS s))∧Below w.heap.size w w':=by
 have bT:=af (Gu s w hs);go_enter Tryz.func89,Tryz.ntmps89;go_wp2_with fail
 refine bT.mono ?_;rintro e w2 ⟨⟨v,en,er,rfl,h0,h1⟩,hb⟩;have hB:=af hb;clear hb bT;by_cases her:er=0;rotate_left
 ·have hq:(er==0)=false:=by simpa using her
  have oD:=af (h1 her);clear h0 h1;go_wp2_with fail
  go_ret;refine⟨aq ?_,hB.out⟩;unfold aS;cases ho:bP s
  ·rfl
  ·have:=oD.out ho;have h2:decide (s.size≤32)=false:=by simp;omega
   simp[h2]
 obtain⟨n,xs,hO,hF⟩:=h0 her;subst her;clear h1 h0;have hF':=af hF;clear hF;have hname:Hid (n≠1→bP s=false):=af (fun hn=>by
  cases ho:bP s
  ·rfl
  ·rcases hF'.t ho with⟨h1,_⟩|⟨_,h2,_⟩
   ·simp only[bP,Bool.and_eq_true,decide_eq_true_eq] at ho;omega
   ·exact absurd h2 hn)
 rcases uf hO with⟨rfl,rfl⟩|⟨g,cap,rfl⟩
 ·clear hO;go_wp2_with fail
  go_ret;exact⟨aq (by simp[aS,hname.out (by decide)]),hB.out⟩
 have Dw:=hO.1;by_cases hn:n=1;rotate_left
 ·have hq:((n:Int)==1)=false:=by simp;omega
  have hO':=af hO;clear hO Dw;go_wp2_with fail
  go_ret;exact⟨aq (by simp[aS,hname.out hn]),hB.out⟩
 subst hn;obtain⟨kd,at',txt,rfl⟩:=hF'.one rfl;have p0:w2.cell? ⟨g,0,none⟩=some (.int .u8 kd):=(hO.cellAt 0 (by decide)).trans rfl;have p1:w2.cell? ⟨g,1,none⟩=some (.int .i64 at'):=(hO.cellAt 1 (by decide)).trans rfl;have p2:w2.cell? ⟨g,2,none⟩=some (.string txt):=(hO.cellAt 2 (by decide)).trans rfl;clear hO Dw;have Fw:Hid ((kd==1&&txt.toList==s.toList)=bP s):=af (by
  cases ho:bP s
  ·have:=hF'.f ho rfl kd at' txt rfl;by_cases ht:txt=s
   ·subst ht;have:¬kd=1:=fun h=>this ⟨h,rfl⟩
    simp[this]
   ·rw[ug ht];simp
  ·rcases hF'.t ho with⟨_,h2⟩|⟨_,_,h3⟩
   ·cases h2
   ·simp at h3;simp[h3.1,h3.2.2])
 cases hk:kd==1
 ·go_wp2_with fail
  go_ret;refine⟨aq ?_,hB.out⟩;rw[hk] at Fw;simp[aS,←Fw.out]
 cases ht:txt.toList==s.toList
 ·go_wp2_with fail
  go_ret;refine⟨aq ?_,hB.out⟩;rw[ht] at Fw;simp[aS,←Fw.out]
 rw[hk,ht] at Fw;have hc2:=af (zX s w2);go_wp2_with fail
 refine hc2.mono ?_;rintro e w3 ⟨rfl,hw⟩;subst w3;cases hr:cv tH s
 ·go_wp2_with fail
  go_ret;refine⟨aq ?_,hB.out⟩;simp[aS,←Fw.out,hr]
  try omega
 ·go_wp2_with fail
  go_ret;refine⟨aq ?_,hB.out⟩;simp[aS,hr]
end
section
theorem nE {P:Program} (w:World) (base:Nat) (t ty e:TypeId) (i:TypeInfo) (z:Value) (ht:P.underlying t=some (.slice e)) (hi:P.info? e=some i) (hz:i.zero=some z)
  (hzs:z.cells.size=i.size) (hsz:0<i.size) (ka:Option Addr) (m c:Nat) (news:List Value) (hl:news.length=m*i.size)
  (hnews:m=0∨∃a,ka=some a∧∀j u,news[j]? =some u→w.cell? (a.add j)=some u) (h1:∀u∈news,u.oneCell'=true)
  (h63:m≤maxLen) (hbytes:m*i.bytes≤140737488355328) (hbase:base≤w.heap.size):
  ∃v' w',(Builtin.append_ #[t,t] ty #[.slice none 0 0,.slice ka m c]).run P w=.ok v' w'∧aV w w' base e i.size (.slice none 0 0) v' 0 m [] news:=by
 rcases hnews with rfl|⟨a,rfl,hn⟩
 ·have hn:news=[]:=List.eq_nil_of_length_eq_zero (by simpa using hl);subst hn;refine⟨.slice none 0 0,w,?_,⟨World.ownsRow_nil w base e i.size,World.ownsRow_nil w base e i.size,bR _ _,.inl rfl,by simp⟩⟩;cases ka<;>simp[Builtin.append_,run_underlying ht,sizeOf,typeInfo,hi,Builtin.lenOf,Builtin.firstCells,loadCells,loadCellsFrom]
 ·exact gI (P:=P) w base t ty e i z ht hi hz hzs hsz _ 0 [] (World.ownsRow_nil w base e i.size) a m c news hl hn h1 (by omega) (by rw[Nat.zero_add];exact hbytes) hbase
theorem lR {P:Program} {w:World} {ops:Array Oper} {rest:List Oper} {o:Oper} {a:Act} {Q:Exit→Act→World→Prop} (hgd:o.guard=none) (s x:Operand) (t:TypeId)
  (ho:o.op=.call {callee:=.builtin .append,args:=#[s,x],argTypes:=#[t,t]})
  (base:Nat) (e:TypeId) (z:Value) (size bytes m:Nat) (ht:P.underlying t=some (.slice e)) (nj:(P.info? e).map (fun i=>(i.zero,i.size,i.bytes))=some (some z,size,bytes))
  (hzs:z.cells.size=size) (hsz:0<size)
  (ka:Option Addr) (c:Nat) (news:List Value) (hl:news.length=m*size) (hnews:m=0∨∃a,ka=some a∧∀j u,news[j]? =some u→w.cell? (a.add j)=some u) (h1:∀u∈news,u.oneCell'=true)
  (h63:m≤maxLen) (hbytes:m*bytes≤140737488355328) (hbase:base≤w.heap.size)
  (hs:a.eval s=.slice none 0 0) (hx:a.eval x=.slice ka m c)
  (h:∀v' w',aV w w' base e size (.slice none 0 0) v' 0 m [] news→wpList P ops Q rest (a.put o.dst v') w'):
  wpList P ops Q (o::rest) a w:=by
 obtain⟨i,hi,hz0,hz1,hz2⟩:=info_parts nj;subst hz1;subst hz2;refine wpList_plain hgd fun K hK=>?_
 obtain⟨v',w',hr,hA⟩:=nE (P:=P) w base t o.type e i z ht hi hz0 hzs hsz ka m c news hl hnews h1 h63 hbytes hbase;unfold Oper.wp execOp;simp only[ho,resolve,invoke,builtin,Sem.run_bind,Sem.run_pure,Result.andThen_ok,List.map_toArray,List.map_cons,List.map_nil,hs,hx,hr];exact hK _ _ (h v' w' hA)
def DM (a:PW) (c:List Value):Prop:=c=[.string a.1,.int .u8 a.2]
theorem ei.cells {α:Type} {w:World} {o:Option (Nat→Prop)} {t:TypeId} {n:Nat} {R:α→Nat→Nat→Prop} {l:List α} {ka:Option Addr} {m cap:Nat} (hn:0<n) (h:ei w o t n R l (.slice ka m cap)) (Rc:α→List Value→Prop)
  (hR:∀a b q,R a b q→∃c:List Value,c.length=n∧Rc a c∧(∀u∈c,u.oneCell'=true)∧∀j u,c[j]? =some u→w.cell? ⟨b,q+j,none⟩=some u):
  ∃cs:List (List Value),cs.length=l.length∧(∀i (h:i<l.length) (h':i<cs.length),cs[i].length=n∧Rc l[i] cs[i])∧(∀u∈cs.flatten,u.oneCell'=true)∧m=l.length∧cs.flatten.length=m*n∧
   (m=0∨∃a,ka=some a∧∀j u,cs.flatten[j]? =some u→w.cell? (a.add j)=some u):=by
 obtain⟨PE,kb,aD,aK,hv,y2,y3⟩:=h;cases hv;have ch:∀i:Fin l.length,∃c:List Value,c.length=n∧Rc l[i] c∧(∀u∈c,u.oneCell'=true)∧∀j u,c[j]? =some u→w.cell? ⟨kb,aD+i*n+j,none⟩=some u:=fun i=>hR _ _ _ (y3 i i.2)
 have hcs:(List.ofFn fun i=>(ch i).choose).length=l.length:=by simp
 have hat:∀i (h:i<l.length) (h':i<(List.ofFn fun i=>(ch i).choose).length),(List.ofFn fun i=>(ch i).choose)[i]=(ch ⟨i,h⟩).choose:=fun i h h'=>by simp
 have hlen:∀i (h':i<(List.ofFn fun i=>(ch i).choose).length),(List.ofFn fun i=>(ch i).choose)[i].length=n:=fun i h'=>by
  rw[hat i (by omega) h'];exact(ch ⟨i,by omega⟩).choose_spec.1
 have tB:=gP hlen;refine⟨List.ofFn fun i=>(ch i).choose,hcs,fun i h h'=>⟨hlen i h',?_⟩,?_,rfl,by rw[tB,hcs],?_⟩
 ·rw[hat i h h'];exact(ch ⟨i,h⟩).choose_spec.2.1
 ·intro u hu;obtain⟨c,hc,hu⟩:=List.mem_flatten.1 hu;obtain⟨i,hi,rfl⟩:=List.getElem_of_mem hc;rw[hat i (by omega) hi] at hu;exact(ch ⟨i,by omega⟩).choose_spec.2.2.1 u hu
 ·rcases y2 with h0|⟨rfl,-⟩
  ·exact .inl h0.1
  ·refine .inr ⟨_,rfl,fun j u hj=>?_⟩;have Kd:j<(List.ofFn fun i=>(ch i).choose).flatten.length:=by
    rcases Nat.lt_or_ge j (List.ofFn fun i=>(ch i).choose).flatten.length with h|h
    ·exact h
    ·rw[List.getElem?_eq_none h] at hj;cases hj
   rw[tB,hcs] at Kd;have hi:j/n<l.length:=Nat.div_lt_of_lt_mul (by rw[Nat.mul_comm];exact Kd);have hr:j%n<n:=Nat.mod_lt _ hn;have he:j/n*n+j%n=j:=by rw[Nat.mul_comm];exact Nat.div_add_mod j n
   have hf:=gw hlen (j/n) (by omega) (j%n) hr;rw[he,hj,hat _ hi] at hf;have:=(ch ⟨j/n,hi⟩).choose_spec.2.2.2 (j%n) u hf.symm;rw[Nat.add_assoc,he] at this;rw[show(⟨kb,aD,none⟩:Addr).add j=⟨kb,aD+j,none⟩ by unfold Addr.add;split<;>simp_all];exact this
theorem lO.of {w:World} {a:PW} {c:List Value} {g q:Nat} (h:DM a c) (hc:∀j,j<2→w.cell? ⟨g,q+j,none⟩=c[j]?):lO w a g q:=by
 obtain rfl:=h;exact⟨hc 0 (by omega),hc 1 (by omega)⟩
theorem lO.cells {w:World} {a:PW} {b q:Nat} (h:lO w a b q):∃c:List Value,c.length=2∧DM a c∧(∀u∈c,u.oneCell'=true)∧∀j u,c[j]? =some u→w.cell? ⟨b,q+j,none⟩=some u:=by
 refine⟨_,rfl,rfl,by simp[Value.oneCell'],fun j u hj=>?_⟩
 match j,hj with
 |0,hj=>simp at hj;subst hj;exact h.c0
 |1,hj=>simp at hj;subst hj;exact h.c1
 |j+2,hj=>simp at hj
theorem dY {w w2 w3:World} {e:TypeId} {n k m:Nat} {v v':Value} {xs news:List Value} (hA:aV w2 w3 w.heap.size e n v v' k m xs news) (h:w2.ownsRow w.heap.size e n v k xs) (hs:w.heap.size≤w2.heap.size):Below w.heap.size w2 w3:=
 (Below.refl w.heap.size w2).grown hA.grown hs (fun q hq=>(h.lt q hq).1)
end
section
/-! ### a list of records, each with its own relation -/
def cZ {α:Type} (w:World) (B:Nat) (e:TypeId) (n:Nat) (R:Nat→α→List Value→Prop) (l:List α) (v:Value):Prop:=
 ∃cs:List (List Value),cs.length=l.length∧(∀i (h:i<l.length) (h':i<cs.length),cs[i].length=n∧R i l[i] cs[i])∧w.ownsRow B e n v l.length cs.flatten
theorem cZ.on {α:Type} {w w':World} {B:Nat} {e:TypeId} {n:Nat} {R R':Nat→α→List Value→Prop} {l:List α} {v:Value} (h:cZ w B e n R l v) {row:Option Nat} (hg:w.grownBy w' row) (hne:v.ownBlock=none∨v.ownBlock≠row) (hR:∀i a c,R i a c→R' i a c):cZ w' B e n R' l v:=by
 obtain⟨cs,h1,h2,h3⟩:=h;exact⟨cs,h1,fun i h h'=>⟨(h2 i h h').1,hR _ _ _ (h2 i h h').2⟩,h3.kept hg hne⟩
theorem cZ.lt {α:Type} {w:World} {B:Nat} {e:TypeId} {n:Nat} {R:Nat→α→List Value→Prop} {l:List α} {v:Value} (h:cZ w B e n R l v):∀k,v.ownBlock=some k→B≤k∧k<w.heap.size:=by
 obtain⟨cs,h1,h2,h3⟩:=h;exact h3.lt
theorem pK {n:Nat} (u:Value):∀{cs:List (List Value)},(∀i (h:i<cs.length),cs[i].length=n)→∀i (h:i<cs.length) j,j<n→(cs.set i (cs[i].set j u)).flatten=cs.flatten.set (i*n+j) u
 |[],_,i,h,_,_=>by simp at h
 | c::cs,h,i,hi,j,hj=>by
  have h0:=h 0 (by simp);simp only[List.getElem_cons_zero] at h0;cases i with
  |zero=>
   simp only[List.set_cons_zero,List.getElem_cons_zero,List.flatten_cons,Nat.zero_mul,Nat.zero_add];rw[List.set_append_left _ _ (by omega)]
  |succ i=>
   have:=pK u (cs:=cs) (fun i hi=>h (i+1) (by simpa using hi)) i (by simpa using hi) j hj;simp only[List.set_cons_succ,List.getElem_cons_succ,List.flatten_cons];rw[this,List.set_append_right _ _ (by rw[h0,Nat.add_mul];omega),h0,show(i+1)*n+j-n=i*n+j by rw[Nat.add_mul];omega]
theorem cZ.store {α:Type} {w:World} {B:Nat} {e:TypeId} {n:Nat} {R R':Nat→α→List Value→Prop} {l:List α} {g cap m:Nat} (h:cZ w B e n R l (.slice (some ⟨g,0,none⟩) m cap)) (hm:m=l.length) (k:Nat) (hk:k<l.length) (j:Nat) (hj:j<n) (u:Value)
  (hR:∀i a c,i≠k→R i a c→R' i a c) (Fw:∀c,R k l[k] c→R' k l[k] (c.set j u)):cZ (w.setCell ⟨g,k*n+j,none⟩ u) B e n R' l (.slice (some ⟨g,0,none⟩) m cap):=by
 subst hm;obtain⟨cs,h1,h2,h3⟩:=h;have SY:k<cs.length:=by omega
 refine⟨cs.set k (cs[k].set j u),by simp[h1],fun i hi hi'=>?_,?_⟩
 ·by_cases e:i=k
  ·subst e;rw[List.getElem_set_self];exact⟨by simp[(h2 i hi SY).1],Fw _ (h2 i hi SY).2⟩
  ·rw[List.getElem_set_ne (fun q=>e q.symm)];exact⟨(h2 i hi (by omega)).1,hR _ _ _ e (h2 i hi (by omega)).2⟩
 ·rw[pK u (fun i hi=>(h2 i (by omega) hi).1) k SY j hj];exact(h3.stored (k*n+j) u).1
theorem cZ.free {α:Type} {w:World} {B:Nat} {e:TypeId} {n:Nat} {R:Nat→α→List Value→Prop} {l:List α} {g cap m:Nat} (h:cZ w B e n R l (.slice (some ⟨g,0,none⟩) m cap)) (hm:m=l.length) (j:Nat):w.frozen? ⟨g,j,none⟩=false:=by
 subst hm;obtain⟨cs,h1,h2,h3⟩:=h;exact h3.frozenAt j
theorem cZ.cell {α:Type} {w:World} {B:Nat} {e:TypeId} {n:Nat} {R:Nat→α→List Value→Prop} {l:List α} {g cap m:Nat} (h:cZ w B e n R l (.slice (some ⟨g,0,none⟩) m cap)) (hm:m=l.length) (k:Nat) (hk:k<l.length) (j:Nat) (hj:j<n):∃v,w.cell? ⟨g,k*n+j,none⟩=some v:=by
 subst hm;obtain⟨cs,h1,h2,h3⟩:=h;have hl:∀i (h:i<cs.length),cs[i].length=n:=fun i h=>(h2 i (by omega) h).1
 have hlt:k*n+j<l.length*n:=by
  calc k*n+j<k*n+n:=by omega
   _=(k+1)*n:=by rw[Nat.add_mul];omega
   _≤l.length*n:=Nat.mul_le_mul_right _ (by omega)
 rw[h3.cellAt _ hlt,gw hl k (by omega) j hj];exact⟨_,List.getElem?_eq_getElem (by rw[hl];exact hj)⟩
theorem cZ.whole {α:Type} {w w':World} {B:Nat} {e:TypeId} {n:Nat} {R:Nat→α→List Value→Prop} {l:List α} {v':Value} {m:Nat} {cs:List (List Value)} (hA:aV w w' B e n (.slice none 0 0) v' 0 m [] cs.flatten) (h1:cs.length=l.length) (h2:∀i (h:i<l.length) (h':i<cs.length),cs[i].length=n∧R i l[i] cs[i]) (hm:m=l.length):cZ w' B e n R l v':=
 ⟨cs,h1,h2,by have:=hA.own;rw[Nat.zero_add,List.nil_append,hm] at this;exact this⟩
theorem cZ.own {α:Type} {w:World} {B:Nat} {e:TypeId} {n:Nat} {R:Nat→α→List Value→Prop} {l:List α} {v:Value} (h:cZ w B e n R l v):∃cs:List (List Value),cs.length=l.length∧(∀i (h:i<l.length) (h':i<cs.length),cs[i].length=n∧R i l[i] cs[i])∧w.ownsRow B e n v l.length cs.flatten:=h
/-! ### the cells of a unit's records -/
def DN (a:GH) (c:List Value):Prop:=c=[.int .i64 a.at_,.string a.name,.int .u8 a.type,.int .u32 a.len,.int .u32 a.word]
def rF (w:World) (Z:Nat→Prop) (d:Bool) (a:HH) (c:List Value):Prop:=
 ∃v,c=[.int .i64 a.at_,.string a.name,v,.int .u8 a.type,.int .u32 a.number]∧(d=true→dE w (some Z) a.params v)
def vt (w:World) (Z:Nat→Prop) (d d':Bool) (a:FH) (c:List Value):Prop:=
 ∃v v',c=[.int .i64 a.at_,.string a.name,v,.int .u8 a.type,.bool a.opn,v']∧(d=true→dE w (some Z) a.params v)∧(d'=true→dR w true (some Z) a.body v')
theorem ji.of {w:World} {a:GH} {c:List Value} {g q:Nat} (h:DN a c) (hc:∀j,j<5→w.cell? ⟨g,q+j,none⟩=c[j]?):ji w true a g q:=by
 obtain rfl:=h;exact⟨⟨_,hc 0 (by omega),fun _=>rfl⟩,hc 1 (by omega),hc 2 (by omega),hc 3 (by omega),hc 4 (by omega)⟩
theorem gM.of {w:World} {Z:Nat→Prop} {a:HH} {c:List Value} {g q:Nat} (h:rF w Z true a c) (hc:∀j,j<5→w.cell? ⟨g,q+j,none⟩=c[j]?):gM w true (some Z) a g q:=by
 obtain⟨v,rfl,hv⟩:=h;exact⟨⟨_,hc 0 (by omega),fun _=>rfl⟩,hc 1 (by omega),⟨v,hc 2 (by omega),hv rfl⟩,hc 3 (by omega),hc 4 (by omega)⟩
theorem gN.of {w:World} {Z:Nat→Prop} {a:FH} {c:List Value} {g q:Nat} (h:vt w Z true true a c) (hc:∀j,j<6→w.cell? ⟨g,q+j,none⟩=c[j]?):gN w true (some Z) a g q:=by
 obtain⟨v,v',rfl,hv,hv'⟩:=h;exact⟨⟨_,hc 0 (by omega),fun _=>rfl⟩,hc 1 (by omega),⟨v,hc 2 (by omega),hv rfl⟩,hc 3 (by omega),hc 4 (by omega),⟨v',hc 5 (by omega),hv' rfl⟩⟩
theorem ji.cells {w:World} {a:GH} {b q:Nat} (h:ji w true a b q):∃c:List Value,c.length=5∧DN a c∧(∀u∈c,u.oneCell'=true)∧∀j u,c[j]? =some u→w.cell? ⟨b,q+j,none⟩=some u:=by
 obtain⟨⟨t,y0,jQ⟩,y1,y2,y3,y4⟩:=h;obtain rfl:=jQ rfl;refine⟨_,rfl,rfl,by simp[Value.oneCell'],fun j u hj=>?_⟩
 match j,hj with
 |0,hj=>simp at hj;subst hj;exact y0
 |1,hj=>simp at hj;subst hj;exact y1
 |2,hj=>simp at hj;subst hj;exact y2
 |3,hj=>simp at hj;subst hj;exact y3
 |4,hj=>simp at hj;subst hj;exact y4
 |j+5,hj=>simp at hj
theorem gM.cells {w:World} {a:HH} {b q:Nat} (h:gM w true none a b q) (Z:Nat→Prop) (w':World):∃c:List Value,c.length=5∧rF w' Z false a c∧(∀u∈c,u.oneCell'=true)∧∀j u,c[j]? =some u→w.cell? ⟨b,q+j,none⟩=some u:=by
 obtain⟨⟨t,y0,jQ⟩,y1,⟨v,y2,hv⟩,y3,y4⟩:=h;obtain rfl:=jQ rfl;obtain⟨pa,pc,rfl⟩:=hv.shape;refine⟨[.int .i64 a.at_,.string a.name,.slice pa a.params.length pc,.int .u8 a.type,.int .u32 a.number],rfl,⟨_,rfl,(fun e=>nomatch e)⟩,by simp[Value.oneCell'],fun j u hj=>?_⟩
 match j,hj with
 |0,hj=>simp at hj;subst hj;exact y0
 |1,hj=>simp at hj;subst hj;exact y1
 |2,hj=>simp at hj;subst hj;exact y2
 |3,hj=>simp at hj;subst hj;exact y3
 |4,hj=>simp at hj;subst hj;exact y4
 |j+5,hj=>simp at hj
theorem gN.cells {w:World} {a:FH} {b q:Nat} (h:gN w true none a b q) (Z:Nat→Prop) (w':World):∃c:List Value,c.length=6∧vt w' Z false false a c∧(∀u∈c,u.oneCell'=true)∧∀j u,c[j]? =some u→w.cell? ⟨b,q+j,none⟩=some u:=by
 obtain⟨⟨t,y0,jQ⟩,y1,⟨v,y2,hv⟩,y3,y4,⟨x,y5,hx⟩⟩:=h;obtain rfl:=jQ rfl;obtain⟨pa,pc,rfl⟩:=hv.shape;obtain⟨xa,xn,xc,rfl⟩:=hx.shape;refine⟨[.int .i64 a.at_,.string a.name,.slice pa a.params.length pc,.int .u8 a.type,.bool a.opn,.slice xa xn xc],rfl,⟨_,_,rfl,(fun e=>nomatch e),(fun e=>nomatch e)⟩,by simp[Value.oneCell'],fun j u hj=>?_⟩
 match j,hj with
 |0,hj=>simp at hj;subst hj;exact y0
 |1,hj=>simp at hj;subst hj;exact y1
 |2,hj=>simp at hj;subst hj;exact y2
 |3,hj=>simp at hj;subst hj;exact y3
 |4,hj=>simp at hj;subst hj;exact y4
 |5,hj=>simp at hj;subst hj;exact y5
 |j+6,hj=>simp at hj
/-! ### three boxes: the argument, the answer, the unit that is built -/
structure CU (w wr:World) (arg:Array Value) (x0 x1 x2:Value):Prop where
 below:Below w.heap.size w wr
 a:Bx wr w.heap.size arg 26
 r:Bx wr (w.heap.size+1) #[.slice none 0 0,.slice none 0 0,.slice none 0 0] 26
 x:Bx wr (w.heap.size+1+1) #[x0,x1,x2] 26
theorem CU.size {w wr:World} {arg:Array Value} {x0 x1 x2:Value} (h:CU w wr arg x0 x1 x2):w.heap.size+3≤wr.heap.size:=by have:=h.x.lt;omega
theorem CU.start (w:World) (arg:Array Value):CU w (((w.alloc (.cells arg 26)).alloc (.cells #[.slice none 0 0,.slice none 0 0,.slice none 0 0] 26)).alloc (.cells #[.slice none 0 0,.slice none 0 0,.slice none 0 0] 26)) arg (.slice none 0 0) (.slice none 0 0) (.slice none 0 0) where
 below:=(((Below.refl _ _).alloc (Nat.le_refl _) _).alloc (by simp) _).alloc (by simp;omega) _
 a:=((Bx.new w _ _).on (World.grownBy_alloc _ _ none) (by simp)).on (World.grownBy_alloc _ _ none) (by simp)
 r:=by have:=(Bx.new (w.alloc (.cells arg 26)) #[.slice none 0 0,.slice none 0 0,.slice none 0 0] 26).on (World.grownBy_alloc _ (.cells #[.slice none 0 0,.slice none 0 0,.slice none 0 0] 26) none) (by simp);simpa using this
 x:=by have:=Bx.new ((w.alloc (.cells arg 26)).alloc (.cells #[.slice none 0 0,.slice none 0 0,.slice none 0 0] 26)) #[.slice none 0 0,.slice none 0 0,.slice none 0 0] 26;simpa using this
theorem CU.step {w wr w':World} {arg:Array Value} {x0 x1 x2:Value} (h:CU w wr arg x0 x1 x2) {row:Option Nat} (hg:wr.grownBy w' row) (hr:∀k,row=some k→w.heap.size+3≤k):CU w w' arg x0 x1 x2 where
 below:=h.below.grown hg (by have:=h.below.size;omega) (fun k hk=>by have:=hr k hk;omega)
 a:=h.a.on hg (fun e=>by have:=hr _ e.symm;omega)
 r:=h.r.on hg (fun e=>by have:=hr _ e.symm;omega)
 x:=h.x.on hg (fun e=>by have:=hr _ e.symm;omega)
theorem CU.drew {w wr:World} {arg:Array Value} {x0 x1 x2:Value} (h:CU w wr arg x0 x1 x2):CU w wr.drew arg x0 x1 x2:=⟨h.below.drew,h.a,h.r,h.x⟩
theorem CU.put {w wr:World} {arg:Array Value} {x0 x1 x2:Value} (h:CU w wr arg x0 x1 x2) (i:Nat) (v y0 y1 y2:Value) (hy:(#[x0,x1,x2]:Array Value).set! i v=#[y0,y1,y2]):CU w (wr.setCell ⟨w.heap.size+1+1,i,none⟩ v) arg y0 y1 y2 where
 below:=h.below.setCell (by show w.heap.size≤w.heap.size+1+1;omega) _
 a:=h.a.on (cW (bR _ _) (pb:=w.heap.size+1+1) (off:=i) v) (fun e=>by have:=Option.some.inj e;omega)
 r:=h.r.on (cW (bR _ _) (pb:=w.heap.size+1+1) (off:=i) v) (fun e=>by have:=Option.some.inj e;omega)
 x:=by rw[←hy];exact h.x.set i v
theorem CU.cells {w wr:World} {g0 g1 g2 x0 x1 x2:Value} (h:CU w wr #[g0,g1,g2] x0 x1 x2):
  (wr.cell? ⟨w.heap.size,0,none⟩=some g0∧wr.cell? ⟨w.heap.size,1,none⟩=some g1∧wr.cell? ⟨w.heap.size,2,none⟩=some g2)∧
  (wr.cell? ⟨w.heap.size+1+1,0,none⟩=some x0∧wr.cell? ⟨w.heap.size+1+1,1,none⟩=some x1∧wr.cell? ⟨w.heap.size+1+1,2,none⟩=some x2)∧(∀i,wr.frozen? ⟨w.heap.size+1+1,i,none⟩=false):=
 ⟨⟨h.a.cell 0,h.a.cell 1,h.a.cell 2⟩,⟨h.x.cell 0,h.x.cell 1,h.x.cell 2⟩,h.x.free⟩
theorem rG {w:World} {B:Nat} {e:TypeId} {n m:Nat} {v:Value} {xs:List Value} (h:w.ownsRow B e n v m xs):∃a c,v=.slice a m c:=by
 rcases h.2 with⟨rfl,rfl⟩|⟨g,cap,cur,rfl,_⟩
 ·exact⟨_,_,rfl⟩
 ·exact⟨_,_,rfl⟩
theorem size_set (w:World) (a:Addr) (v:Value):(w.setCell a v).heap.size=w.heap.size:=by simp[World.setCell]
theorem PF {w w':World} {m:Nat} {ka:Option Addr} {news:List Value} (h:m=0∨∃a,ka=some a∧∀j u,news[j]? =some u→w.cell? (a.add j)=some u) (hb:Below w.heap.size w w'):m=0∨∃a,ka=some a∧∀j u,news[j]? =some u→w'.cell? (a.add j)=some u:=
 h.imp id (fun⟨a,e,x⟩=>⟨a,e,fun j u q=>ag (x j u q) hb⟩)
theorem CU.whole {w w1 w2:World} {arg:Array Value} {x0 x1 x2 v':Value} {e:TypeId} {n m:Nat} {news:List Value} (h:CU w w1 arg x0 x1 x2) (hA:aV w1 w2 (w.heap.size+3) e n (.slice none 0 0) v' 0 m [] news):CU w w2 arg x0 x1 x2:=
 h.step (row:=none) hA.grown (fun k hk=>by cases hk)
theorem CU.mark {w w1 w2:World} {arg:Array Value} {x0 x1 x2 v v':Value} {e:TypeId} {n k m:Nat} {xs news:List Value} (h:CU w w1 arg x0 x1 x2) (hA:aV w1 w2 (w.heap.size+3) e n v v' k m xs news) (ho:w1.ownsRow (w.heap.size+3) e n v k xs):CU w w2 arg x0 x1 x2:=
 h.step hA.grown (fun q hq=>(ho.lt q hq).1)
theorem rF.move {w w':World} {Z Z':Nat→Prop} {d:Bool} {a:HH} {c:List Value} {row:Option Nat} (h:rF w Z d a c) (hg:w.grownBy w' row) (hr:∀b,Z b→some b≠row) (hz:∀b,Z b→Z' b):rF w' Z' d a c:=by
 obtain⟨v,hv,h1⟩:=h;exact⟨v,hv,fun e=>(h1 e).move hg hr hz⟩
theorem vt.move {w w':World} {Z Z':Nat→Prop} {d d':Bool} {a:FH} {c:List Value} {row:Option Nat} (h:vt w Z d d' a c) (hg:w.grownBy w' row) (hr:∀b,Z b→some b≠row) (hz:∀b,Z b→Z' b):vt w' Z' d d' a c:=by
 obtain⟨v,v',hv,h1,h2⟩:=h;exact⟨v,v',hv,fun e=>(h1 e).move hg hr hz,fun e=>(h2 e).move hg hr hz⟩
abbrev HB (w:World) (B:Nat) (l:List HH) (v:Value) (k:Nat):Prop:=cZ w B 101 5 (fun i=>rF w (ZB B w.heap.size v) (decide (i<k))) l v
abbrev FB (w:World) (B:Nat) (l:List FH) (v:Value) (k k':Nat):Prop:=cZ w B 43 6 (fun i=>vt w (ZB B w.heap.size v) (decide (i<k)) (decide (i<k'))) l v
theorem Gv {v:Value} {B N q:Nat} (h:∀k,v.ownBlock=some k→B≤k∧k<N) (hq:q<B):v.ownBlock=none∨v.ownBlock≠some q:=.inr (fun e=>by have:=(h q e).1;omega)
theorem HB.call {w w2:World} {B:Nat} {l:List HH} {v:Value} {k:Nat} (h:HB w B l v k) (hg:w.grownBy w2 none):HB w2 B l v k:=
 cZ.on h hg (by cases v.ownBlock<;>simp) (fun i a c hc=>hc.move hg (fun _ _=>by simp) (fun b hb=>⟨hb.1,Nat.lt_of_lt_of_le hb.2.1 hg.size,hb.2.2⟩))
theorem FB.call {w w2:World} {B:Nat} {l:List FH} {v:Value} {k k':Nat} (h:FB w B l v k k') (hg:w.grownBy w2 none):FB w2 B l v k k':=
 cZ.on h hg (by cases v.ownBlock<;>simp) (fun i a c hc=>hc.move hg (fun _ _=>by simp) (fun b hb=>⟨hb.1,Nat.lt_of_lt_of_le hb.2.1 hg.size,hb.2.2⟩))
theorem HB.other {w w2:World} {B:Nat} {l:List HH} {v:Value} {k:Nat} (h:HB w B l v k) {q:Nat} (hg:w.grownBy w2 (some q)) (hq:q<B):HB w2 B l v k:=
 cZ.on h hg (Gv h.lt hq) (fun i a c hc=>hc.move hg (fun b hb=>by have:=hb.1;simp;omega) (fun b hb=>⟨hb.1,Nat.lt_of_lt_of_le hb.2.1 hg.size,hb.2.2⟩))
theorem FB.other {w w2:World} {B:Nat} {l:List FH} {v:Value} {k k':Nat} (h:FB w B l v k k') {q:Nat} (hg:w.grownBy w2 (some q)) (hq:q<B):FB w2 B l v k k':=
 cZ.on h hg (Gv h.lt hq) (fun i a c hc=>hc.move hg (fun b hb=>by have:=hb.1;simp;omega) (fun b hb=>⟨hb.1,Nat.lt_of_lt_of_le hb.2.1 hg.size,hb.2.2⟩))
theorem HB.put {w:World} {B:Nat} {l:List HH} {g m cap k:Nat} (h:HB w B l (.slice (some ⟨g,0,none⟩) m cap) k) (hm:m=l.length) (hk:k<l.length) {u:Value} {Z0:Nat→Prop} (hu:dE w (some Z0) l[k].params u) (hz:∀b,Z0 b→ZB B w.heap.size (.slice (some ⟨g,0,none⟩) m cap) b):
  HB (w.setCell ⟨g,k*5+2,none⟩ u) B l (.slice (some ⟨g,0,none⟩) m cap) (k+1):=by
 have hg:w.grownBy (w.setCell ⟨g,k*5+2,none⟩ u) (some g):=cW (bR _ _) u;have hs:=size_set w ⟨g,k*5+2,none⟩ u;have hzz:∀b,ZB B w.heap.size (.slice (some ⟨g,0,none⟩) m cap) b→ZB B (w.setCell ⟨g,k*5+2,none⟩ u).heap.size (.slice (some ⟨g,0,none⟩) m cap) b:=fun b hb=>⟨hb.1,by rw[hs];exact hb.2.1,hb.2.2⟩
 refine cZ.store h hm k hk 2 (by omega) u (fun i a c hi hc=>?_) (fun c hc=>?_)
 ·have hd:decide (i<k+1)=decide (i<k):=by simp;omega
  show rF _ _ (decide (i<k+1)) a c
  rw[hd];exact rF.move hc hg (fun b hb=>hb.2.2) hzz
 ·obtain⟨v,rfl,_⟩:=hc;exact⟨u,rfl,fun _=>hu.move hg (fun b hb=>(hz b hb).2.2) (fun b hb=>hzz b (hz b hb))⟩
theorem ji.move {w w':World} {p:Bool} {a:GH} {b q:Nat} {row:Option Nat} (h:ji w p a b q) (hg:w.grownBy w' row) (hb:some b≠row):ji w' p a b q:=by
 obtain⟨⟨t,y0,jQ⟩,y1,y2,y3,y4⟩:=h;exact⟨⟨t,hg.cell y0 hb,jQ⟩,hg.cell y1 hb,hg.cell y2 hb,hg.cell y3 hb,hg.cell y4 hb⟩
theorem gM.move {w w':World} {p:Bool} {Z Z':Nat→Prop} {a:HH} {b q:Nat} {row:Option Nat} (h:gM w p (some Z) a b q) (hg:w.grownBy w' row) (hr:∀b,Z b→some b≠row) (hz:∀b,Z b→Z' b) (hb:some b≠row):gM w' p (some Z') a b q:=by
 obtain⟨⟨t,y0,jQ⟩,y1,⟨v,y2,hv⟩,y3,y4⟩:=h;exact⟨⟨t,hg.cell y0 hb,jQ⟩,hg.cell y1 hb,⟨v,hg.cell y2 hb,hv.move hg hr hz⟩,hg.cell y3 hb,hg.cell y4 hb⟩
theorem gN.move {w w':World} {p:Bool} {Z Z':Nat→Prop} {a:FH} {b q:Nat} {row:Option Nat} (h:gN w p (some Z) a b q) (hg:w.grownBy w' row) (hr:∀b,Z b→some b≠row) (hz:∀b,Z b→Z' b) (hb:some b≠row):gN w' p (some Z') a b q:=by
 obtain⟨⟨t,y0,jQ⟩,y1,⟨v,y2,hv⟩,y3,y4,⟨x,y5,hx⟩⟩:=h;exact⟨⟨t,hg.cell y0 hb,jQ⟩,hg.cell y1 hb,⟨v,hg.cell y2 hb,hv.move hg hr hz⟩,hg.cell y3 hb,hg.cell y4 hb,⟨x,hg.cell y5 hb,hx.move hg hr hz⟩⟩
theorem N5.move {w w':World} {p:Bool} {Z Z':Nat→Prop} {l:List GH} {v:Value} {row:Option Nat} (h:N5 w p (some Z) l v) (hg:w.grownBy w' row) (hr:∀b,Z b→some b≠row) (hz:∀b,Z b→Z' b):N5 w' p (some Z') l v:=ei.move h hg hr hz (fun a b q hb h=>h.move hg hb)
theorem N6.move {w w':World} {p:Bool} {Z Z':Nat→Prop} {l:List HH} {v:Value} {row:Option Nat} (h:N6 w p (some Z) l v) (hg:w.grownBy w' row) (hr:∀b,Z b→some b≠row) (hz:∀b,Z b→Z' b):N6 w' p (some Z') l v:=ei.move h hg hr hz (fun a b q hb h=>h.move hg hr hz hb)
theorem SG.move {w w':World} {p:Bool} {Z Z':Nat→Prop} {l:List FH} {v:Value} {row:Option Nat} (h:SG w p (some Z) l v) (hg:w.grownBy w' row) (hr:∀b,Z b→some b≠row) (hz:∀b,Z b→Z' b):SG w' p (some Z') l v:=ei.move h hg hr hz (fun a b q hb h=>h.move hg hr hz hb)
theorem HB.done {B:Nat} {l:List HH} {wr w3:World} {x0:Value} {g k cap:Nat} {mark:List Value} {cs:List (List Value)} (hA:aV wr w3 B 101 5 x0 (.slice (some ⟨g,0,none⟩) (k+1) cap) k 1 cs.flatten mark)
  (h1:cs.length=l.length) (h2:∀i (h:i<l.length) (h':i<cs.length),cs[i].length=5∧rF wr (ZB B wr.heap.size x0) (decide (i<k)) l[i] cs[i]) (hlt:∀q,x0.ownBlock=some q→q<wr.heap.size) (hB:B≤wr.heap.size) (hg:B≤g) (hm:k=l.length) (J9:mark[0]? =some (ub 101):=by rfl):
  N6 w3 true (some fun b=>B≤b∧b<w3.heap.size) l (.slice (some ⟨g,0,none⟩) k cap):=by
 subst hm;have U2:=Gc (B:=B) (bR wr none) hA hlt hB;have hg3:g<w3.heap.size:=(hA.own.lt g rfl).2;refine zl.done (R:=rF w3 (fun b=>B≤b∧b<w3.heap.size) true) h1 (fun i h h'=>⟨(h2 i h h').1,?_⟩) hA.own (by omega) (by decide) J9 ⟨hg,hg3⟩ (fun a c q hR hc=>gM.of hR hc);have:=(h2 i h h').2;rw[decide_eq_true h] at this;exact this.move U2.grown (fun b hb=>hb.2.2) (fun b hb=>⟨hb.1,(U2.Dx b hb).2.1⟩)
theorem FB.done {B:Nat} {l:List FH} {wr w3:World} {x0:Value} {g k cap:Nat} {mark:List Value} {cs:List (List Value)} (hA:aV wr w3 B 43 6 x0 (.slice (some ⟨g,0,none⟩) (k+1) cap) k 1 cs.flatten mark)
  (h1:cs.length=l.length) (h2:∀i (h:i<l.length) (h':i<cs.length),cs[i].length=6∧vt wr (ZB B wr.heap.size x0) (decide (i<k)) (decide (i<k)) l[i] cs[i]) (hlt:∀q,x0.ownBlock=some q→q<wr.heap.size) (hB:B≤wr.heap.size) (hg:B≤g) (hm:k=l.length) (J9:mark[0]? =some (ub 43):=by rfl):
  SG w3 true (some fun b=>B≤b∧b<w3.heap.size) l (.slice (some ⟨g,0,none⟩) k cap):=by
 subst hm;have U2:=Gc (B:=B) (bR wr none) hA hlt hB;have hg3:g<w3.heap.size:=(hA.own.lt g rfl).2;refine zl.done (R:=vt w3 (fun b=>B≤b∧b<w3.heap.size) true true) h1 (fun i h h'=>⟨(h2 i h h').1,?_⟩) hA.own (by omega) (by decide) J9 ⟨hg,hg3⟩ (fun a c q hR hc=>gN.of hR hc);have:=(h2 i h h').2;rw[decide_eq_true h] at this;exact this.move U2.grown (fun b hb=>hb.2.2) (fun b hb=>⟨hb.1,(U2.Dx b hb).2.1⟩)
theorem DN.done {B:Nat} {l:List GH} {w1 w3:World} {x0:Value} {g k cap:Nat} {mark:List Value} {cs:List (List Value)} (hA:aV w1 w3 B 105 5 x0 (.slice (some ⟨g,0,none⟩) (k+1) cap) k 1 cs.flatten mark)
  (h1:cs.length=l.length) (h2:∀i (h:i<l.length) (h':i<cs.length),cs[i].length=5∧DN l[i] cs[i]) (hg:B≤g) (hm:k=l.length) (J9:mark[0]? =some (ub 105):=by rfl):
  N5 w3 true (some fun b=>B≤b∧b<w3.heap.size) l (.slice (some ⟨g,0,none⟩) k cap):=by
 subst hm;have hg3:g<w3.heap.size:=(hA.own.lt g rfl).2;exact zl.done (R:=DN) h1 h2 hA.own (by omega) (by decide) J9 ⟨hg,hg3⟩ (fun a c q hR hc=>ji.of hR hc)
theorem HB.start {w0 w2 w3:World} {Z0:Nat→Prop} {B:Nat} {l:List HH} {v':Value} {m:Nat} {cs:List (List Value)} (hA:aV w2 w3 B 101 5 (.slice none 0 0) v' 0 m [] cs.flatten) (h1:cs.length=l.length) (h2:∀i (h:i<l.length) (h':i<cs.length),cs[i].length=5∧rF w0 Z0 false l[i] cs[i]) (hm:m=l.length):HB w3 B l v' 0:=
 cZ.whole hA h1 (fun i h h'=>⟨(h2 i h h').1,by obtain⟨v,hv,_⟩:=(h2 i h h').2;exact⟨v,hv,fun e=>absurd (of_decide_eq_true e) (Nat.not_lt_zero _)⟩⟩) hm
theorem FB.start {w0 w2 w3:World} {Z0:Nat→Prop} {B:Nat} {l:List FH} {v':Value} {m:Nat} {cs:List (List Value)} (hA:aV w2 w3 B 43 6 (.slice none 0 0) v' 0 m [] cs.flatten) (h1:cs.length=l.length) (h2:∀i (h:i<l.length) (h':i<cs.length),cs[i].length=6∧vt w0 Z0 false false l[i] cs[i]) (hm:m=l.length):FB w3 B l v' 0 0:=
 cZ.whole hA h1 (fun i h h'=>⟨(h2 i h h').1,by obtain⟨v,v',hv,_,_⟩:=(h2 i h h').2;exact⟨v,v',hv,(fun e=>absurd (of_decide_eq_true e) (Nat.not_lt_zero _)),(fun e=>absurd (of_decide_eq_true e) (Nat.not_lt_zero _))⟩⟩) hm
structure U3 (w wr:World) (arg:Array Value) (x0 x1 x2:Value) (u:UT) (vg vh:Value) (b2 b4 j j':Nat):Prop where
 c:CU w wr arg x0 x1 x2
 g:N5 wr true (some fun b=>w.heap.size+3≤b∧b<b2) u.gs vg
 h:N6 wr true (some fun b=>w.heap.size+3≤b∧b<b4) u.hs vh
 b:FB wr (w.heap.size+3) u.fs x2 j j'
 s:b4≤wr.heap.size
theorem U3.call {w wr w':World} {arg:Array Value} {x0 x1 x2:Value} {u:UT} {vg vh:Value} {b2 b4 j j':Nat} (h:U3 w wr arg x0 x1 x2 u vg vh b2 b4 j j') (hg:wr.grownBy w' none):U3 w w' arg x0 x1 x2 u vg vh b2 b4 j j' where
 c:=h.c.step hg (fun k h=>by cases h)
 g:=N5.move h.g hg (fun _ _=>by simp) (fun _ h=>h)
 h:=N6.move h.h hg (fun _ _=>by simp) (fun _ h=>h)
 b:=FB.call h.b hg
 s:=Nat.le_trans h.s hg.size
theorem U3.row {w wr:World} {arg:Array Value} {x0 x1:Value} {u:UT} {vg vh:Value} {b2 b4 j j' g m cap:Nat} (h:U3 w wr arg x0 x1 (.slice (some ⟨g,0,none⟩) m cap) u vg vh b2 b4 j j') (hm:m=u.fs.length) (k:Nat) (hk:k<u.fs.length) (i:Nat) (hi:i<6):
  (∃v,wr.cell? ⟨g,k*6+i,none⟩=some v)∧wr.frozen? ⟨g,k*6+i,none⟩=false:=
 ⟨cZ.cell h.b hm k hk i hi,cZ.free h.b hm _⟩
end
section
open Go.Shelf
def fh (t:Int):Bool:=t==1||t==2
theorem jC (t:Int) (w:World):Calls Tryz.prog 135 #[.int .u8 t] w fun e w'=>e=.returned (.bool (fh t))∧w'=w:=by
 go_enter Tryz.func135,Tryz.ntmps135;cases h1:t==1
 ·cases h2:t==2
  ·go_wp2_with fail
   go_ret;exact⟨aq (by simp only[fh,h1,h2];rfl),rfl⟩
  ·go_wp2_with fail
   go_ret;exact⟨aq (by simp only[fh,h1,h2];rfl),rfl⟩
 ·go_wp2_with fail
  go_ret;exact⟨aq (by simp only[fh,h1];rfl),rfl⟩
theorem DO (t:Int) (w:World):Calls Tryz.prog 90 #[.int .u8 t] w fun e w'=>e=.returned (.bool (fh t))∧w'=w:=by
 go_enter Tryz.func90,Tryz.ntmps90;cases h1:t==1
 ·cases h2:t==2
  ·go_wp2_with fail
   go_ret;exact⟨aq (by simp only[fh,h1,h2];rfl),rfl⟩
  ·go_wp2_with fail
   go_ret;exact⟨aq (by simp only[fh,h1,h2];rfl),rfl⟩
 ·go_wp2_with fail
  go_ret;exact⟨aq (by simp only[fh,h1];rfl),rfl⟩
def xC (x:Int):Bool:=x/8388608%256 !=255
theorem Gw (a:Nat):a&&& 2139095040=(a/8388608%256)*8388608:=by
 have h1:(2139095040:Nat)=255<<<23:=by decide
 have h2:a/8388608%256=(a>>>23)&&& 255:=by
  rw[Nat.shiftRight_eq_div_pow];exact(Nat.and_two_pow_sub_one_eq_mod _ 8).symm
 have h3:∀b:Nat,b*8388608=b<<<23:=fun b=>by rw[Nat.shiftLeft_eq]
 rw[h2,h3,h1];apply Nat.eq_of_testBit_eq;intro i;simp only[Nat.testBit_and,Nat.testBit_shiftLeft,Nat.testBit_shiftRight];by_cases hi:23≤i
 ·simp[hi,show 23+ (i-23)=i by omega]
 ·simp[hi]
theorem Gx (x:Int) (hx:0≤x∧x<4294967296):(bits BinOp.and IntKind.u32 x 2139095040 !=2139095040)=xC x:=by
 obtain⟨a,rfl⟩:=Int.eq_ofNat_of_zero_le hx.1;have h1:(BitVec.ofInt 32 (a:Int)).toNat=a:=by
  rw[BitVec.ofInt_natCast,BitVec.toNat_ofNat];exact Nat.mod_eq_of_lt (by omega)
 have h2:(BitVec.ofInt 32 2139095040).toNat=2139095040:=by decide
 have e:bits BinOp.and .u32 (a:Int) 2139095040=((a&&& 2139095040:Nat):Int):=by
  show IntKind.u32.wrap ((BitVec.ofInt 32 (a:Int)&&& BitVec.ofInt 32 2139095040).toNat:Int)=_
  rw[BitVec.toNat_and,h1,h2];have:=Nat.and_le_left (n:=a) (m:=2139095040);simp only[IntKind.wrap,IntKind.bits,IntKind.signed];simp;omega
 rw[e,Gw];unfold xC;rw[Bool.eq_iff_iff];simp;omega
theorem xD (x:Int) (hx:0≤x∧x<4294967296) (w:World):Calls Tryz.prog 164 #[.int .u32 x] w fun e w'=>e=.returned (.bool (xC x))∧w'=w:=by
 go_enter Tryz.func164,Tryz.ntmps164;obtain⟨hx1,hx2⟩:=hx;go_wp2_with fail
 go_ret;exact⟨aq (Gx x ⟨hx1,hx2⟩),rfl⟩
open Go.Shelf
def dv (word type:Int) (name sign:ByteArray) (n k:Nat):Bool:=word==0&&(type==0&&(name.toList.isEmpty&&(sign.toList.isEmpty&&((n:Int)==(k:Int)))))
def bE (name:ByteArray) (type:Int) (sign:ByteArray) (n k nb ne:Nat):Bool:=name.toList.isEmpty&&(type==0&&(sign.toList.isEmpty&&(((n:Int)==(k:Int))&&(((nb:Int)==0)&&((ne:Int)==0)))))
theorem kO (a0 a1 a2 a3:Int) (a4 a5:ByteArray) (ka:Option Addr) (n c k:Nat) (w:World):
  Calls Tryz.prog 209 #[.agg #[.int .i64 a0,.int .u8 a1,.int .u32 a2,.int .u8 a3,.string a4,.string a5,.slice ka n c],.int .i64 k] w fun e w'=>e=.returned (.bool (dv a2 a3 a4 a5 n k))∧Below w.heap.size w w':=by
 have hB:=af ((Below.refl w.heap.size w).alloc (Nat.le_refl _) (.cells #[.int .i64 a0,.int .u8 a1,.int .u32 a2,.int .u8 a3,.string a4,.string a5,.slice ka n c] 134));go_enter Tryz.func209,Tryz.ntmps209;cases h2:a2==0
 ·go_wp2_with fail
  go_ret;exact⟨aq (by simp only[dv,h2,Bool.true_and,Bool.false_and]),hB.out⟩
 cases h3:a3==0
 ·go_wp2_with fail
  go_ret;exact⟨aq (by simp only[dv,h2,h3,Bool.true_and,Bool.false_and]),hB.out⟩
 cases h4:a4.toList.isEmpty
 ·go_wp2_with fail
  go_ret;exact⟨aq (by simp only[dv,h2,h3,h4,Bool.true_and,Bool.false_and]),hB.out⟩
 cases h5:a5.toList.isEmpty
 ·go_wp2_with fail
  go_ret;exact⟨aq (by simp only[dv,h2,h3,h4,h5,Bool.true_and,Bool.false_and]),hB.out⟩
 cases h6:(n:Int)==(k:Int)
 ·go_wp2_with fail
  go_ret;exact⟨aq (by simp only[dv,h2,h3,h4,h5,h6,Bool.true_and,Bool.false_and]),hB.out⟩
 go_wp2_with fail
 go_ret;exact⟨aq (by simp only[dv,h2,h3,h4,h5,h6,Bool.true_and]),hB.out⟩
theorem iW (a0 a1:Int) (a2:ByteArray) (a3:Int) (a4:ByteArray) (xa ba ea:Option Addr) (n xc nb bc ne ec k:Nat) (w:World):
  Calls Tryz.prog 206 #[.agg #[.int .i64 a0,.int .u8 a1,.string a2,.int .u8 a3,.string a4,.slice xa n xc,.slice ba nb bc,.slice ea ne ec],.int .i64 k] w fun e w'=>e=.returned (.bool (bE a2 a3 a4 n k nb ne))∧Below w.heap.size w w':=by
 have hB:=af ((Below.refl w.heap.size w).alloc (Nat.le_refl _) (.cells #[.int .i64 a0,.int .u8 a1,.string a2,.int .u8 a3,.string a4,.slice xa n xc,.slice ba nb bc,.slice ea ne ec] 109));go_enter Tryz.func206,Tryz.ntmps206;cases h2:a2.toList.isEmpty
 ·go_wp2_with fail
  go_ret;exact⟨aq (by simp only[bE,h2,Bool.true_and,Bool.false_and]),hB.out⟩
 cases h3:a3==0
 ·go_wp2_with fail
  go_ret;exact⟨aq (by simp only[bE,h2,h3,Bool.true_and,Bool.false_and]),hB.out⟩
 cases h4:a4.toList.isEmpty
 ·go_wp2_with fail
  go_ret;exact⟨aq (by simp only[bE,h2,h3,h4,Bool.true_and,Bool.false_and]),hB.out⟩
 cases h5:(n:Int)==(k:Int)
 ·go_wp2_with fail
  go_ret;exact⟨aq (by simp only[bE,h2,h3,h4,h5,Bool.true_and,Bool.false_and]),hB.out⟩
 cases h6:(nb:Int)==0
 ·go_wp2_with fail
  go_ret;exact⟨aq (by simp only[bE,h2,h3,h4,h5,h6,Bool.true_and,Bool.false_and]),hB.out⟩
 cases h7:(ne:Int)==0
 ·go_wp2_with fail
  go_ret;exact⟨aq (by simp only[bE,h2,h3,h4,h5,h6,h7,Bool.true_and,Bool.false_and]),hB.out⟩
 go_wp2_with fail
 go_ret;exact⟨aq (by simp only[bE,h2,h3,h4,h5,h6,h7,Bool.true_and]),hB.out⟩
open Go.Shelf
def Yy:List ByteArray:=[⟨#[124,124]⟩]
def Yz:List ByteArray:=[⟨#[38,38]⟩]
def PG:List ByteArray:=[⟨#[61,61]⟩,⟨#[33,61]⟩,⟨#[60]⟩,⟨#[60,61]⟩,⟨#[62]⟩,⟨#[62,61]⟩]
def YB:List ByteArray:=[⟨#[124]⟩,⟨#[94]⟩]
def YC:List ByteArray:=[⟨#[38]⟩]
def YD:List ByteArray:=[⟨#[60,60]⟩,⟨#[62,62]⟩]
def YE:List ByteArray:=[⟨#[43]⟩,⟨#[45]⟩]
def YF:List ByteArray:=[⟨#[42]⟩,⟨#[47]⟩,⟨#[37]⟩]
def jD:List (List ByteArray):=[Yy,Yz,PG,YB,YC,YD,YE,YF]
def zY (x:ByteArray):Bool:=jD.any (cv · x)
def iX:List ByteArray:=[⟨#[]⟩,⟨#[43]⟩,⟨#[45]⟩,⟨#[42]⟩,⟨#[47]⟩,⟨#[37]⟩,⟨#[38]⟩,⟨#[124]⟩,⟨#[94]⟩,⟨#[60,60]⟩,⟨#[62,62]⟩]
def DT:List ByteArray:=[⟨#[45]⟩,⟨#[33]⟩,⟨#[126]⟩]
structure Oj (B:Nat) (w:World):Prop where
 rows:∀j (h:j<jD.length),w.cell? ⟨B+8,j,none⟩=some (.slice (some ⟨B+j,0,none⟩) jD[j].length jD[j].length)
 cells:∀j (h:j<jD.length) i (hi:i<jD[j].length),w.cell? ⟨B+j,i,none⟩=some (.string jD[j][i])
theorem gK {w:World} {q:Nat} {L:List ByteArray} (h:Bx w q (L.map Value.string).toArray 9) (i:Nat) (hi:i<L.length):w.cell? ⟨q,i,none⟩=some (.string L[i]):=by
 rw[h.cell];simp[hi]
theorem DU (w:World):Calls Tryz.prog 258 #[] w fun e w'=>e=.returned (.slice (some ⟨w.heap.size+8,0,none⟩) 8 8)∧Oj w.heap.size w'∧Below w.heap.size w w':=by
 obtain⟨w0,hw0⟩:∃w0,w0=w:=⟨_,rfl⟩;obtain⟨w1,gO⟩:∃x,x=w0.alloc (.cells (Yy.map Value.string).toArray 9):=⟨_,rfl⟩;have hs1:w1.heap.size=w.heap.size+1:=by rw[gO];simp[hw0]
 obtain⟨w2,hw2⟩:∃x,x=w1.alloc (.cells (Yz.map Value.string).toArray 9):=⟨_,rfl⟩;have hs2:w2.heap.size=w.heap.size+2:=by rw[hw2];simp;omega
 obtain⟨w3,hw3⟩:∃x,x=w2.alloc (.cells (PG.map Value.string).toArray 9):=⟨_,rfl⟩;have hs3:w3.heap.size=w.heap.size+3:=by rw[hw3];simp;omega
 obtain⟨w4,hw4⟩:∃x,x=w3.alloc (.cells (YB.map Value.string).toArray 9):=⟨_,rfl⟩;have zZ:w4.heap.size=w.heap.size+4:=by rw[hw4];simp;omega
 obtain⟨w5,wP⟩:∃x,x=w4.alloc (.cells (YC.map Value.string).toArray 9):=⟨_,rfl⟩;have hs5:w5.heap.size=w.heap.size+5:=by rw[wP];simp;omega
 obtain⟨w6,zm⟩:∃x,x=w5.alloc (.cells (YD.map Value.string).toArray 9):=⟨_,rfl⟩;have Z9:w6.heap.size=w.heap.size+6:=by rw[zm];simp;omega
 obtain⟨w7,wQ⟩:∃x,x=w6.alloc (.cells (YE.map Value.string).toArray 9):=⟨_,rfl⟩;have hs7:w7.heap.size=w.heap.size+7:=by rw[wQ];simp;omega
 obtain⟨w8,Ca⟩:∃x,x=w7.alloc (.cells (YF.map Value.string).toArray 9):=⟨_,rfl⟩;have hs8:w8.heap.size=w.heap.size+8:=by rw[Ca];simp;omega
 obtain⟨w9,Aa⟩:∃x,x=w8.alloc (.cells #[.slice (some ⟨w.heap.size+0,0,none⟩) 1 1,.slice (some ⟨w.heap.size+1,0,none⟩) 1 1,.slice (some ⟨w.heap.size+2,0,none⟩) 6 6,.slice (some ⟨w.heap.size+3,0,none⟩) 2 2,.slice (some ⟨w.heap.size+4,0,none⟩) 1 1,.slice (some ⟨w.heap.size+5,0,none⟩) 2 2,.slice (some ⟨w.heap.size+6,0,none⟩) 2 2,.slice (some ⟨w.heap.size+7,0,none⟩) 3 3] 174):=⟨_,rfl⟩;have b0:Bx w9 (w.heap.size+0) (Yy.map Value.string).toArray 9:=by
  have h:=Bx.new w0 (Yy.map Value.string).toArray 9;rw[←gO] at h;have h:=h.on (w':=w2) (row:=none) (by rw[hw2];exact World.grownBy_alloc _ _ _) (by simp);have h:=h.on (w':=w3) (row:=none) (by rw[hw3];exact World.grownBy_alloc _ _ _) (by simp);have h:=h.on (w':=w4) (row:=none) (by rw[hw4];exact World.grownBy_alloc _ _ _) (by simp);have h:=h.on (w':=w5) (row:=none) (by rw[wP];exact World.grownBy_alloc _ _ _) (by simp);have h:=h.on (w':=w6) (row:=none) (by rw[zm];exact World.grownBy_alloc _ _ _) (by simp);have h:=h.on (w':=w7) (row:=none) (by rw[wQ];exact World.grownBy_alloc _ _ _) (by simp);have h:=h.on (w':=w8) (row:=none) (by rw[Ca];exact World.grownBy_alloc _ _ _) (by simp);have h:=h.on (w':=w9) (row:=none) (by rw[Aa];exact World.grownBy_alloc _ _ _) (by simp);rw[hw0] at h;exact h
 have b1:Bx w9 (w.heap.size+1) (Yz.map Value.string).toArray 9:=by
  have h:=Bx.new w1 (Yz.map Value.string).toArray 9;rw[←hw2] at h;have h:=h.on (w':=w3) (row:=none) (by rw[hw3];exact World.grownBy_alloc _ _ _) (by simp);have h:=h.on (w':=w4) (row:=none) (by rw[hw4];exact World.grownBy_alloc _ _ _) (by simp);have h:=h.on (w':=w5) (row:=none) (by rw[wP];exact World.grownBy_alloc _ _ _) (by simp);have h:=h.on (w':=w6) (row:=none) (by rw[zm];exact World.grownBy_alloc _ _ _) (by simp);have h:=h.on (w':=w7) (row:=none) (by rw[wQ];exact World.grownBy_alloc _ _ _) (by simp);have h:=h.on (w':=w8) (row:=none) (by rw[Ca];exact World.grownBy_alloc _ _ _) (by simp);have h:=h.on (w':=w9) (row:=none) (by rw[Aa];exact World.grownBy_alloc _ _ _) (by simp);rw[hs1] at h;exact h
 have b2:Bx w9 (w.heap.size+2) (PG.map Value.string).toArray 9:=by
  have h:=Bx.new w2 (PG.map Value.string).toArray 9;rw[←hw3] at h;have h:=h.on (w':=w4) (row:=none) (by rw[hw4];exact World.grownBy_alloc _ _ _) (by simp);have h:=h.on (w':=w5) (row:=none) (by rw[wP];exact World.grownBy_alloc _ _ _) (by simp);have h:=h.on (w':=w6) (row:=none) (by rw[zm];exact World.grownBy_alloc _ _ _) (by simp);have h:=h.on (w':=w7) (row:=none) (by rw[wQ];exact World.grownBy_alloc _ _ _) (by simp);have h:=h.on (w':=w8) (row:=none) (by rw[Ca];exact World.grownBy_alloc _ _ _) (by simp);have h:=h.on (w':=w9) (row:=none) (by rw[Aa];exact World.grownBy_alloc _ _ _) (by simp);rw[hs2] at h;exact h
 have b3:Bx w9 (w.heap.size+3) (YB.map Value.string).toArray 9:=by
  have h:=Bx.new w3 (YB.map Value.string).toArray 9;rw[←hw4] at h;have h:=h.on (w':=w5) (row:=none) (by rw[wP];exact World.grownBy_alloc _ _ _) (by simp);have h:=h.on (w':=w6) (row:=none) (by rw[zm];exact World.grownBy_alloc _ _ _) (by simp);have h:=h.on (w':=w7) (row:=none) (by rw[wQ];exact World.grownBy_alloc _ _ _) (by simp);have h:=h.on (w':=w8) (row:=none) (by rw[Ca];exact World.grownBy_alloc _ _ _) (by simp);have h:=h.on (w':=w9) (row:=none) (by rw[Aa];exact World.grownBy_alloc _ _ _) (by simp);rw[hs3] at h;exact h
 have b4:Bx w9 (w.heap.size+4) (YC.map Value.string).toArray 9:=by
  have h:=Bx.new w4 (YC.map Value.string).toArray 9;rw[←wP] at h;have h:=h.on (w':=w6) (row:=none) (by rw[zm];exact World.grownBy_alloc _ _ _) (by simp);have h:=h.on (w':=w7) (row:=none) (by rw[wQ];exact World.grownBy_alloc _ _ _) (by simp);have h:=h.on (w':=w8) (row:=none) (by rw[Ca];exact World.grownBy_alloc _ _ _) (by simp);have h:=h.on (w':=w9) (row:=none) (by rw[Aa];exact World.grownBy_alloc _ _ _) (by simp);rw[zZ] at h;exact h
 have b5:Bx w9 (w.heap.size+5) (YD.map Value.string).toArray 9:=by
  have h:=Bx.new w5 (YD.map Value.string).toArray 9;rw[←zm] at h;have h:=h.on (w':=w7) (row:=none) (by rw[wQ];exact World.grownBy_alloc _ _ _) (by simp);have h:=h.on (w':=w8) (row:=none) (by rw[Ca];exact World.grownBy_alloc _ _ _) (by simp);have h:=h.on (w':=w9) (row:=none) (by rw[Aa];exact World.grownBy_alloc _ _ _) (by simp);rw[hs5] at h;exact h
 have b6:Bx w9 (w.heap.size+6) (YE.map Value.string).toArray 9:=by
  have h:=Bx.new w6 (YE.map Value.string).toArray 9;rw[←wQ] at h;have h:=h.on (w':=w8) (row:=none) (by rw[Ca];exact World.grownBy_alloc _ _ _) (by simp);have h:=h.on (w':=w9) (row:=none) (by rw[Aa];exact World.grownBy_alloc _ _ _) (by simp);rw[Z9] at h;exact h
 have b7:Bx w9 (w.heap.size+7) (YF.map Value.string).toArray 9:=by
  have h:=Bx.new w7 (YF.map Value.string).toArray 9;rw[←Ca] at h;have h:=h.on (w':=w9) (row:=none) (by rw[Aa];exact World.grownBy_alloc _ _ _) (by simp);rw[hs7] at h;exact h
 have b8:Bx w9 (w.heap.size+8) #[.slice (some ⟨w.heap.size+0,0,none⟩) 1 1,.slice (some ⟨w.heap.size+1,0,none⟩) 1 1,.slice (some ⟨w.heap.size+2,0,none⟩) 6 6,.slice (some ⟨w.heap.size+3,0,none⟩) 2 2,.slice (some ⟨w.heap.size+4,0,none⟩) 1 1,.slice (some ⟨w.heap.size+5,0,none⟩) 2 2,.slice (some ⟨w.heap.size+6,0,none⟩) 2 2,.slice (some ⟨w.heap.size+7,0,none⟩) 3 3] 174:=by
  have h:=Bx.new w8 #[.slice (some ⟨w.heap.size+0,0,none⟩) 1 1,.slice (some ⟨w.heap.size+1,0,none⟩) 1 1,.slice (some ⟨w.heap.size+2,0,none⟩) 6 6,.slice (some ⟨w.heap.size+3,0,none⟩) 2 2,.slice (some ⟨w.heap.size+4,0,none⟩) 1 1,.slice (some ⟨w.heap.size+5,0,none⟩) 2 2,.slice (some ⟨w.heap.size+6,0,none⟩) 2 2,.slice (some ⟨w.heap.size+7,0,none⟩) 3 3] 174;rw[←Aa,hs8] at h;exact h
 have hbl:Below w.heap.size w w9:=by
  have g0:Below w.heap.size w w0:=by rw[hw0];exact Below.refl _ _
  have g1:Below w.heap.size w w1:=by rw[gO];exact g0.alloc g0.size _
  have g2:Below w.heap.size w w2:=by rw[hw2];exact g1.alloc g1.size _
  have g3:Below w.heap.size w w3:=by rw[hw3];exact g2.alloc g2.size _
  have g4:Below w.heap.size w w4:=by rw[hw4];exact g3.alloc g3.size _
  have g5:Below w.heap.size w w5:=by rw[wP];exact g4.alloc g4.size _
  have g6:Below w.heap.size w w6:=by rw[zm];exact g5.alloc g5.size _
  have g7:Below w.heap.size w w7:=by rw[wQ];exact g6.alloc g6.size _
  have g8:Below w.heap.size w w8:=by rw[Ca];exact g7.alloc g7.size _
  have g9:Below w.heap.size w w9:=by rw[Aa];exact g8.alloc g8.size _
  exact g9
 have hL:Hid (Oj w.heap.size w9):=af {
  rows:=fun j h=>by
   rw[b8.cell]
   match j,h with
   |0,_=>rfl
   |1,_=>rfl
   |2,_=>rfl
   |3,_=>rfl
   |4,_=>rfl
   |5,_=>rfl
   |6,_=>rfl
   |7,_=>rfl
  cells:=fun j h i hi=>by
   match j,h with
   |0,_=>exact gK b0 i hi
   |1,_=>exact gK b1 i hi
   |2,_=>exact gK b2 i hi
   |3,_=>exact gK b3 i hi
   |4,_=>exact gK b4 i hi
   |5,_=>exact gK b5 i hi
   |6,_=>exact gK b6 i hi
   |7,_=>exact gK b7 i hi}
 have hBL:=af hbl;clear hbl b0 b1 b2 b3 b4 b5 b6 b7 b8 hs8 hs7 Z9 hs5 zZ hs3 hs2 hs1;subst Aa;subst Ca;subst wQ;subst zm;subst wP;subst hw4;subst hw3;subst hw2;subst gO;subst hw0;go_enter Tryz.func258,Tryz.ntmps258;go_wp2_with fail
 go_ret;exact⟨rfl,hL.out,hBL.out⟩
open Go.Shelf
theorem iA:jD.length=8:=rfl
theorem Lh {x:ByteArray} (h:∀j (hj:j<jD.length),cv jD[j] x=false):zY x=false:=by
 unfold zY;rw[List.any_eq_false];intro l hl;obtain⟨j,hj,rfl⟩:=List.getElem_of_mem hl;rw[h j hj];simp
theorem Gy {x:ByteArray} {j:Nat} (hj:j<jD.length) (h:cv jD[j] x=true):zY x=true:=
 List.any_eq_true.2 ⟨_,List.getElem_mem hj,h⟩
theorem DV:∀j (h:j<jD.length),jD[j].length≤1000:=by decide
theorem DW (x:ByteArray) (w:World):Calls Tryz.prog 237 #[.string x] w fun e w'=>(∃r:Int,e=.returned (.int .i64 r)∧decide (0<r)=zY x)∧Below w.heap.size w w':=by
 have bT:=af (DU w);go_enter Tryz.func237,Tryz.ntmps237;go_wp2_with fail
 refine bT.mono ?_;rintro e w2 ⟨rfl,hL,hb⟩;have hL':=af hL;have hB:=af hb;clear hL hb bT;go_wp2_with fail
 go_loopw [7] (fun y wr=>∃k:Nat,y=.int .i64 k∧k≤8∧(∀j (hj:j<jD.length),j<k→cv jD[j] x=false)∧wr=w2) (fun y _=>8- (intOf y).toNat)
 case atStart=>exact⟨0,rfl,Nat.zero_le _,fun j _ hj=>by omega,rfl⟩
 case round=>
  obtain⟨k,rfl,hk,hno,hw⟩:=hrel;subst wr;have Gk:=af hno;clear hno;by_cases hlt:k<8
  ·have hr:=hL'.rows k (by rw[iA];exact hlt);have hc:=af (jY (jD[k]'(by rw[iA];exact hlt)) (w.heap.size+k) x w2 (DV k (by rw[iA];exact hlt)) (hL'.cells k (by rw[iA];exact hlt)));generalize hLk:jD[k]'(by rw[iA];exact hlt)=Lk at*;have U4:=af hLk;clear hLk;go_wp2_with fail
   refine hc.mono ?_;rintro e w3 ⟨rfl,hw⟩;subst w3;cases hq:cv Lk x
   ·have key:Hid (∀j (hj:j<jD.length),j<k+1→cv jD[j] x=false):=af (fun j hj hjk=>by
     rcases Nat.lt_or_ge j k with h1|h1
     ·exact Gk.out j hj h1
     ·have e:j=k:=by omega
      subst e;rw[U4.out];exact hq)
    go_wp2_with fail
    go_roundw
    case rel=>exact⟨k+1,by go_num,by omega,key.out,trivial⟩
    case measure=>simp[intOf];omega
   ·go_wp2_with fail
    go_ret;refine⟨⟨_,rfl,?_⟩,hB.out⟩;rw[Gy (x:=x) (j:=k) (by rw[iA];exact hlt) (by rw[U4.out];exact hq)];simp
    try omega
  ·go_wp2_with fail
   go_ret;refine⟨⟨_,rfl,?_⟩,hB.out⟩;rw[Lh (fun j hj=>Gk.out j hj (by have:=iA;omega))];rfl
theorem Ab (x:ByteArray) (w:World):Calls Tryz.prog 210 #[.string x] w fun e w'=>e=.returned (.bool (zY x))∧Below w.heap.size w w':=by
 have bT:=af (DW x w);go_enter Tryz.func210,Tryz.ntmps210;go_wp2_with fail
 refine bT.mono ?_;rintro e w2 ⟨⟨r,rfl,hr⟩,hb⟩;have hr':=af hr;have hb':=af hb;clear hr hb;go_wp2_with fail
 go_ret;exact⟨aq hr'.out,hb'.out⟩
theorem PH (w:World):Calls Tryz.prog 208 #[] w fun e w'=>e=.returned (.slice (some ⟨w.heap.size,0,none⟩) 11 11)∧w'=w.alloc (.cells (iX.map Value.string).toArray 9):=by
 go_enter Tryz.func208,Tryz.ntmps208;go_wp2_with fail
 go_ret;exact⟨rfl,rfl⟩
end
section
open Go.Shelf
def PI:List ByteArray:=[⟨#[43]⟩,⟨#[45]⟩,⟨#[42]⟩,⟨#[47]⟩]
def eF (sign:ByteArray) (a b:Int):Except Int Int:=
 if a≠b then .error 292 else if cv PI sign then .ok a else if cv PG sign then .ok 1 else if a=1 then .ok 1 else .error 292
theorem PJ (s:ByteArray):cv PI s=(s.toList==[43]||(s.toList==[45]||(s.toList==[42]||s.toList==[47]))):=by
 simp only[cv,PI,List.any_cons,List.any_nil,mJ,Bool.or_false]
theorem PK (s:ByteArray):cv PG s=(s.toList==[61,61]||(s.toList==[33,61]||(s.toList==[60]||(s.toList==[60,61]||(s.toList==[62]||s.toList==[62,61]))))):=by
 simp only[cv,PG,List.any_cons,List.any_nil,mJ,Bool.or_false]
theorem oX (s:ByteArray) (a b:Int) (w:World):Calls Tryz.prog 119 #[.string s,.int .u8 a,.int .u8 b] w fun e w'=>e=outT (eF s a b)∧w'=w:=by
 by_cases hab:a=b
 ·subst b;have c1:=af (fG 292 w);have p0:=PJ s;have p1:=PK s;cases h0:s.toList==[43]
  case true=>
   have hh:=af (show eF s a a=.ok a by unfold eF;rw[p0,p1];simp[h0]);clear p0 p1;go_enter Tryz.func119,Tryz.ntmps119;go_wp2_with fail
   refine c1.mono ?_;rintro e w2 ⟨rfl,hw⟩;subst w2;clear c1;go_wp2_with fail
   go_ret;rw[hh.out];exact⟨rfl,rfl⟩
  case false =>
   cases h1:s.toList==[45]
   case true=>
    have hh:=af (show eF s a a=.ok a by unfold eF;rw[p0,p1];simp[h0,h1]);clear p0 p1;go_enter Tryz.func119,Tryz.ntmps119;go_wp2_with fail
    refine c1.mono ?_;rintro e w2 ⟨rfl,hw⟩;subst w2;clear c1;go_wp2_with fail
    go_ret;rw[hh.out];exact⟨rfl,rfl⟩
   case false=>
    cases h2:s.toList==[42]
    case true=>
     have hh:=af (show eF s a a=.ok a by unfold eF;rw[p0,p1];simp[h0,h1,h2]);clear p0 p1;go_enter Tryz.func119,Tryz.ntmps119;go_wp2_with fail
     refine c1.mono ?_;rintro e w2 ⟨rfl,hw⟩;subst w2;clear c1;go_wp2_with fail
     go_ret;rw[hh.out];exact⟨rfl,rfl⟩
    case false=>
     cases h3:s.toList==[47]
     case true=>
      have hh:=af (show eF s a a=.ok a by unfold eF;rw[p0,p1];simp[h0,h1,h2,h3]);clear p0 p1;go_enter Tryz.func119,Tryz.ntmps119;go_wp2_with fail
      refine c1.mono ?_;rintro e w2 ⟨rfl,hw⟩;subst w2;clear c1;go_wp2_with fail
      go_ret;rw[hh.out];exact⟨rfl,rfl⟩
     case false=>
      cases h4:s.toList==[61,61]
      case true=>
       have hh:=af (show eF s a a=.ok 1 by unfold eF;rw[p0,p1];simp[h0,h1,h2,h3,h4]);clear p0 p1;go_enter Tryz.func119,Tryz.ntmps119;go_wp2_with fail
       refine c1.mono ?_;rintro e w2 ⟨rfl,hw⟩;subst w2;clear c1;go_wp2_with fail
       go_ret;rw[hh.out];exact⟨rfl,rfl⟩
      case false=>
       cases h5:s.toList==[33,61]
       case true=>
        have hh:=af (show eF s a a=.ok 1 by unfold eF;rw[p0,p1];simp[h0,h1,h2,h3,h4,h5]);clear p0 p1;go_enter Tryz.func119,Tryz.ntmps119;go_wp2_with fail
        refine c1.mono ?_;rintro e w2 ⟨rfl,hw⟩;subst w2;clear c1;go_wp2_with fail
        go_ret;rw[hh.out];exact⟨rfl,rfl⟩
       case false=>
        cases h6:s.toList==[60]
        case true=>
         have hh:=af (show eF s a a=.ok 1 by unfold eF;rw[p0,p1];simp[h0,h1,h2,h3,h4,h5,h6]);clear p0 p1;go_enter Tryz.func119,Tryz.ntmps119;go_wp2_with fail
         refine c1.mono ?_;rintro e w2 ⟨rfl,hw⟩;subst w2;clear c1;go_wp2_with fail
         go_ret;rw[hh.out];exact⟨rfl,rfl⟩
        case false=>
         cases h7:s.toList==[60,61]
         case true=>
          have hh:=af (show eF s a a=.ok 1 by unfold eF;rw[p0,p1];simp[h0,h1,h2,h3,h4,h5,h6,h7]);clear p0 p1;go_enter Tryz.func119,Tryz.ntmps119;go_wp2_with fail
          refine c1.mono ?_;rintro e w2 ⟨rfl,hw⟩;subst w2;clear c1;go_wp2_with fail
          go_ret;rw[hh.out];exact⟨rfl,rfl⟩
         case false=>
          cases h8:s.toList==[62]
          case true=>
           have hh:=af (show eF s a a=.ok 1 by unfold eF;rw[p0,p1];simp[h0,h1,h2,h3,h4,h5,h6,h7,h8]);clear p0 p1;go_enter Tryz.func119,Tryz.ntmps119;go_wp2_with fail
           refine c1.mono ?_;rintro e w2 ⟨rfl,hw⟩;subst w2;clear c1;go_wp2_with fail
           go_ret;rw[hh.out];exact⟨rfl,rfl⟩
          case false=>
           cases h9:s.toList==[62,61]
           case true=>
            have hh:=af (show eF s a a=.ok 1 by unfold eF;rw[p0,p1];simp[h0,h1,h2,h3,h4,h5,h6,h7,h8,h9]);clear p0 p1;go_enter Tryz.func119,Tryz.ntmps119;go_wp2_with fail
            refine c1.mono ?_;rintro e w2 ⟨rfl,hw⟩;subst w2;clear c1;go_wp2_with fail
            go_ret;rw[hh.out];exact⟨rfl,rfl⟩
           case false=>
            by_cases hA:a=1
            ·subst a;have hh:=af (show eF s 1 1=.ok 1 by unfold eF;simp);clear p0 p1;have c2:=c1;go_enter Tryz.func119,Tryz.ntmps119;go_wp2_with fail
             refine c1.mono ?_;rintro e w2 ⟨rfl,hw⟩;subst w2;clear c1;go_wp2_with fail
             refine c2.mono ?_;rintro e w2 ⟨rfl,hw⟩;subst w2;clear c2;go_wp2_with fail
             go_ret;rw[hh.out];exact⟨rfl,rfl⟩
            ·have hh:=af (show eF s a a=.error 292 by unfold eF;rw[p0,p1];simp[hA,h0,h1,h2,h3,h4,h5,h6,h7,h8,h9]);clear p0 p1;have c2:=af (eA 292 w);go_enter Tryz.func119,Tryz.ntmps119;go_wp2_with fail
             refine c1.mono ?_;rintro e w2 ⟨rfl,hw⟩;subst w2;clear c1;go_wp2_with fail
             (try rw[show(a==1)=false by simpa using hA]);refine c2.mono ?_
             rintro e w2 ⟨rfl,hw⟩;subst w2;clear c2;go_wp2_with fail
             refine ar ?_;rw[hh.out];exact⟨rfl,rfl⟩
 ·have hh:=af (show eF s a b=.error 292 by unfold eF;rw[if_pos hab]);have c1:=af (eA 292 w);go_enter Tryz.func119,Tryz.ntmps119;go_wp2_with fail
  (try rw[show(a==b)=false by simpa using hab]);refine c1.mono ?_
  rintro e w2 ⟨rfl,hw⟩;subst w2;clear c1;go_wp2_with fail
  refine ar ?_;rw[hh.out];exact⟨rfl,rfl⟩
def iB (sign:ByteArray) (t:Int):Except Int Unit:=
 if sign.toList==[] then .ok () else match eF sign t t with
  | .error e=>.error e
  | .ok _=>.ok ()
theorem uk (s:ByteArray) (t:Int) (w:World):Calls Tryz.prog 172 #[.string s,.int .u8 t] w fun e w'=>e=ZG (iB s t)∧w'=w:=by
 have c1:=af (oX s t t w);cases h0:s.toList==[]
 ·cases hb:eF s t t with
  |ok a=>
   have hh:=af (show iB s t=.ok () by unfold iB;rw[h0,hb];rfl);rw[hb] at c1;go_enter Tryz.func172,Tryz.ntmps172;go_wp2_with fail
   refine c1.mono ?_;rintro e w2 ⟨rfl,hw⟩;subst w2;go_wp2_with fail
   go_end0;rw[hh.out];exact⟨rfl,rfl⟩
  |error a=>
   have hh:=af (show iB s t=.error a by unfold iB;rw[h0,hb];rfl);rw[hb] at c1;go_enter Tryz.func172,Tryz.ntmps172;go_wp2_with fail
   refine c1.mono ?_;rintro e w2 ⟨he,hw⟩;obtain rfl:e=nw a:=he;subst w2;go_wp2_with fail
   refine ar ?_;rw[hh.out];exact⟨rfl,rfl⟩
 ·have hh:=af (show iB s t=.ok () by unfold iB;rw[h0];rfl);go_enter Tryz.func172,Tryz.ntmps172;go_wp2_with fail
  go_end0;rw[hh.out];exact⟨rfl,rfl⟩
end
end Go.Proofs.YtlabadkfkbenoaaGreatDoor
