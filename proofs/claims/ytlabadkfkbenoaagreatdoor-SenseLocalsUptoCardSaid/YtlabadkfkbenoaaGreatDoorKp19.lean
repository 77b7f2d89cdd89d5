/- Walks and plain laws, merged: LocK LocH LocI LocJ. No condition. -/
import Derived.Test.YtlabadkfkbenoaaGreatDoorKp18
import Derived.Deep.RegionHeld3
import Derived.Test.YtlabadkfkbenoaaGreatDoorKp01
namespace Go.Proofs.YtlabadkfkbenoaaGreatDoor
open Go.RowKit
set_option linter.unusedVariables false
set_option linter.unusedSimpArgs false
set_option maxRecDepth 100000
set_option maxHeartbeats 64000000
section
open Go.Shelf
def Ch (bs:List Nat) (w w':World):Prop:=Below 0 w w'∧w'.heap.size=w.heap.size∧∀b,b∉bs→w'.heap[b]? =w.heap[b]?
theorem Ch.refl (bs:List Nat) (w:World):Ch bs w w:=⟨Below.refl _ _,rfl,fun _ _=>rfl⟩
theorem Ch.trans {bs:List Nat} {a b c:World} (h:Ch bs a b) (k:Ch bs b c):Ch bs a c:=⟨h.1.trans k.1,k.2.1.trans h.2.1,fun x q=>(k.2.2 x q).trans (h.2.2 x q)⟩
theorem Ch.sub {a b:List Nat} {w w':World} (h:Ch a w w') (hs:∀x∈a,x∈b):Ch b w w':=⟨h.1,h.2.1,fun x q=>h.2.2 x fun c=>q (hs x c)⟩
theorem Ch.kb {a b:List Nat} {w w':World} (h:Ch a w w') (hd:∀x∈b,x∉a):Kb b w w':=fun x q=>h.2.2 x (hd x q)
theorem Ch.set (w:World) (g i:Nat) (u:Value):Ch [g] w (w.setCell ⟨g,i,none⟩ u):=⟨(Below.refl 0 w).setCell (Nat.zero_le _) _,by simp[World.setCell],fun b q=>Below.heap_setCell _ _ _ _ (by simpa using q)⟩
theorem Ch.below {bs:List Nat} {w w':World} {B:Nat} (h:Ch bs w w') (hb:∀b∈bs,B≤b):Below B w w':=⟨h.1.os,h.1.tape,h.1.output,h.1.size,fun k hk=>h.2.2 k fun c=>by have:=hb k c;omega⟩
def Ro {α:Type} (El:World→α→List Value→List Nat→Prop) (n:Nat) (t:TypeId) (w:World) (g:Nat) (D R:List α) (bs:List Nat):Prop:=
 ∃c1 c2 b1 b2,bs=b1++b2∧fZ w t g (c1++c2)∧(∀c∈c1++c2,c.length=n)∧iL (El w) D c1 b1∧iL (El w) R c2 b2
structure Sp {α:Type} (El:World→α→List Value→List Nat→Prop) (n:Nat) (t:TypeId) (w:World) (g:Nat) (D R:List α) (c1:List (List Value)) (c:List Value) (c3:List (List Value)) (b1 ba b3:List Nat):Prop where
 row:fZ w t g (c1++c::c3)
 len:∀x∈c1++c::c3,x.length=n
 k:c1.length=D.length
 d:iL (El w) D c1 b1
 r:iL (El w) R c3 b3
section
variable {α:Type} {El:World→α→List Value→List Nat→Prop} (KE:∀w w' a c bs,Kb bs w w'→El w a c bs→El w' a c bs)
theorem Ro.at_ {n:Nat} {t:TypeId} {w:World} {g:Nat} {D R:List α} {a:α} {bs:List Nat} (h:Ro El n t w g D (a::R) bs):
  ∃c1 c c3 b1 ba b3,bs=b1++(ba++b3)∧Sp El n t w g D R c1 c c3 b1 ba b3∧El w a c ba:=by
 obtain⟨c1,c2,b1,b2,h1,h2,h3,h4,c,c3,ba,b3,h5,h6,h7,h8⟩:=h;subst h5;subst h6;exact⟨c1,c,c3,b1,ba,b3,h1,⟨h2,h3,h4.len,h4,h8⟩,h7⟩
theorem Sp.cell {n:Nat} {t:TypeId} {w:World} {g:Nat} {D R:List α} {c1 c3:List (List Value)} {c:List Value} {b1 ba b3:List Nat} (h:Sp El n t w g D R c1 c c3 b1 ba b3) {k:Nat} (hk:D.length=k) (j:Nat) (hj:j<c.length):w.cell? ⟨g,k*n+j,none⟩=c[j]? :=by
 have e:=lK (n:=n) (c2:=c3) (fun x hx=>h.len x (List.mem_append_left _ hx)) j hj;rw[h.k,hk] at e;rw[List.getElem?_eq_getElem hj] at e⊢;exact h.row.cell e
include KE in
theorem Sp.on {n:Nat} {t:TypeId} {w w':World} {g:Nat} {D R:List α} {c1 c3:List (List Value)} {c:List Value} {b1 ba b3:List Nat} (h:Sp El n t w g D R c1 c c3 b1 ba b3) (hc:Ch ba w w') (hd:(g::(b1++(ba++b3))).Nodup):Sp El n t w' g D R c1 c c3 b1 ba b3:=by
 rw[List.nodup_cons,List.nodup_append,List.nodup_append] at hd;obtain⟨hg,-,⟨-,-,h2⟩,h3⟩:=hd;refine⟨h.row.keep (hc.2.2 g fun q=>hg (by simp[q])),h.len,h.k,h.d.imp fun a c b hs q=>KE _ _ _ _ _ (hc.kb fun x hx hy=>h3 x (hs x hx) x (by simp[hy]) rfl) q,h.r.imp fun a c b hs q=>KE _ _ _ _ _ (hc.kb fun x hx hy=>h2 x hy x (hs x hx) rfl) q⟩
include KE in
theorem Sp.set {n:Nat} {t:TypeId} {w:World} {g:Nat} {D R:List α} {c1 c3:List (List Value)} {c:List Value} {b1 ba b3:List Nat} (h:Sp El n t w g D R c1 c c3 b1 ba b3) (hd:(g::(b1++(ba++b3))).Nodup) {k:Nat} (hk:D.length=k) (j:Nat) (hj:j<c.length) (u:Value):
  Sp El n t (w.setCell ⟨g,k*n+j,none⟩ u) g D R c1 (c.set j u) c3 b1 ba b3:=by
 rw[List.nodup_cons] at hd;have hk2:∀b∈b1++(ba++b3),b≠g:=fun b q e=>hd.1 (e▸q)
 have hr:=h.row.set (fun x hx=>h.len x (List.mem_append_left _ hx)) j hj u;rw[h.k,hk] at hr;refine⟨hr,fun x hx=>?_,h.k,h.d.imp fun a c b hs q=>KE _ _ _ _ _ (Kb.set fun x hx=>hk2 x (by simp[hs x hx])) q,h.r.imp fun a c b hs q=>KE _ _ _ _ _ (Kb.set fun x hx=>hk2 x (by simp[hs x hx])) q⟩;rcases List.mem_append.1 hx with q|q
 ·exact h.len x (List.mem_append_left _ q)
 ·rcases List.mem_cons.1 q with rfl|q
  ·rw[List.length_set];exact h.len c (by simp)
  ·exact h.len x (by simp[q])
theorem Sp.done {n:Nat} {t:TypeId} {w:World} {g:Nat} {D R:List α} {c1 c3:List (List Value)} {c:List Value} {b1 ba b3:List Nat} (h:Sp El n t w g D R c1 c c3 b1 ba b3) {a:α} (hE:El w a c ba):Ro El n t w g (D++[a]) R (b1++(ba++b3)):=
 ⟨c1++[c],c3,b1++ba,b3,by simp,by simpa using h.row,by simpa using h.len,iL.app.2 ⟨c1,[c],b1,ba,rfl,rfl,h.d,iL.one hE⟩,h.r⟩
end
theorem Ro.of {α:Type} {El:World→α→List Value→List Nat→Prop} {n:Nat} {t:TypeId} {w:World} {g:Nat} {L:List α} {cs:List (List Value)} {bs:List Nat} (h1:fZ w t g cs) (h2:iL (El w) L cs bs) (h3:∀c∈cs,c.length=n):Ro El n t w g [] L bs:=
 ⟨[],cs,[],bs,rfl,h1,h3,⟨rfl,rfl⟩,h2⟩
theorem Ro.all {α:Type} {El:World→α→List Value→List Nat→Prop} {n:Nat} {t:TypeId} {w:World} {g:Nat} {L:List α} {bs:List Nat} (h:Ro El n t w g L [] bs):∃cs,fZ w t g cs∧iL (El w) L cs bs∧∀c∈cs,c.length=n:=by
 obtain⟨c1,c2,b1,b2,h1,h2,h3,h4,h5,h6⟩:=h;subst h5;subst h6;rw[List.append_nil] at h1 h2 h3;subst h1;exact⟨c1,h2,h4,h3⟩
theorem iL.Xx {w:World}:∀{l:List (EH×az)} {cs:List (List Value)} {bs:List Nat},iL (FQ w) l cs bs→∀c∈cs,c.length=7
 |[],_,_,⟨h,_⟩=>by subst h;simp
 |a::l,_,_,⟨c,c2,b1,b2,h1,_,⟨v,h2,_⟩,h3⟩=>by
  subst h1;intro x hx;rcases List.mem_cons.1 hx with rfl|q
  ·rw[h2];rfl
  ·exact h3.Xx x q
theorem iL.Xy {w:World}:∀{l:List SB} {cs:List (List Value)} {bs:List Nat},iL (Fe w) l cs bs→∀c∈cs,c.length=8
 |[],_,_,⟨h,_⟩=>by subst h;simp
 |a::l,_,_,⟨c,c2,b1,b2,h1,_,⟨vx,vb,ve,bx,bb,be,h2,_⟩,h3⟩=>by
  subst h1;intro x hx;rcases List.mem_cons.1 hx with rfl|q
  ·rw[h2];rfl
  ·exact h3.Xy x q
abbrev Bw (r:ByteArray→ByteArray) (a:EH×az):EH×az:=(mr r a.1,jq r a.2)
abbrev wI (r:ByteArray→ByteArray) (a:SB):SB:=(qy r a.1,jq r a.2.1,jz r a.2.2.1,jz r a.2.2.2)
theorem Da {r:ByteArray→ByteArray}:∀l:aH,(jz r l).bu=l.bu.map (wI r)
 | .nil=>rfl
 | .cons h x b e l=>by simp only[jz,aH.bu,List.map_cons,Da l]
theorem Bz {o n s:ByteArray} (h:(s.toList==o.toList)=false):eY o n s=s:=by
 unfold eY;rw[if_neg];rintro rfl;simp at h
theorem qW {o n s:ByteArray} (h:(s.toList==o.toList)=true):eY o n s=n:=by
 unfold eY;rw[←yR,MapKept.bytes_beq] at h;rw[if_pos h]
theorem JF {r:ByteArray→ByteArray} {h:EH} (q:h.kind=3→r h.name=h.name):mr r h=h:=by
 unfold mr;split
 ·rename_i k;rw[q k]
 ·rfl
theorem JG {r:ByteArray→ByteArray} {h:SH} (q:(h.kind=1∨h.kind=2)→r h.name=h.name):qy r h=h:=by
 unfold qy;split
 ·rename_i k;rw[q k]
 ·rfl
def Rv {α:Type} (El:World→α→List Value→List Nat→Prop) (n:Nat) (t:TypeId) (w:World) (ka:Option Addr) (cap:Nat) (D R:List α) (bs:List Nat):Prop:=
 (D=[]∧R=[]∧ka=none∧cap=0∧bs=[])∨∃g b',ka=some ⟨g,0,none⟩∧bs=g::b'∧Ro El n t w g D R b'
theorem Rv.at_ {α:Type} {El:World→α→List Value→List Nat→Prop} {n:Nat} {t:TypeId} {w:World} {ka:Option Addr} {cap:Nat} {D R:List α} {a:α} {bs:List Nat} (h:Rv El n t w ka cap D (a::R) bs):
  ∃g c1 c c3 b1 ba b3,ka=some ⟨g,0,none⟩∧bs=g::(b1++(ba++b3))∧Sp El n t w g D R c1 c c3 b1 ba b3∧El w a c ba:=by
 rcases h with⟨-,h,-⟩|⟨g,b',h1,h2,h3⟩
 ·cases h
 ·obtain⟨c1,c,c3,b1,ba,b3,h4,h5,h6⟩:=h3.at_;subst h4;exact⟨g,c1,c,c3,b1,ba,b3,h1,h2,h5,h6⟩
theorem Sp.next {α:Type} {El:World→α→List Value→List Nat→Prop} (KE:∀w w' a c bs,Kb bs w w'→El w a c bs→El w' a c bs) {n:Nat} {t:TypeId} {w w':World} {g cap:Nat} {D R:List α} {c1 c3:List (List Value)} {c:List Value} {b1 ba b3:List Nat} (h:Sp El n t w g D R c1 c c3 b1 ba b3)
  (hd:(g::(b1++(ba++b3))).Nodup) (hc:Ch ba w w') {a:α} (hE:El w' a c ba):Rv El n t w' (some ⟨g,0,none⟩) cap (D++[a]) R (g::(b1++(ba++b3))):=.inr ⟨g,_,rfl,rfl,(h.on KE hc hd).done hE⟩
theorem uO.rv {w:World} {l:az} {v:Value} {bs:List Nat} (h:uO w l v bs):∃ka cap,v=.slice ka l.len cap∧Rv FQ 7 134 w ka cap [] l.bu bs:=by
 rcases h with⟨k0,rfl,rfl⟩|⟨g,cap,ks,b',rfl,rfl,h3,h4⟩
 ·refine⟨none,0,by rw[k0],.inl ⟨rfl,?_,rfl,rfl,rfl⟩⟩;rw[←List.length_eq_zero_iff,az.br];exact k0
 ·exact⟨_,_,rfl,.inr ⟨g,b',rfl,rfl,Ro.of h3 (lL.1 h4) (lL.1 h4).Xx⟩⟩
theorem uP.rv {w:World} {l:aH} {v:Value} {bs:List Nat} (h:uP w l v bs):∃ka cap,v=.slice ka l.len cap∧Rv Fe 8 109 w ka cap [] l.bu bs:=by
 rcases h with⟨k0,rfl,rfl⟩|⟨g,cap,ks,b',rfl,rfl,h3,h4⟩
 ·refine⟨none,0,by rw[k0],.inl ⟨rfl,?_,rfl,rfl,rfl⟩⟩;rw[←List.length_eq_zero_iff,aH.br];exact k0
 ·exact⟨_,_,rfl,.inr ⟨g,b',rfl,rfl,Ro.of h3 (lM.1 h4) (lM.1 h4).Xy⟩⟩
theorem Rv.tvE {w:World} {l:az} {ka:Option Addr} {cap:Nat} {bs:List Nat} {r:ByteArray→ByteArray} (h:Rv FQ 7 134 w ka cap (l.bu.map (Bw r)) [] bs):uO w (jq r l) (.slice ka l.len cap) bs:=by
 rcases h with⟨h1,-,rfl,rfl,rfl⟩|⟨g,b',rfl,rfl,h3⟩
 ·have k0:l.len=0:=by rw[←az.br,←List.length_map (f:=Bw r),h1];rfl
  exact .inl ⟨by rw[nT];exact k0,rfl,by rw[k0]⟩
 ·obtain⟨cs,q1,q2,-⟩:=h3.all;exact .inr ⟨g,cap,cs,b',rfl,by rw[nT],q1,lL.2 (by rw[nU];exact q2)⟩
theorem Rv.tvS {w:World} {l:aH} {ka:Option Addr} {cap:Nat} {bs:List Nat} {r:ByteArray→ByteArray} (h:Rv Fe 8 109 w ka cap (l.bu.map (wI r)) [] bs):uP w (jz r l) (.slice ka l.len cap) bs:=by
 rcases h with⟨h1,-,rfl,rfl,rfl⟩|⟨g,b',rfl,rfl,h3⟩
 ·have k0:l.len=0:=by rw[←aH.br,←List.length_map (f:=wI r),h1];rfl
  exact .inl ⟨by rw[qL];exact k0,rfl,by rw[k0]⟩
 ·obtain⟨cs,q1,q2,-⟩:=h3.all;exact .inr ⟨g,cap,cs,b',rfl,by rw[qL],q1,lM.2 (by rw[Da];exact q2)⟩
theorem qX (o nm:ByteArray):∀(n:Nat) (l:az) (v:Value) (bs:List Nat) (w:World),l.sz<n→l.sz≤100000000→uO w l v bs→bs.Nodup→
  Calls Tryz.prog 38 #[v,.string o,.string nm] w fun e w'=>(∃r,e=.returned r)∧uO w' (jq (eY o nm) l) v bs∧Ch bs w w':=by
 intro n
 induction n with
 |zero=>intro l v bs w hn;omega
 | succ n ih=>
  have IH:=af ih;clear ih;intro l v bs w hn hs hv hd;obtain⟨ka,cap,rfl,Bi⟩:=hv.rv;have hl:=l.bU;obtain⟨m,hm⟩:∃m,m=l.len:=⟨_,rfl⟩;have dX:l.bu.length=m:=by rw[az.br,hm]
  rw[←hm] at hl⊢;have hM:=af hm;have dC:=af dX;have hI:=af Bi;have hD:=af hd;have hS:=af (And.intro hn hs);have hkb:m≤100000000:=by omega
  clear hn hs Bi hv hm dX hl hd;go_enter Tryz.func38,Tryz.ntmps38;go_wp2_with fail
  go_loopw [6] (fun i wr=>∃(k:Nat),k≤m∧i=.int .i64 k∧Rv FQ 7 134 wr ka cap ((l.bu.map (Bw (eY o nm))).take k) (l.bu.drop k) bs∧Ch bs w wr) (fun i _=>m- (intOf i).toNat)
  case atStart=>exact⟨0,Nat.zero_le _,rfl,hI.out,Ch.refl _ _⟩
  case round=>
   obtain⟨k,hk,rfl,hr,hc⟩:=hrel;clear hI;by_cases hlt:k<m
   ·have wU:(l.bu.map (Bw (eY o nm))).take (k+1)=(l.bu.map (Bw (eY o nm))).take k++[Bw (eY o nm) (l.bu[k]'(by have:=dC.out;omega))]:=by
     rw[fA _ k (by have:=dC.out;simpa using by omega)];simp
    have bq:((l.bu.map (Bw (eY o nm))).take k).length=k:=by have:=dC.out;simp;omega
    have hsm:=l.jX _ (List.getElem_mem (l:=l.bu) (n:=k) (by have:=dC.out;omega));rw[List.drop_eq_getElem_cons (by have:=dC.out;omega)] at hr;generalize l.bu[k]'(by have:=dC.out;omega)=a at*;generalize (l.bu.map (Bw (eY o nm))).take k=D at*;obtain⟨g,c1,c,c3,b1,ba,b3,rfl,rfl,hsp,u,rfl,hu⟩:=hr.at_;obtain⟨⟨d0,d1,d2,d3,d4,d5⟩,kk⟩:=a;obtain⟨ua,uc,rfl⟩:=hu.shape;have x1:=hsp.cell bq 1 (by simp[eC]);have x4:=hsp.cell bq 4 (by simp[eC]);have x6:=hsp.cell bq 6 (by simp[eC]);simp only[eC,List.getElem?_cons_zero,List.getElem?_cons_succ] at x1 x4 x6;have Kz:=hsp.row.free (k*7+4);have pE:=hD.out;have RJ:ba.Nodup:=by
     rw[List.nodup_cons,List.nodup_append,List.nodup_append] at pE;exact pE.2.2.1.1
    have hsz:kk.sz<l.sz:=hsm;have hC:=af hc;have Pf:=af hsp;have Pg:=af wU;have qB:=af bq;have hBa:=af RJ;have hU:=af hu;have eT:=af hsz;clear hr hc hsp wU bq RJ hu hsz hsm pE;cases hq:(d4.toList==o.toList) with
    | false=>
     have lf:=Pf;have ky:=hC;have Ff:=af (show eC ⟨d0,d1,d2,d3,d4,d5⟩ (.slice ua kk.len uc)=eC (Bw (eY o nm) (⟨d0,d1,d2,d3,d4,d5⟩,kk)).1 (.slice ua kk.len uc) by rw[show(Bw (eY o nm) (⟨d0,d1,d2,d3,d4,d5⟩,kk)).1=⟨d0,d1,d2,d3,d4,d5⟩ from JF fun _=>Bz hq]);have au:=af (IH.out kk (.slice ua kk.len uc) ba wr (by have:=hS.out;have:=eT.out;omega) (by have:=hS.out;have:=eT.out;omega) hU.out hBa.out);go_wp2_with fail
     refine au.mono ?_;rintro e w2 ⟨⟨v2,rfl⟩,ki,hc2⟩;have Xz:=af ki;have tE:=af hc2;clear ki hc2 au x1 x4 x6 Kz hq;go_wp2_with fail
     go_roundw
     case rel=>
      refine⟨k+1,by omega,by go_num,?_,ky.trans (tE.sub fun x hx=>by simp[hx])⟩;rw[Pg.out];exact lf.next yT hD.out tE.out ⟨_,Ff.out,Xz.out⟩
     case measure=>simp[intOf];omega
    | true=>
     by_cases hk3:d1=3
     ·subst hk3;have lf:=af (Pf.set yT hD.out qB.out 4 (by simp[eC]) (.string nm));have ky:=af (hC.trans ((Ch.set wr g (k*7+4) (.string nm)).sub fun x hx=>by simp at hx;simp[hx]));have Ff:=af (show(eC ⟨d0,3,d2,d3,d4,d5⟩ (.slice ua kk.len uc)).set 4 (.string nm)=eC (Bw (eY o nm) (⟨d0,3,d2,d3,d4,d5⟩,kk)).1 (.slice ua kk.len uc) by rw[show(Bw (eY o nm) (⟨d0,3,d2,d3,d4,d5⟩,kk)).1=⟨d0,3,d2,d3,nm,d5⟩ by simp[Bw,mr,qW hq]];rfl);have au:=af (IH.out kk (.slice ua kk.len uc) ba (wr.setCell ⟨g,k*7+4,none⟩ (.string nm)) (by have:=hS.out;have:=eT.out;omega) (by have:=hS.out;have:=eT.out;omega) (hU.keep (Kb.set fun b hb e=>by have:=hD.out;rw[List.nodup_cons] at this;exact this.1 (by simp[←e,hb]))) hBa.out);go_wp2_with fail
      refine au.mono ?_;rintro e w2 ⟨⟨v2,rfl⟩,ki,hc2⟩;have Xz:=af ki;have tE:=af hc2;clear ki hc2 au x1 x4 x6 Kz hq;go_wp2_with fail
      go_roundw
      case rel=>
       refine⟨k+1,by omega,by go_num,?_,ky.trans (tE.sub fun x hx=>by simp[hx])⟩;rw[Pg.out];exact lf.next yT hD.out tE.out ⟨_,Ff.out,Xz.out⟩
      case measure=>simp[intOf];omega
     ·have hk3b:(d1==3)=false:=by simpa using hk3
      have lf:=Pf;have ky:=hC;have Ff:=af (show eC ⟨d0,d1,d2,d3,d4,d5⟩ (.slice ua kk.len uc)=eC (Bw (eY o nm) (⟨d0,d1,d2,d3,d4,d5⟩,kk)).1 (.slice ua kk.len uc) by rw[show(Bw (eY o nm) (⟨d0,d1,d2,d3,d4,d5⟩,kk)).1=⟨d0,d1,d2,d3,d4,d5⟩ from JF fun c=>absurd c hk3]);have au:=af (IH.out kk (.slice ua kk.len uc) ba wr (by have:=hS.out;have:=eT.out;omega) (by have:=hS.out;have:=eT.out;omega) hU.out hBa.out);go_wp2_with fail
      refine au.mono ?_;rintro e w2 ⟨⟨v2,rfl⟩,ki,hc2⟩;have Xz:=af ki;have tE:=af hc2;clear ki hc2 au x1 x4 x6 Kz hq;go_wp2_with fail
      go_roundw
      case rel=>
       refine⟨k+1,by omega,by go_num,?_,ky.trans (tE.sub fun x hx=>by simp[hx])⟩;rw[Pg.out];exact lf.next yT hD.out tE.out ⟨_,Ff.out,Xz.out⟩
      case measure=>simp[intOf];omega
   ·obtain rfl:k=m:=by omega
    rw[List.take_of_length_le (by have:=dC.out;simp;omega),List.drop_of_length_le (by have:=dC.out;omega)] at hr;have hT:=hr.tvE;rw[←hM.out] at hT;have hF:=af (And.intro hT hc);clear hr hc hT;go_wp2_with fail
    go_end0;exact⟨⟨_,rfl⟩,hF.1,hF.2⟩
theorem Nz (o nm:ByteArray):∀(n:Nat) (l:aH) (v:Value) (bs:List Nat) (w:World),l.sz<n→l.sz≤100000000→uP w l v bs→bs.Nodup→
  Calls Tryz.prog 15 #[v,.string o,.string nm] w fun e w'=>(∃r,e=.returned r)∧uP w' (jz (eY o nm) l) v bs∧Ch bs w w':=by
 intro n
 induction n with
 |zero=>intro l v bs w hn;omega
 | succ n ih=>
  have IH:=af ih;clear ih;intro l v bs w hn hs hv hd;obtain⟨ka,cap,rfl,Bi⟩:=hv.rv;have hl:=l.bU;obtain⟨m,hm⟩:∃m,m=l.len:=⟨_,rfl⟩;have dX:l.bu.length=m:=by rw[aH.br,hm]
  rw[←hm] at hl⊢;have hM:=af hm;have dC:=af dX;have hI:=af Bi;have hD:=af hd;have hS:=af (And.intro hn hs);have hkb:m≤100000000:=by omega
  clear hn hs Bi hv hm dX hl hd;go_enter Tryz.func15,Tryz.ntmps15;go_wp2_with fail
  go_loopw [6] (fun i wr=>∃(k:Nat),k≤m∧i=.int .i64 k∧Rv Fe 8 109 wr ka cap ((l.bu.map (wI (eY o nm))).take k) (l.bu.drop k) bs∧Ch bs w wr) (fun i _=>m- (intOf i).toNat)
  case atStart=>exact⟨0,Nat.zero_le _,rfl,hI.out,Ch.refl _ _⟩
  case round=>
   obtain⟨k,hk,rfl,hr,hc⟩:=hrel;clear hI;by_cases hlt:k<m
   ·have wU:(l.bu.map (wI (eY o nm))).take (k+1)=(l.bu.map (wI (eY o nm))).take k++[wI (eY o nm) (l.bu[k]'(by have:=dC.out;omega))]:=by
     rw[fA _ k (by have:=dC.out;simpa using by omega)];simp
    have bq:((l.bu.map (wI (eY o nm))).take k).length=k:=by have:=dC.out;simp;omega
    have hsm:=l.jX _ (List.getElem_mem (l:=l.bu) (n:=k) (by have:=dC.out;omega));rw[List.drop_eq_getElem_cons (by have:=dC.out;omega)] at hr;generalize l.bu[k]'(by have:=dC.out;omega)=a at*;generalize (l.bu.map (wI (eY o nm))).take k=D at*;obtain⟨g,c1,c,c3,b1,ba,b3,rfl,rfl,hsp,vx,vb,ve,bx,bb,be,rfl,rfl,hux,hub,hue⟩:=hr.at_;obtain⟨⟨d0,d1,d2,d3,d4⟩,kx,kb,ke⟩:=a;obtain⟨ax,cx,rfl⟩:=hux.shape;obtain⟨ab,cb,rfl⟩:=hub.shape;obtain⟨ae,ce,rfl⟩:=hue.shape;have x1:=hsp.cell bq 1 (by simp[sC]);have x2:=hsp.cell bq 2 (by simp[sC]);have x5:=hsp.cell bq 5 (by simp[sC]);simp only[sC,List.getElem?_cons_zero,List.getElem?_cons_succ] at x1 x2 x5;have Kz:=hsp.row.free (k*8+2);have pE:=hD.out;have hB:bx.Nodup∧bb.Nodup∧be.Nodup∧(∀x∈bx,x∉bb∧x∉be)∧(∀x∈bb,x∉be):=by
     simp only[List.nodup_cons,List.nodup_append,List.mem_append] at pE;obtain⟨-,-,⟨⟨q1,⟨q2,q3,q4⟩,q5⟩,-,-⟩,-⟩:=pE;exact⟨q1,q2,q3,fun x hx=>⟨fun c=>q5 x hx x (.inl c) rfl,fun c=>q5 x hx x (.inr c) rfl⟩,fun x hx c=>q4 x hx x c rfl⟩
    have hG:∀b∈bx++(bb++be),b≠g:=fun b hb e=>by
     simp only[List.nodup_cons] at pE;exact pE.1 (e▸List.mem_append_right _ (List.mem_append_left _ hb))
    have hsz:kx.sz<l.sz∧kb.sz<l.sz∧ke.sz<l.sz:=by have h9:=hsm;simp only[] at h9;omega
    have hC:=af hc;have Pf:=af hsp;have Pg:=af wU;have qB:=af bq;have fB:=af hB;have Tv:=af hG;have Zm:=af hux;have Zn:=af hub;have Zo:=af hue;have eT:=af hsz;clear hr hc hsp wU bq hB hG hux hub hue hsz hsm pE;cases hq:(d2.toList==o.toList) with
    | false=>
     have lf:=Pf;have ky:=hC;have sS:=Zn;have sT:=Zo;have Ff:=af (show sC ⟨d0,d1,d2,d3,d4⟩ (.slice ax kx.len cx) (.slice ab kb.len cb) (.slice ae ke.len ce)=sC (wI (eY o nm) (⟨d0,d1,d2,d3,d4⟩,kx,kb,ke)).1 (.slice ax kx.len cx) (.slice ab kb.len cb) (.slice ae ke.len ce) by rw[show(wI (eY o nm) (⟨d0,d1,d2,d3,d4⟩,kx,kb,ke)).1=⟨d0,d1,d2,d3,d4⟩ from JG fun c=>Bz hq]);have au:=af (qX o nm (kx.sz+1) kx (.slice ax kx.len cx) bx wr (by omega) (by have:=hS.out;have:=eT.out;omega) Zm.out fB.1);go_wp2_with fail
     refine au.mono ?_;rintro e w2 ⟨⟨v2,rfl⟩,ki,hc2⟩;have JH:=af ki;have tE:=af (ky.trans (hc2.sub fun x hx=>by simp[hx]));have mX:=af (lf.on gg (hc2.sub fun x hx=>by simp[hx]) hD.out);have sU:=af (sS.keep (hc2.kb fun x hx c=>(fB.2.2.2.1 x c).1 hx));have sV:=af (sT.keep (hc2.kb fun x hx c=>(fB.2.2.2.1 x c).2 hx));clear ki hc2 au x1 x2 x5 Kz hq lf ky sS sT;have x6:=mX.cell qB.out 6 (by simp[sC]);simp only[sC,List.getElem?_cons_zero,List.getElem?_cons_succ,List.set_cons_zero,List.set_cons_succ] at x6;have au:=af (IH.out kb (.slice ab kb.len cb) bb w2 (by have:=hS.out;have:=eT.out;omega) (by have:=hS.out;have:=eT.out;omega) sU.out fB.2.1);go_wp2_with fail
     refine au.mono ?_;rintro e w3 ⟨⟨v3,rfl⟩,JI,hc3⟩;have JJ:=af JI;have JK:=af (tE.trans (hc3.sub fun x hx=>by simp[hx]));have mY:=af (mX.on gg (hc3.sub fun x hx=>by simp[hx]) hD.out);have sW:=af (JH.keep (hc3.kb fun x hx c=>(fB.2.2.2.1 x hx).1 c));have sX:=af (sV.keep (hc3.kb fun x hx c=>fB.2.2.2.2 x c hx));clear JI hc3 au x6 mX tE JH sV sU;have x7:=mY.cell qB.out 7 (by simp[sC]);simp only[sC,List.getElem?_cons_zero,List.getElem?_cons_succ,List.set_cons_zero,List.set_cons_succ] at x7;have au:=af (IH.out ke (.slice ae ke.len ce) be w3 (by have:=hS.out;have:=eT.out;omega) (by have:=hS.out;have:=eT.out;omega) sX.out fB.2.2.1);go_wp2_with fail
     refine au.mono ?_;rintro e w4 ⟨⟨v4,rfl⟩,JL,oG⟩;have RN:=af JL;have RO:=af (JK.trans (oG.sub fun x hx=>by simp[hx]));have BA:=af (mY.on gg (oG.sub fun x hx=>by simp[hx]) hD.out);have BB:=af (sW.keep (oG.kb fun x hx c=>(fB.2.2.2.1 x hx).2 c));have BH:=af (JJ.keep (oG.kb fun x hx c=>fB.2.2.2.2 x hx c));clear JL oG au x7 mY JK sW JJ sX;go_wp2_with fail
     go_roundw
     case rel=>
      refine⟨k+1,by omega,by go_num,?_,RO.out⟩;rw[Pg.out];exact BA.next gg hD.out (Ch.refl _ _) ⟨_,_,_,_,_,_,Ff.out,rfl,BB.out,BH.out,RN.out⟩
     case measure=>simp[intOf];omega
    | true=>
     by_cases dH:d1=1
     ·subst dH;have lf:=af (Pf.set gg hD.out qB.out 2 (by simp[sC]) (.string nm));have ky:=af (hC.trans ((Ch.set wr g (k*8+2) (.string nm)).sub fun x hx=>by simp at hx;simp[hx]));have sS:=af (Zn.keep (Kb.set (w:=wr) (i:=k*8+2) (u:=.string nm) fun b hb=>Tv.out b (by simp[hb])));have sT:=af (Zo.keep (Kb.set (w:=wr) (i:=k*8+2) (u:=.string nm) fun b hb=>Tv.out b (by simp[hb])));have Ff:=af (show(sC ⟨d0,1,d2,d3,d4⟩ (.slice ax kx.len cx) (.slice ab kb.len cb) (.slice ae ke.len ce)).set 2 (.string nm)=sC (wI (eY o nm) (⟨d0,1,d2,d3,d4⟩,kx,kb,ke)).1 (.slice ax kx.len cx) (.slice ab kb.len cb) (.slice ae ke.len ce) by rw[show(wI (eY o nm) (⟨d0,1,d2,d3,d4⟩,kx,kb,ke)).1=⟨d0,1,nm,d3,d4⟩ by simp[wI,qy,qW hq]];rfl);have au:=af (qX o nm (kx.sz+1) kx (.slice ax kx.len cx) bx (wr.setCell ⟨g,k*8+2,none⟩ (.string nm)) (by omega) (by have:=hS.out;have:=eT.out;omega) (Zm.keep (Kb.set fun b hb=>Tv.out b (by simp[hb]))) fB.1);go_wp2_with fail
      refine au.mono ?_;rintro e w2 ⟨⟨v2,rfl⟩,ki,hc2⟩;have JH:=af ki;have tE:=af (ky.trans (hc2.sub fun x hx=>by simp[hx]));have mX:=af (lf.on gg (hc2.sub fun x hx=>by simp[hx]) hD.out);have sU:=af (sS.keep (hc2.kb fun x hx c=>(fB.2.2.2.1 x c).1 hx));have sV:=af (sT.keep (hc2.kb fun x hx c=>(fB.2.2.2.1 x c).2 hx));clear ki hc2 au x1 x2 x5 Kz hq lf ky sS sT;have x6:=mX.cell qB.out 6 (by simp[sC]);simp only[sC,List.getElem?_cons_zero,List.getElem?_cons_succ,List.set_cons_zero,List.set_cons_succ] at x6;have au:=af (IH.out kb (.slice ab kb.len cb) bb w2 (by have:=hS.out;have:=eT.out;omega) (by have:=hS.out;have:=eT.out;omega) sU.out fB.2.1);go_wp2_with fail
      refine au.mono ?_;rintro e w3 ⟨⟨v3,rfl⟩,JI,hc3⟩;have JJ:=af JI;have JK:=af (tE.trans (hc3.sub fun x hx=>by simp[hx]));have mY:=af (mX.on gg (hc3.sub fun x hx=>by simp[hx]) hD.out);have sW:=af (JH.keep (hc3.kb fun x hx c=>(fB.2.2.2.1 x hx).1 c));have sX:=af (sV.keep (hc3.kb fun x hx c=>fB.2.2.2.2 x c hx));clear JI hc3 au x6 mX tE JH sV sU;have x7:=mY.cell qB.out 7 (by simp[sC]);simp only[sC,List.getElem?_cons_zero,List.getElem?_cons_succ,List.set_cons_zero,List.set_cons_succ] at x7;have au:=af (IH.out ke (.slice ae ke.len ce) be w3 (by have:=hS.out;have:=eT.out;omega) (by have:=hS.out;have:=eT.out;omega) sX.out fB.2.2.1);go_wp2_with fail
      refine au.mono ?_;rintro e w4 ⟨⟨v4,rfl⟩,JL,oG⟩;have RN:=af JL;have RO:=af (JK.trans (oG.sub fun x hx=>by simp[hx]));have BA:=af (mY.on gg (oG.sub fun x hx=>by simp[hx]) hD.out);have BB:=af (sW.keep (oG.kb fun x hx c=>(fB.2.2.2.1 x hx).2 c));have BH:=af (JJ.keep (oG.kb fun x hx c=>fB.2.2.2.2 x hx c));clear JL oG au x7 mY JK sW JJ sX;go_wp2_with fail
      go_roundw
      case rel=>
       refine⟨k+1,by omega,by go_num,?_,RO.out⟩;rw[Pg.out];exact BA.next gg hD.out (Ch.refl _ _) ⟨_,_,_,_,_,_,Ff.out,rfl,BB.out,BH.out,RN.out⟩
      case measure=>simp[intOf];omega
     by_cases hk2:d1=2
     ·subst hk2;have lf:=af (Pf.set gg hD.out qB.out 2 (by simp[sC]) (.string nm));have ky:=af (hC.trans ((Ch.set wr g (k*8+2) (.string nm)).sub fun x hx=>by simp at hx;simp[hx]));have sS:=af (Zn.keep (Kb.set (w:=wr) (i:=k*8+2) (u:=.string nm) fun b hb=>Tv.out b (by simp[hb])));have sT:=af (Zo.keep (Kb.set (w:=wr) (i:=k*8+2) (u:=.string nm) fun b hb=>Tv.out b (by simp[hb])));have Ff:=af (show(sC ⟨d0,2,d2,d3,d4⟩ (.slice ax kx.len cx) (.slice ab kb.len cb) (.slice ae ke.len ce)).set 2 (.string nm)=sC (wI (eY o nm) (⟨d0,2,d2,d3,d4⟩,kx,kb,ke)).1 (.slice ax kx.len cx) (.slice ab kb.len cb) (.slice ae ke.len ce) by rw[show(wI (eY o nm) (⟨d0,2,d2,d3,d4⟩,kx,kb,ke)).1=⟨d0,2,nm,d3,d4⟩ by simp[wI,qy,qW hq]];rfl);have au:=af (qX o nm (kx.sz+1) kx (.slice ax kx.len cx) bx (wr.setCell ⟨g,k*8+2,none⟩ (.string nm)) (by omega) (by have:=hS.out;have:=eT.out;omega) (Zm.keep (Kb.set fun b hb=>Tv.out b (by simp[hb]))) fB.1);go_wp2_with fail
      refine au.mono ?_;rintro e w2 ⟨⟨v2,rfl⟩,ki,hc2⟩;have JH:=af ki;have tE:=af (ky.trans (hc2.sub fun x hx=>by simp[hx]));have mX:=af (lf.on gg (hc2.sub fun x hx=>by simp[hx]) hD.out);have sU:=af (sS.keep (hc2.kb fun x hx c=>(fB.2.2.2.1 x c).1 hx));have sV:=af (sT.keep (hc2.kb fun x hx c=>(fB.2.2.2.1 x c).2 hx));clear ki hc2 au x1 x2 x5 Kz hq lf ky sS sT;have x6:=mX.cell qB.out 6 (by simp[sC]);simp only[sC,List.getElem?_cons_zero,List.getElem?_cons_succ,List.set_cons_zero,List.set_cons_succ] at x6;have au:=af (IH.out kb (.slice ab kb.len cb) bb w2 (by have:=hS.out;have:=eT.out;omega) (by have:=hS.out;have:=eT.out;omega) sU.out fB.2.1);go_wp2_with fail
      refine au.mono ?_;rintro e w3 ⟨⟨v3,rfl⟩,JI,hc3⟩;have JJ:=af JI;have JK:=af (tE.trans (hc3.sub fun x hx=>by simp[hx]));have mY:=af (mX.on gg (hc3.sub fun x hx=>by simp[hx]) hD.out);have sW:=af (JH.keep (hc3.kb fun x hx c=>(fB.2.2.2.1 x hx).1 c));have sX:=af (sV.keep (hc3.kb fun x hx c=>fB.2.2.2.2 x c hx));clear JI hc3 au x6 mX tE JH sV sU;have x7:=mY.cell qB.out 7 (by simp[sC]);simp only[sC,List.getElem?_cons_zero,List.getElem?_cons_succ,List.set_cons_zero,List.set_cons_succ] at x7;have au:=af (IH.out ke (.slice ae ke.len ce) be w3 (by have:=hS.out;have:=eT.out;omega) (by have:=hS.out;have:=eT.out;omega) sX.out fB.2.2.1);go_wp2_with fail
      refine au.mono ?_;rintro e w4 ⟨⟨v4,rfl⟩,JL,oG⟩;have RN:=af JL;have RO:=af (JK.trans (oG.sub fun x hx=>by simp[hx]));have BA:=af (mY.on gg (oG.sub fun x hx=>by simp[hx]) hD.out);have BB:=af (sW.keep (oG.kb fun x hx c=>(fB.2.2.2.1 x hx).2 c));have BH:=af (JJ.keep (oG.kb fun x hx c=>fB.2.2.2.2 x hx c));clear JL oG au x7 mY JK sW JJ sX;go_wp2_with fail
      go_roundw
      case rel=>
       refine⟨k+1,by omega,by go_num,?_,RO.out⟩;rw[Pg.out];exact BA.next gg hD.out (Ch.refl _ _) ⟨_,_,_,_,_,_,Ff.out,rfl,BB.out,BH.out,RN.out⟩
      case measure=>simp[intOf];omega
     have Qe:(d1==1)=false:=by simpa using dH
     have hk2b:(d1==2)=false:=by simpa using hk2
     have lf:=Pf;have ky:=hC;have sS:=Zn;have sT:=Zo;have Ff:=af (show sC ⟨d0,d1,d2,d3,d4⟩ (.slice ax kx.len cx) (.slice ab kb.len cb) (.slice ae ke.len ce)=sC (wI (eY o nm) (⟨d0,d1,d2,d3,d4⟩,kx,kb,ke)).1 (.slice ax kx.len cx) (.slice ab kb.len cb) (.slice ae ke.len ce) by rw[show(wI (eY o nm) (⟨d0,d1,d2,d3,d4⟩,kx,kb,ke)).1=⟨d0,d1,d2,d3,d4⟩ from JG fun c=>by rcases c with c|c;(·exact absurd c dH);(·exact absurd c hk2)]);have au:=af (qX o nm (kx.sz+1) kx (.slice ax kx.len cx) bx wr (by omega) (by have:=hS.out;have:=eT.out;omega) Zm.out fB.1);go_wp2_with fail
     refine au.mono ?_;rintro e w2 ⟨⟨v2,rfl⟩,ki,hc2⟩;have JH:=af ki;have tE:=af (ky.trans (hc2.sub fun x hx=>by simp[hx]));have mX:=af (lf.on gg (hc2.sub fun x hx=>by simp[hx]) hD.out);have sU:=af (sS.keep (hc2.kb fun x hx c=>(fB.2.2.2.1 x c).1 hx));have sV:=af (sT.keep (hc2.kb fun x hx c=>(fB.2.2.2.1 x c).2 hx));clear ki hc2 au x1 x2 x5 Kz hq lf ky sS sT;have x6:=mX.cell qB.out 6 (by simp[sC]);simp only[sC,List.getElem?_cons_zero,List.getElem?_cons_succ,List.set_cons_zero,List.set_cons_succ] at x6;have au:=af (IH.out kb (.slice ab kb.len cb) bb w2 (by have:=hS.out;have:=eT.out;omega) (by have:=hS.out;have:=eT.out;omega) sU.out fB.2.1);go_wp2_with fail
     refine au.mono ?_;rintro e w3 ⟨⟨v3,rfl⟩,JI,hc3⟩;have JJ:=af JI;have JK:=af (tE.trans (hc3.sub fun x hx=>by simp[hx]));have mY:=af (mX.on gg (hc3.sub fun x hx=>by simp[hx]) hD.out);have sW:=af (JH.keep (hc3.kb fun x hx c=>(fB.2.2.2.1 x hx).1 c));have sX:=af (sV.keep (hc3.kb fun x hx c=>fB.2.2.2.2 x c hx));clear JI hc3 au x6 mX tE JH sV sU;have x7:=mY.cell qB.out 7 (by simp[sC]);simp only[sC,List.getElem?_cons_zero,List.getElem?_cons_succ,List.set_cons_zero,List.set_cons_succ] at x7;have au:=af (IH.out ke (.slice ae ke.len ce) be w3 (by have:=hS.out;have:=eT.out;omega) (by have:=hS.out;have:=eT.out;omega) sX.out fB.2.2.1);go_wp2_with fail
     refine au.mono ?_;rintro e w4 ⟨⟨v4,rfl⟩,JL,oG⟩;have RN:=af JL;have RO:=af (JK.trans (oG.sub fun x hx=>by simp[hx]));have BA:=af (mY.on gg (oG.sub fun x hx=>by simp[hx]) hD.out);have BB:=af (sW.keep (oG.kb fun x hx c=>(fB.2.2.2.1 x hx).2 c));have BH:=af (JJ.keep (oG.kb fun x hx c=>fB.2.2.2.2 x hx c));clear JL oG au x7 mY JK sW JJ sX;go_wp2_with fail
     go_roundw
     case rel=>
      refine⟨k+1,by omega,by go_num,?_,RO.out⟩;rw[Pg.out];exact BA.next gg hD.out (Ch.refl _ _) ⟨_,_,_,_,_,_,Ff.out,rfl,BB.out,BH.out,RN.out⟩
     case measure=>simp[intOf];omega
   ·obtain rfl:k=m:=by omega
    rw[List.take_of_length_le (by have:=dC.out;simp;omega),List.drop_of_length_le (by have:=dC.out;omega)] at hr;have hT:=hr.tvS;rw[←hM.out] at hT;have hF:=af (And.intro hT hc);clear hr hc hT;go_wp2_with fail
    go_end0;exact⟨⟨_,rfl⟩,hF.1,hF.2⟩
end
section
open Go.Shelf
theorem RP:∀(n:Nat) (l:aH) (v:Value) (w:World),l.sz<n→l.sz≤100000000→dR w true none l v→
  Calls Tryz.prog 35 #[v] w fun e w'=>∃v' bs,e=.returned v'∧uP w' l v' bs∧bs.Nodup∧(∀b∈bs,w.heap.size≤b∧b<w'.heap.size)∧Below w.heap.size w w':=by
 intro n
 induction n with
 |zero=>intro l v w hn;omega
 | succ n ih=>
  have IH:=af ih;clear ih;intro l v w hn hs hv;obtain⟨ka,b,off,c,rfl,hka,fz⟩:=ny.1 hv;obtain⟨m,hm⟩:∃m,m=l.bu.length:=⟨_,rfl⟩;have hl:=l.bU;rw[←aH.br,←hm] at hl;rw[←hm] at hka⊢;have hM:=af hm;have hI:=af fz;have hS:=af (And.intro hn hs);have hkb:m≤100000000:=by omega
  clear hn hs fz hv hm hl;go_enter Tryz.func35,Tryz.ntmps35;go_wp2_with fail
  go_loopw [3,4] (fun x i wr=>∃(k:Nat) (x0:Value),x0=x∧k≤m∧i=.int .i64 k∧Gr Fe w.heap.size 109 8 wr (l.bu.take k) x0∧Below w.heap.size w wr) (fun _ i _=>m- (intOf i).toNat)
  case atStart=>exact⟨0,_,rfl,Nat.zero_le _,rfl,Gr.nil _ _ _ _ _,Below.refl _ _⟩
  case round=>
   obtain⟨k,x0,rfl,hk,rfl,hgr,hb⟩:=hrel;have tR:w.heap.size≤wr.heap.size:=hb.size;by_cases hlt:k<m
   ·obtain⟨⟨⟨t,z0,zt⟩,z1,z2,z3,z4⟩,⟨vx,z5,C3⟩,⟨vb,z6,l6⟩,⟨ve,z7,Zp⟩⟩:=hI.out k (by have:=hM.out;omega);have ht:=zt rfl;subst ht;have y0:=ag z0 hb;have y1:=ag z1 hb;have y2:=ag z2 hb;have y3:=ag z3 hb;have y4:=ag z4 hb;have y5:=ag z5 hb;have y6:=ag z6 hb;have y7:=ag z7 hb;have hsm:=l.jX _ (List.getElem_mem (l:=l.bu) (n:=k) (by have:=hM.out;omega));have bG:ka=some ⟨b,off,none⟩:=by rcases hka with q|q;(·omega);(·exact q.1)
    have wU:=af (fA l.bu k (by have:=hM.out;omega));have hlen:(l.bu.take k).length=k:=by have:=hM.out;simp;omega
    have bq:=af hlen;subst bG;generalize l.bu[k]'(by have:=hM.out;omega)=a at*;obtain⟨⟨c0,c1,c2,c3,c4⟩,ex,body,els⟩:=a;simp only[] at y0 y1 y2 y3 y4 y5 y6 y7 C3 l6 Zp hsm;obtain⟨xa,xc,rfl⟩:=C3.ay;obtain⟨ba,bc,rfl⟩:=l6.ay;obtain⟨ea,ec,rfl⟩:=Zp.ay;obtain⟨W1,hW1⟩:∃W1,W1=wr.alloc (.cells #[.int .i64 c0,.int .u8 c1,.string c2,.int .u8 c3,.string c4,.slice xa ex.len xc,.slice ba body.len bc,.slice ea els.len ec] 109):=⟨_,rfl⟩;have aB:Hid (Bx W1 wr.heap.size #[.int .i64 c0,.int .u8 c1,.string c2,.int .u8 c3,.string c4,.slice xa ex.len xc,.slice ba body.len bc,.slice ea els.len ec] 109):=af (by rw[hW1];exact Bx.new _ _ _);have hb1:Below wr.heap.size wr W1:=by rw[hW1];exact(Below.refl _ _).alloc (Nat.le_refl _) _
    have hs1:W1.heap.size=wr.heap.size+1:=by rw[hW1];simp
    have KA:=af (And.intro hS.out hsm);have hV:=af (And.intro C3 (And.intro l6 Zp));have au:=af (RM _ ex _ W1 (Nat.lt_succ_self _) (by have:=KA.1.2;have:=KA.2;omega) (C3.mono (hb.trans (hb1.mono hb.size))));have Py:=af hgr;have hB:=af hb;have iU:=af hb1;have hS1:=af hs1;have JD:=af hW1;clear hka hgr hb hb1 hs1 hW1 z0 z1 z2 z3 z4 z5 z6 z7 zt C3 l6 Zp hsm hlen;go_wp2_with fail
    rw[←JD.out];have p5:=aB.cell 5;simp at p5;clear y0 y1 y2 y3 y4 y5 y6 y7;go_wp2_with fail
    refine au.mono ?_;rintro e w2 ⟨v2,b2,rfl,ki,hd2,hl2,hb2⟩;obtain⟨ua,uc,rfl⟩:=ki.shape;have aL:=af (aB.on (ah hb2) (by simp));have HT:=af (And.intro ki (And.intro hd2 hl2));have pU:Hid (Below wr.heap.size wr w2):=af (iU.trans (hb2.mono (by have:=hS1.out;omega)));have RQ:Hid (wr.heap.size+1≤w2.heap.size):=af (by have:=hb2.size;have:=hS1.out;omega);have q5:=aL.free 5;have hl4:=aL.lt;have r5:=aL.cell 5;have r6:=aL.cell 6;simp at r5 r6;clear ki hd2 hl2 hb2 au p5 aB;go_wp2_with fail
    obtain⟨w3,hw3⟩:∃w3,w3=w2.setCell ⟨wr.heap.size,5,none⟩ (.slice ua ex.len uc):=⟨_,rfl⟩;have cq:Hid (Bx w3 wr.heap.size #[.int .i64 c0,.int .u8 c1,.string c2,.int .u8 c3,.string c4,.slice ua ex.len uc,.slice ba body.len bc,.slice ea els.len ec] 109):=af (by rw[hw3];exact aL.set 5 _);have Jn:Hid (Below wr.heap.size wr w3):=af (by rw[hw3];exact pU.setCell (Nat.le_refl _) _);have Zl:Hid (wr.heap.size+1≤w3.heap.size):=af (by rw[hw3,size_set];exact RQ.out);have NA:Hid (uO w3 ex (.slice ua ex.len uc) b2∧b2.Nodup∧∀b∈b2,wr.heap.size+1≤b∧b<w3.heap.size):=af (by
     have h9:=hS1.out;rw[hw3,size_set];exact⟨HT.1.keep (Kb.set fun b q=>by have:=HT.2.2 b q;omega),HT.2.1,fun b q=>by have:=HT.2.2 b q;omega⟩)
    have au:=af (IH.out body _ w3 (by have:=KA.1;have:=KA.2;omega) (by have:=KA.1;have:=KA.2;omega) (hV.2.1.mono (hB.trans (Jn.mono tR))));rw[←hw3];clear hw3 aL HT pU RQ q5 hl4 r5 r6;refine au.mono ?_;rintro e w4 ⟨v2,b3,rfl,ki,hd2,hl2,hb2⟩;obtain⟨va,vc,rfl⟩:=ki.shape;have gl:=af (cq.on (ah hb2) (by simp));have FM:Hid (Below wr.heap.size wr w4):=af (Jn.trans (hb2.mono (by have:=Jn.size;omega)));have HS4:Hid (w3.heap.size≤w4.heap.size):=af hb2.size;have XC:=af (And.intro (NA.1.keep (Kb.below hb2 fun b q=>(NA.2.2 b q).2)) (And.intro ki (And.intro hd2 hl2)));have q6:=gl.free 6;have hl4:=gl.lt;have r6:=gl.cell 6;have r7:=gl.cell 7;simp at r6 r7;clear ki hd2 hl2 hb2 au cq;go_wp2_with fail
    obtain⟨w5,wP⟩:∃w5,w5=w4.setCell ⟨wr.heap.size,6,none⟩ (.slice va body.len vc):=⟨_,rfl⟩;have o6:Hid (Bx w5 wr.heap.size #[.int .i64 c0,.int .u8 c1,.string c2,.int .u8 c3,.string c4,.slice ua ex.len uc,.slice va body.len vc,.slice ea els.len ec] 109):=af (by rw[wP];exact gl.set 6 _);have Tx:Hid (Below wr.heap.size wr w5):=af (by rw[wP];exact FM.setCell (Nat.le_refl _) _);have HS5:Hid (w3.heap.size≤w5.heap.size):=af (by rw[wP,size_set];exact HS4.out);have wV:Hid (uO w5 ex (.slice ua ex.len uc) b2∧uP w5 body (.slice va body.len vc) b3∧b3.Nodup∧∀b∈b3,w3.heap.size≤b∧b<w5.heap.size):=af (by
     have h9:=Zl.out;rw[wP,size_set];exact⟨XC.1.keep (Kb.set fun b q=>by have:=NA.2.2 b q;omega),XC.2.1.keep (Kb.set fun b q=>by have:=XC.2.2.2 b q;omega),XC.2.2⟩)
    have au:=af (IH.out els _ w5 (by have:=KA.1;have:=KA.2;omega) (by have:=KA.1;have:=KA.2;omega) (hV.2.2.mono (hB.trans (Tx.mono tR))));rw[←wP];clear wP gl XC FM HS4 q6 hl4 r6 r7;refine au.mono ?_;rintro e w6 ⟨v2,b4,rfl,ki,hd2,hl2,hb2⟩;obtain⟨ta,tc,rfl⟩:=ki.shape;have pS:=af (o6.on (ah hb2) (by simp));have RR:Hid (Below wr.heap.size wr w6):=af (Tx.trans (hb2.mono (by have:=Tx.size;omega)));have HS6:Hid (w5.heap.size≤w6.heap.size):=af hb2.size;have NB:=af (And.intro (wV.1.keep (Kb.below hb2 fun b q=>by have:=NA.2.2 b q;have:=HS5.out;omega)) (And.intro (wV.2.1.keep (Kb.below hb2 fun b q=>(wV.2.2.2 b q).2)) (And.intro ki (And.intro hd2 hl2))));have q7:=pS.free 7;have hl4:=pS.lt;have p0:=pS.cell 0;have p1:=pS.cell 1;have p2:=pS.cell 2;have p3:=pS.cell 3;have p4:=pS.cell 4;have p5:=pS.cell 5;have p6:=pS.cell 6;have p7:=pS.cell 7;simp at p0 p1 p2 p3 p4 p5 p6 p7;clear ki hd2 hl2 hb2 au o6;obtain⟨w7,wQ⟩:∃w7,w7=w6.setCell ⟨wr.heap.size,7,none⟩ (.slice ta els.len tc):=⟨_,rfl⟩;have XD:Hid (Below wr.heap.size wr w7):=af (by rw[wQ];exact RR.setCell (Nat.le_refl _) _);have HS7:Hid (w5.heap.size≤w7.heap.size):=af (by rw[wQ,size_set];exact HS6.out);have HT7:Hid (Fe w7 (⟨c0,c1,c2,c3,c4⟩,ex,body,els) [.int .i64 c0,.int .u8 c1,.string c2,.int .u8 c3,.string c4,.slice ua ex.len uc,.slice va body.len vc,.slice ta els.len tc] (b2++(b3++b4))∧(b2++(b3++b4)).Nodup∧∀b∈b2++(b3++b4),wr.heap.size≤b∧b<w7.heap.size):=af (by
     have h9:=Zl.out;have h8:=HS5.out;have h7:=HS6.out;rw[wQ,size_set];refine⟨⟨_,_,_,b2,b3,b4,rfl,rfl,NB.1.keep (Kb.set fun b q=>by have:=NA.2.2 b q;omega),NB.2.1.keep (Kb.set fun b q=>by have:=wV.2.2.2 b q;omega),NB.2.2.1.keep (Kb.set fun b q=>by have:=NB.2.2.2.2 b q;omega)⟩,?_,fun b q=>?_⟩
     ·rw[List.nodup_append,List.nodup_append];refine⟨NA.2.1,⟨wV.2.2.1,NB.2.2.2.1,fun x hx y hy e=>?_⟩,fun x hx y hy e=>?_⟩
      ·have:=wV.2.2.2 x hx;have:=NB.2.2.2.2 y hy;omega
      ·have:=NA.2.2 x hx;rcases List.mem_append.1 hy with hy|hy
       ·have:=wV.2.2.2 y hy;omega
       ·have:=NB.2.2.2.2 y hy;omega
     ·rcases List.mem_append.1 q with q|q
      ·have:=NA.2.2 b q;omega
      rcases List.mem_append.1 q with q|q
      ·have:=wV.2.2.2 b q;omega
      ·have:=NB.2.2.2.2 b q;omega)
    obtain⟨cs,bs,hown,hE,JE,pE,oO⟩:=Py.out;have hown2:=hown.kept (ah XD.out) (by cases x0.ownBlock<;>simp);rw[bq.out] at hown2;have HE:=af (And.intro hE (And.intro JE (And.intro pE oO)));have lQ:=af hown.lt;have hO:=af hown2;rw[wQ] at hO;have HW7:=af wQ;have hb3:=af (show w.heap.size≤(w6.setCell ⟨wr.heap.size,7,none⟩ (.slice ta els.len tc)).heap.size by rw[←wQ];have:=XD.size;omega);clear wQ pS hown hown2 hE JE pE oO JD NB RR HS6 wV NA;go_wp2_with (at_builtin;go_must (refine aG rfl _ _ 41 rfl w.heap.size 109 109 zS 8 128 1 Tryz.underlying41 (by kernel_rfl) rfl (by decide) _ k _ [.int .i64 c0,.int .u8 c1,.string c2,.int .u8 c3,.string c4,.slice ua ex.len uc,.slice va body.len vc,.slice ta els.len tc] (0,0) hO.out rfl (by simp[Value.oneCell']) (by unfold maxLen;omega) (by omega) hb3.out rfl (by rw[size_set];rfl) ?_);intro v' w9 hA;rw[←HW7.out] at hA;have hA':=af hA;clear hA)
    rw[←HW7.out] at hO
    go_roundw
    case rel=>
     refine⟨k+1,v',rfl,by omega,by go_num,?_,hB.trans ((XD.mono tR).trans (hA'.below hO.out (by have:=XD.size;omega)))⟩;rw[wU.out];exact Gr.push gg HE.1 HE.2.1 HE.2.2.1 HE.2.2.2 (ah XD.out) (by rw[bq.out];exact hA'.out) rfl HT7.1 HT7.2.1 HT7.2.2 lQ.out (by omega)
    case measure=>simp[intOf];omega
   ·obtain rfl:k=m:=by omega
    have hall:l.bu.take k=l.bu:=List.take_of_length_le (by have:=hM.out;omega);rw[hall] at hgr;obtain⟨bs,h1,h2,h3⟩:=hgr.Xw;have HF:=af (And.intro h1 (And.intro h2 h3));have hB:=af hb;clear hgr hb hall h1 h2 h3;go_wp2_with fail
    go_ret;exact⟨_,bs,rfl,HF.1,HF.2.1,HF.2.2,hB.out⟩
end
section
open Go.Shelf
theorem jh {P:Program} {w:World} {ops:Array Oper} {o:Oper} {a:Act} {K:Act→World→Prop} {Q:Exit→Act→World→Prop} {E:Prop} (hgd:o.guard=none) (s x:Operand) (t:TypeId)
  (ho:o.op=.call {callee:=.builtin .append,args:=#[s,x],argTypes:=#[t,t]})
  (base:Nat) (e:TypeId) (z:Value) (size bytes m:Nat) (ht:P.underlying t=some (.slice e)) (nj:(P.info? e).map (fun i=>(i.zero,i.size,i.bytes))=some (some z,size,bytes))
  (hzs:z.cells.size=size) (hsz:0<size)
  (ka:Option Addr) (c:Nat) (news:List Value) (hl:news.length=m*size) (hnews:m=0∨∃a,ka=some a∧∀j u,news[j]? =some u→w.cell? (a.add j)=some u) (h1:∀u∈news,u.oneCell'=true)
  (h63:m≤maxLen) (hbytes:m*bytes≤140737488355328) (hbase:base≤w.heap.size)
  (hs:a.eval s=.slice none 0 0) (hx:a.eval x=.slice ka m c)
  (h:∀v' w',aV w w' base e size (.slice none 0 0) v' 0 m [] news→K (a.put o.dst v') w'):
  if Region.wanted o (yielded ops a.tmps)=true then Oper.wp P o a w K Q else E:=by
 have hw:Region.wanted o (yielded ops a.tmps)=true:=by simp[Region.wanted,hgd]
 rw[if_pos hw];obtain⟨i,hi,hz0,hz1,hz2⟩:=info_parts nj;subst hz1;subst hz2;obtain⟨v',w',hr,hA⟩:=nE (P:=P) w base t o.type e i z ht hi hz0 hzs hsz ka m c news hl hnews h1 h63 hbytes hbase;unfold Oper.wp execOp;simp only[ho,resolve,invoke,builtin,Sem.run_bind,Sem.run_pure,Result.andThen_ok,List.map_toArray,List.map_cons,List.map_nil,hs,hx,hr];exact h v' w' hA
/-! ### a list that is made -/
section
variable {α:Type} (El:World→α→List Value→List Nat→Prop)
def Dn (e:TypeId) (n:Nat) (w:World) (L:List α) (v:Value) (bs:List Nat):Prop:=
 (L.length=0∧bs=[]∧v=.slice none 0 0)∨∃g cap cs b',bs=g::b'∧v=.slice (some ⟨g,0,none⟩) L.length cap∧fZ w e g cs∧(∀c∈cs,c.length=n)∧iL (El w) L cs b'
end
section
variable {α:Type} {El:World→α→List Value→List Nat→Prop}
theorem Dn.keep (KE:∀w w' a c bs,Kb bs w w'→El w a c bs→El w' a c bs) {e:TypeId} {n:Nat} {w w':World} {L:List α} {v:Value} {bs:List Nat} (h:Dn El e n w L v bs) (hk:Kb bs w w'):Dn El e n w' L v bs:=by
 rcases h with h|⟨g,cap,cs,b',rfl,h2,h3,h4,h5⟩
 ·exact .inl h
 ·exact .inr ⟨g,cap,cs,b',rfl,h2,h3.keep (hk g List.mem_cons_self),h4,h5.imp fun a c b hs h=>KE _ _ _ _ _ (hk.sub fun x hx=>List.mem_cons_of_mem _ (hs x hx)) h⟩
theorem Dn.shape {e:TypeId} {n:Nat} {w:World} {L:List α} {v:Value} {bs:List Nat} (h:Dn El e n w L v bs):∃a c,v=.slice a L.length c:=by
 rcases h with⟨h,-,rfl⟩|⟨g,cap,cs,b',rfl,rfl,h3,h4,h5⟩
 ·exact⟨_,_,by rw[h]⟩
 ·exact⟨_,_,rfl⟩
theorem Gr.done {B:Nat} {e:TypeId} {n:Nat} {w:World} {L:List α} {v:Value} (h:Gr El B e n w L v):∃bs,Dn El e n w L v bs∧bs.Nodup∧∀b∈bs,B≤b∧b<w.heap.size:=by
 rcases h.row with⟨h1,h2⟩|⟨g,cap,cs,bs,h1,h2,h3,h6,h4,h5⟩
 ·exact⟨[],.inl ⟨h1,rfl,h2⟩,List.nodup_nil,by simp⟩
 ·exact⟨g::bs,.inr ⟨g,cap,cs,bs,rfl,h1,h2,h6,h3⟩,h4,h5⟩
theorem iL.of {El:α→List Value→List Nat→Prop}:∀{l:List α} {cs:List (List Value)},cs.length=l.length→(∀i (h:i<l.length) (h':i<cs.length),El l[i] cs[i] [])→iL El l cs []
 |[],[],_,_=>⟨rfl,rfl⟩
 |[],c::cs,h,_=>by simp at h
 |a::l,[],h,_=>by simp at h
 |a::l,c::cs,h,k=>⟨c,cs,[],[],rfl,rfl,k 0 (by simp) (by simp),iL.of (by simpa using h) fun i h h'=>k (i+1) (by simpa using h) (by simpa using h')⟩
theorem Dn.whole {B:Nat} {e:TypeId} {n:Nat} {w w':World} {L:List α} {v:Value} {cs:List (List Value)} {m:Nat} (hA:aV w w' B e n (.slice none 0 0) v 0 m [] cs.flatten) (hm:m=L.length) (h1:cs.length=L.length)
  (h2:∀i (h:i<L.length) (h':i<cs.length),cs[i].length=n∧El w' L[i] cs[i] []):∃bs,Dn El e n w' L v bs∧bs.Nodup∧∀b∈bs,w.heap.size≤b∧b<w'.heap.size:=by
 have hO:=hA.own;rw[Nat.zero_add,List.nil_append] at hO;have oU:=hO;rcases oU.2 with⟨q1,q2⟩|⟨g,cap,cur,q1,q2,_⟩
 ·exact⟨[],.inl ⟨by omega,rfl,q1⟩,List.nodup_nil,by simp⟩
 ·subst q1;obtain⟨g1,g2⟩:=fZ.JC hO;refine⟨[g],.inr ⟨g,cap,cs,[],rfl,by rw[←hm],g2,fun c hc=>?_,iL.of h1 fun i h h'=>(h2 i h h').2⟩,by simp,fun b q=>?_⟩
  ·obtain⟨i,hi,rfl⟩:=List.getElem_of_mem hc;exact(h2 i (by omega) hi).1
  ·rw[List.mem_singleton] at q;subst q;refine⟨?_,g2.lt⟩;rcases hA.place with hp|⟨g',hp,RS,_⟩
   ·cases hp
   ·cases hp;exact RS
theorem Dn.sl {e:TypeId} {n:Nat} {w:World} {L:List α} {v:Value} {bs:List Nat} {R:α→Nat→Nat→Prop} (hR:∀a c b g q,El w a c b→(∀j,j<n→w.cell? ⟨g,q+j,none⟩=c[j]?)→R a g q) (h:Dn El e n w L v bs):ei w none e n R L v:=by
 rcases h with⟨h,-,rfl⟩|⟨g,cap,cs,b',rfl,rfl,h3,h4,h5⟩
 ·exact⟨none,0,0,0,by rw[h],.inl ⟨h,rfl⟩,fun i hi=>by omega⟩
 ·refine⟨some ⟨g,0,none⟩,g,0,cap,rfl,.inr ⟨rfl,fun Z hZ=>by cases hZ⟩,fun i hi=>?_⟩;obtain⟨c1,c,c2,b1,b,b2,rfl,-,hl,-,he,-⟩:=h5.split i hi;refine hR _ c b g _ he fun j hj=>?_
  have oM:c.length=n:=h4 c (by simp);have e:=lK (n:=n) (c1:=c1) (c:=c) (c2:=c2) (fun x hx=>h4 x (List.mem_append_left _ hx)) j (show j<c.length by omega);rw[hl] at e;rw[Nat.zero_add];have hl2:j<c.length:=by omega
  rw[List.getElem?_eq_getElem hl2] at e⊢;exact h3.cell e
end
def tF (_:World) (a:PW) (c:List Value) (bs:List Nat):Prop:=c=[.string a.1,.int .u8 a.2]∧bs=[]
def XE (_:World) (a:GH) (c:List Value) (bs:List Nat):Prop:=c=[.int .i64 a.at_,.string a.name,.int .u8 a.type,.int .u32 a.len,.int .u32 a.word]∧bs=[]
def Ph (w:World) (a:HH) (c:List Value) (bs:List Nat):Prop:=∃v,c=[.int .i64 a.at_,.string a.name,v,.int .u8 a.type,.int .u32 a.number]∧Dn tF 46 2 w a.params v bs
def RT (w:World) (a:FH) (c:List Value) (bs:List Nat):Prop:=∃vp vb bp bb,c=[.int .i64 a.at_,.string a.name,vp,.int .u8 a.type,.bool a.opn,vb]∧bs=bp++bb∧Dn tF 46 2 w a.params vp bp∧uP w a.body vb bb
theorem lg:∀w w' a c bs,Kb bs w w'→tF w a c bs→tF w' a c bs:=fun _ _ _ _ _ _ h=>h
theorem Db:∀w w' a c bs,Kb bs w w'→XE w a c bs→XE w' a c bs:=fun _ _ _ _ _ _ h=>h
theorem yU:∀w w' a c bs,Kb bs w w'→Ph w a c bs→Ph w' a c bs:=fun _ _ _ _ _ k ⟨v,h1,h2⟩=>⟨v,h1,h2.keep lg k⟩
theorem uQ:∀w w' a c bs,Kb bs w w'→RT w a c bs→RT w' a c bs:=fun _ _ _ _ _ k ⟨vp,vb,bp,bb,h1,h2,h3,h4⟩=>by
 subst h2;exact⟨vp,vb,bp,bb,h1,rfl,h3.keep lg (k.sub fun x hx=>List.mem_append_left _ hx),h4.keep (k.sub fun x hx=>List.mem_append_right _ hx)⟩
theorem tF.row {w:World} {l:List PW} {v:Value} {bs:List Nat} (h:Dn tF 46 2 w l v bs):dE w none l v:=
 h.sl fun a c b g q he hc=>by
  obtain⟨rfl,-⟩:=he;exact⟨hc 0 (by omega),hc 1 (by omega)⟩
def RU (B:Nat) (w:World) (u:UT) (v:Value):Prop:=
 ∃vg vh vf bg bh bf,v=.agg #[vg,vh,vf]∧Dn XE 105 5 w u.gs vg bg∧Dn Ph 101 5 w u.hs vh bh∧Dn RT 43 6 w u.fs vf bf∧(bg++(bh++bf)).Nodup∧∀b∈bg++(bh++bf),B≤b∧b<w.heap.size
theorem RU.tree {B:Nat} {w:World} {u:UT} {v:Value} (h:RU B w u v):jR w true none u v:=by
 obtain⟨vg,vh,vf,bg,bh,bf,rfl,h1,h2,h3,-,-⟩:=h;refine⟨vg,vh,vf,rfl,h1.sl ?_,h2.sl ?_,h3.sl ?_⟩
 ·rintro a c b g q ⟨rfl,-⟩ hc;exact⟨⟨_,hc 0 (by omega),fun _=>rfl⟩,hc 1 (by omega),hc 2 (by omega),hc 3 (by omega),hc 4 (by omega)⟩
 ·rintro a c b g q ⟨v,rfl,hv⟩ hc;exact⟨⟨_,hc 0 (by omega),fun _=>rfl⟩,hc 1 (by omega),⟨v,hc 2 (by omega),tF.row hv⟩,hc 3 (by omega),hc 4 (by omega)⟩
 ·rintro a c b g q ⟨vp,vb,bp,bb,rfl,-,hp,hb⟩ hc;exact⟨⟨_,hc 0 (by omega),fun _=>rfl⟩,hc 1 (by omega),⟨vp,hc 2 (by omega),tF.row hp⟩,hc 3 (by omega),hc 4 (by omega),⟨vb,hc 5 (by omega),hb.tree⟩⟩
/-! ### the boxes, and what was made ahead of N -/
structure FT (w w1 wr:World) (arg:Array Value) (x0 x1 x2:Value) (N:Nat):Prop where
 cu:CU w wr arg x0 x1 x2
 kr:∀b,w.heap.size+3≤b→b<N→wr.heap[b]? =w1.heap[b]?
 sz:N≤wr.heap.size
 lo:w.heap.size+3≤N
theorem FT.step {w w1 wr w':World} {arg:Array Value} {x0 x1 x2:Value} {N:Nat} (h:FT w w1 wr arg x0 x1 x2 N) {row:Option Nat} (hg:wr.grownBy w' row) (hr:∀k,row=some k→N≤k):FT w w1 w' arg x0 x1 x2 N:=
 ⟨h.cu.step hg fun k e=>Nat.le_trans h.lo (hr k e),fun b h1 h2=>(hg.block b (Nat.lt_of_lt_of_le h2 h.sz) fun e=>by have:=hr b e.symm;omega).trans (h.kr b h1 h2),Nat.le_trans h.sz hg.size,h.lo⟩
theorem FT.put {w w1 wr:World} {arg:Array Value} {x0 x1 x2:Value} {N:Nat} (h:FT w w1 wr arg x0 x1 x2 N) (i:Nat) (v y0 y1 y2:Value) (hy:(#[x0,x1,x2]:Array Value).set! i v=#[y0,y1,y2]):FT w w1 (wr.setCell ⟨w.heap.size+1+1,i,none⟩ v) arg y0 y1 y2 N:=
 ⟨h.cu.put i v y0 y1 y2 hy,fun b h1 h2=>(Below.heap_setCell _ _ _ _ (fun e=>by have:b=w.heap.size+1+1:=e;omega)).trans (h.kr b h1 h2),by rw[size_set];exact h.sz,h.lo⟩
theorem FT.kb {w w1 wr:World} {arg:Array Value} {x0 x1 x2:Value} {N:Nat} (h:FT w w1 wr arg x0 x1 x2 N) {bs:List Nat} (hb:∀b∈bs,w.heap.size+3≤b∧b<N):Kb bs w1 wr:=fun b q=>h.kr b (hb b q).1 (hb b q).2
end
section
open Go.Shelf
theorem JM {w:World} {a:HH} {b q:Nat} (h:gM w true none a b q):∃v,w.cell? ⟨b,q,none⟩=some (.int .i64 a.at_)∧w.cell? ⟨b,q+1,none⟩=some (.string a.name)∧w.cell? ⟨b,q+2,none⟩=some v∧w.cell? ⟨b,q+3,none⟩=some (.int .u8 a.type)∧w.cell? ⟨b,q+4,none⟩=some (.int .u32 a.number)∧dE w none a.params v:=by
 obtain⟨⟨t,y0,zt⟩,y1,⟨v,y2,hv⟩,y3,y4⟩:=h;obtain rfl:=zt rfl;exact⟨v,y0,y1,y2,y3,y4,hv⟩
theorem yV {w:World} {a:FH} {b q:Nat} (h:gN w true none a b q):∃v v5,w.cell? ⟨b,q,none⟩=some (.int .i64 a.at_)∧w.cell? ⟨b,q+1,none⟩=some (.string a.name)∧w.cell? ⟨b,q+2,none⟩=some v∧w.cell? ⟨b,q+3,none⟩=some (.int .u8 a.type)∧w.cell? ⟨b,q+4,none⟩=some (.bool a.opn)∧w.cell? ⟨b,q+5,none⟩=some v5∧dE w none a.params v∧dR w true none a.body v5:=by
 obtain⟨⟨t,y0,zt⟩,y1,⟨v,y2,hv⟩,y3,y4,⟨v5,y5,QC⟩⟩:=h;obtain rfl:=zt rfl;exact⟨v,v5,y0,y1,y2,y3,y4,y5,hv,QC⟩
theorem yX {w:World} {l:List PW} {pa:Option Addr} {pc:Nat} (h:dE w none l (.slice pa l.length pc)):∃ps:List (List Value),ps.length=l.length∧(∀i (h:i<l.length) (h':i<ps.length),ps[i].length=2∧DM l[i] ps[i])∧ps.flatten.length=l.length*2∧(∀u∈ps.flatten,u.oneCell'=true)∧(l.length=0∨∃a,pa=some a∧∀j u,ps.flatten[j]? =some u→w.cell? (a.add j)=some u):=by
 obtain⟨ps,h1,h2,h3,-,h5,h6⟩:=ei.cells (by omega) h DM (fun a b q h=>h.cells);exact⟨ps,h1,h2,h5,h3,h6⟩
theorem uR {B:Nat} {w w':World} {l:List PW} {v:Value} {ps:List (List Value)} {m:Nat} (hA:aV w w' B 46 2 (.slice none 0 0) v 0 m [] ps.flatten) (hm:m=l.length) (h1:ps.length=l.length) (h2:∀i (h:i<l.length) (h':i<ps.length),ps[i].length=2∧DM l[i] ps[i]):
  ∃bs,Dn tF 46 2 w' l v bs∧bs.Nodup∧∀b∈bs,w.heap.size≤b∧b<w'.heap.size:=
 Dn.whole hA hm h1 fun i h h'=>⟨(h2 i h h').1,(h2 i h h').2,rfl⟩
theorem RX (u:UT) (v:Value) (w:World) (ok:u.Ok) (hv:jR w true none u v):Calls Tryz.prog 11 #[v] w fun e w'=>∃v',e=.returned v'∧RU w.heap.size w' u v'∧Below w.heap.size w w':=by
  obtain⟨vg,vh,vf,rfl,hG,hH,hF⟩:=hv;obtain⟨ga,gc,rfl⟩:=hG.shape;obtain⟨ha,hc,rfl⟩:=hH.shape;obtain⟨fa,fc,rfl⟩:=hF.shape;obtain⟨gs,gs1,gs2,gs3,-,gs5,gs6⟩:=ei.cells (by omega) hG DN (fun a b q h=>h.cells);have NC:=af (And.intro gs1 gs2);obtain⟨mg,iY⟩:∃m,m=u.gs.length:=⟨_,rfl⟩;obtain⟨mh,j1⟩:∃m,m=u.hs.length:=⟨_,rfl⟩;obtain⟨mf,iw⟩:∃m,m=u.fs.length:=⟨_,rfl⟩;have hgb:mg≤100000000:=by rw[iY];exact ok.g
  have Kh:mh≤100000000:=by rw[j1];exact ok.h
  have hfb:mf≤100000000:=by rw[iw];exact ok.f
  rw[←iY] at gs5 gs6;have G3:=af gs3;have G5:=af gs5;have G6:=af gs6;have HH0:=af hH;have HF0:=af hF;rw[←j1] at HH0;rw[←iw] at HF0;rw[←iY,←j1,←iw];have xJ:=af iY;have xK:=af j1;have pO:=af iw;have OK:=af ok;clear gs1 gs2 gs3 gs5 gs6 hG hH hF iY j1 iw ok;have sJ:=af (CU.start w #[.slice ga mg gc,.slice ha mh hc,.slice fa mf fc]);go_enter Tryz.func11,Tryz.ntmps11;go_wp2_with (first
    | (at_builtin
       refine lR rfl _ _ 22 rfl (w.heap.size+3) 105 (.agg #[.int .i64 0,.string ⟨#[]⟩,.int .u8 0,.int .u32 0,.int .u32 0]) 5 40 mg Tryz.underlying22 (by kernel_rfl) rfl (by decide) ga gc gs.flatten G5.out (PF G6.out sJ.below) G3.out (by unfold maxLen;omega) (by omega) sJ.size rfl rfl ?_;intro v1 w1 Tz;obtain⟨a1,b1,rfl⟩:=rG Tz.own;rw[Nat.zero_add] at Tz⊢;have RY:=af Tz;have ky:=af ((sJ.whole Tz).put 0 (.slice a1 mg b1) (.slice a1 mg b1) (.slice none 0 0) (.slice none 0 0) rfl);obtain⟨⟨p0,p1,p2⟩,⟨q0,q1,q2⟩,q3⟩:=(sJ.whole Tz).cells;clear Tz))
  clear p0 p1 p2 q0 q1 q2 q3;obtain⟨bg,hg1,hg2,hg3⟩:=Dn.whole (El:=XE) RY.out xJ.out NC.1 (fun i h h'=>⟨(NC.2 i h h').1,(NC.2 i h h').2,rfl⟩);obtain⟨N1,hN1⟩:∃N1,N1=w1.heap.size:=⟨_,rfl⟩;obtain⟨wa,Ib⟩:∃wa,wa=w1.setCell ⟨w.heap.size+1+1,0,none⟩ (.slice a1 mg b1):=⟨_,rfl⟩;have hg3':∀b∈bg,w.heap.size+3≤b∧b<N1:=fun b q=>by
    have h1:=hg3 b q;have h2:=sJ.size;rw[hN1];omega
  have Zq:=af (And.intro hg1 (And.intro hg2 hg3'));have hL1:Hid (FT w w1 wa #[.slice ga mg gc,.slice ha mh hc,.slice fa mf fc] (.slice a1 mg b1) (.slice none 0 0) (.slice none 0 0) N1):=af (by
    rw[Ib];refine⟨ky.out,fun b h1 h2=>Below.heap_setCell _ _ _ _ (fun e=>by have:b=w.heap.size+1+1:=e;omega),by rw[size_set];omega,?_⟩;have h1:=sJ.size;have h2:=RY.grown.size;omega)
  rw[←Ib];clear hg1 hg2 hg3 hg3' RY ky sJ Ib hN1 G3 G5 G6 NC
  go_loopw [4] (fun i wr=>∃(k:Nat) (xh:Value),k≤mh∧i=.int .i64 k∧FT w w1 wr #[.slice ga mg gc,.slice ha mh hc,.slice fa mf fc] (.slice a1 mg b1) xh (.slice none 0 0) N1∧Gr Ph N1 101 5 wr (u.hs.take k) xh) (fun i _=>mh- (intOf i).toNat)
  case atStart=>exact⟨0,_,Nat.zero_le _,rfl,hL1.out,Gr.nil _ _ _ _ _⟩
  case round=>
    clear hL1;obtain⟨k,xh,hk,rfl,oM,hgr⟩:=hrel;have zB:=af oM;have RZ:=af hgr;obtain⟨⟨p0,p1,p2⟩,⟨q0,q1,q2⟩,q3⟩:=oM.cu.cells;have Fg:=oM.sz;have R5:=oM.lo;clear oM hgr;by_cases hlt:k<mh
    · obtain ⟨kb,ko,hH,hka⟩:∃kb ko,(∀i (h:i<u.hs.length),gM w true none u.hs[i] kb (ko+i*5))∧ha=some ⟨kb,ko,none⟩:=by
        obtain⟨ka,kb,ko,kc,he,hz,hi⟩:=HH0.out;cases he;exact⟨kb,ko,hi,by rcases hz with q|q;(·have:=xK.out;omega);(·exact q.1)⟩
      have gR:k<u.hs.length:=by have:=xK.out;omega
      obtain⟨pv,z0,z1,z2,z3,z4,pP⟩:=JM (hH k gR);have hpl:=OK.hp _ (List.getElem_mem (l:=u.hs) (n:=k) gR);have wU:=af (fA u.hs k gR);have bq:Hid ((u.hs.take k).length=k):=af (by simp;omega);subst hka;generalize u.hs[k]'gR=a at*;obtain⟨a0,JN,Fh,a3,a4⟩:=a;simp only[] at z0 z1 z2 z3 z4 pP hpl;obtain⟨pa,pc,rfl⟩:=pP.shape;have qY:=zB.cu.below;have y0:=ag z0 qY;have y1:=ag z1 qY;have y2:=ag z2 qY;have y3:=ag z3 qY;have y4:=ag z4 qY;have hbl:=World.block_lt_of_cell? w _ z2;simp only[] at hbl;obtain⟨ps,s1,s2,s3,s4,s5⟩:=yX pP;obtain⟨pl,BI⟩:∃pl,pl=Fh.length:=⟨_,rfl⟩;rw[←BI] at y2 hpl s3 s5 z2;obtain⟨W2,hW2⟩:∃W2,W2=wr.alloc (.cells #[.int .i64 a0,.string JN,.slice none 0 0,.int .u8 a3,.int .u32 a4] 101):=⟨_,rfl⟩;have aL:Hid (Bx W2 wr.heap.size #[.int .i64 a0,.string JN,.slice none 0 0,.int .u8 a3,.int .u32 a4] 101):=af (by rw[hW2];exact Bx.new _ _ _);have aQ:Hid (Below wr.heap.size wr W2):=af (by rw[hW2];exact(Below.refl _ _).alloc (Nat.le_refl _) _);have Ak:Hid (ps.flatten.length=pl*2∧(∀w':World,W2.grownBy w' (some wr.heap.size)→pl=0∨∃a,pa=some a∧∀j u,ps.flatten[j]? =some u→w'.cell? (a.add j)=some u)∧(∀u∈ps.flatten,u.oneCell'=true)):=af ⟨s3,fun w' hg=>by
        rcases s5 with h0|⟨ad,had,hc⟩
        ·exact .inl h0
        · refine .inr ⟨ad,had,fun j u hj=>?_⟩
          have h1:=ag (hc j u hj) (qY.trans (aQ.mono qY.size));have h2:=World.block_lt_of_cell? w _ (hc j u hj);rw[World.cell?_of_block (hg.block _ (by have:=qY.size;have:=aQ.size;omega) (fun e=>by have:=Option.some.inj e;have:=qY.size;omega))];exact h1,s4⟩
      have XF:Hid (∀w':World,W2.grownBy w' (some wr.heap.size)→w'.cell? ⟨w.heap.size,1,none⟩=some (.slice (some ⟨kb,ko,none⟩) mh hc)):=af (fun w' hg=>by
        have hw:=aQ.size;rw[World.cell?_of_block (hg.block _ (by show w.heap.size<_;omega) (fun e=>by have:w.heap.size=wr.heap.size:=Option.some.inj e;omega)),aQ.cell (by show w.heap.size<_;omega)];exact p1)
      have XG:Hid (∀w':World,W2.grownBy w' (some wr.heap.size)→w'.cell? ⟨kb,ko+k*5+2,none⟩=some (.slice pa pl pc)):=af (fun w' hg=>by
        have hw:=aQ.size;rw[World.cell?_of_block (hg.block _ (by show kb<_;omega) (fun e=>by have:kb=wr.heap.size:=Option.some.inj e;omega)),aQ.cell (by show kb<_;omega)];exact y2)
      have BJ:=af (And.intro s1 (And.intro s2 BI));have JD:=af hW2;have hWB:=af qY;clear z0 z1 z2 z3 z4 pP hH qY s1 s2 s3 s4 s5 BI hW2;go_wp2_with fail
      rw[←JD.out];clear y0 y1 y2 y3 y4 p0 p1 p2 q0 q1 q2 q3;have x2:=aL.cell 2;simp at x2;refine wp_region_held_drew (S:=fun w'=>W2.grownBy w' (some wr.heap.size)) (by kernel_rfl) (aJ W2 _) (fun hHeld=>?_);refine tk 0 ?_;refine tk 2 ?_;refine tk 3 ?_ (hy:=by intro w' hSw;have e1:=XF.out w' hSw;go_simp;(try with_reducible rfl));refine tk 4 ?_;refine tk 5 ?_;refine tk 6 ?_;refine tk 7 ?_ (hy:=by intro w' hSw;have e2:=XG.out w' hSw;go_simp;(try with_reducible rfl));refine tr 1 fun K hK=>?_
      go_simp;have cT:=hHeld;clear hHeld;refine hK.out _ _ cT (fun hHeld=>?_);clear hK K cT
      try simp only[bK,bL,bM,bN,bO]
      refine tr 8 fun K hK=>?_
      refine jh rfl _ _ 39 rfl W2.heap.size 46 (.agg #[.string ⟨#[]⟩,.int .u8 0]) 2 24 pl Tryz.underlying39 (by kernel_rfl) rfl (by decide) pa pc ps.flatten Ak.1 (Ak.2.1 W2.drew hHeld) Ak.2.2 (by unfold maxLen;omega) (by omega) (by simp) (by rfl) (by rfl) ?_;intro v3 w3 hA;obtain⟨va,vc,rfl⟩:=rG hA.own;rw[Nat.zero_add] at hA⊢;have Cp:=af (aO (aJ W2 none) hA.grown);have hA':=af hA;have cq:=af (aL.on Cp.out (by simp));have f3:=cq.free 2;have c3:=cq.cell 2;have l3:=cq.lt;simp at c3;have cT:=(mG Cp.out:W2.grownBy w3 (some wr.heap.size));clear hA hHeld;refine hK.out _ _ cT (fun hHeld=>?_);clear hK K cT
      try simp only[bK,bL,bM,bN,bO]
      refine tk 9 ?_;refine tr 10 fun K hK=>?_
      go_simp;have cT:=cW (off:=2) hHeld (.slice va pl vc);clear hHeld;refine hK.out _ _ cT (fun hHeld=>?_);clear hK K cT f3 c3 l3
      try simp only[bK,bL,bM,bN,bO]
      refine td ?_;have gl:=af (cq.set 2 (.slice va pl vc));have Jn:Hid (Below wr.heap.size wr w3):=af (aQ.trans ((kJ Cp.out).mono aQ.size));obtain⟨bp,Pj,RS,XH⟩:=uR hA'.out BJ.2.2 BJ.1 BJ.2.1;obtain⟨w4,hw4⟩:∃w4,w4=w3.setCell ⟨wr.heap.size,2,none⟩ (.slice va pl vc):=⟨_,rfl⟩;rw[←hw4] at gl;have FM:Hid (Below wr.heap.size wr w4):=af (by rw[hw4];exact Jn.setCell (Nat.le_refl _) _);have zA:Hid (Ph w4 ⟨a0,JN,Fh,a3,a4⟩ [.int .i64 a0,.string JN,.slice va pl vc,.int .u8 a3,.int .u32 a4] bp∧bp.Nodup∧∀b∈bp,wr.heap.size≤b∧b<w4.heap.size):=af (by
        have h1:=aL.lt;have h9:∀b∈bp,W2.heap.size≤b∧b<w3.heap.size:=fun b q=>by have:=XH b q;simpa using this
        rw[hw4,size_set];exact⟨⟨_,rfl,Pj.keep lg (Kb.set fun b q=>by have:=h9 b q;omega)⟩,RS,fun b q=>by have:=h9 b q;omega⟩)
      have XI:=af (zB.step (ah FM.out) (fun k e=>by cases e));rw[←hw4];clear hw4 aL cq hA' Cp hHeld Pj RS XH Jn aQ XF XG Ak JD x2;obtain⟨⟨p0,p1,p2⟩,⟨q0,q1,q2⟩,q3⟩:=XI.cu.cells;have x0:=gl.cell 0;have x1:=gl.cell 1;have x2:=gl.cell 2;have x3:=gl.cell 3;have x4:=gl.cell 4;simp at x0 x1 x2 x3 x4;obtain⟨cs,bs,hown,hE,JE,pE,oO⟩:=RZ.out;have hown2:=hown.kept (ah FM.out) (by cases xh.ownBlock<;>simp);rw[bq.out] at hown2;have HE:=af (And.intro hE (And.intro JE (And.intro pE oO)));have lQ:=af hown.lt;have hO:=af hown2;have hN4:=af (Nat.le_trans Fg FM.size);clear hown hown2 hE JE pE oO;go_wp2_with (first
              | (at_builtin
                 refine aG rfl _ _ 23 rfl N1 101 101 (.agg #[.int .i64 0,.string ⟨#[]⟩,.slice none 0 0,.int .u8 0,.int .u32 0]) 5 56 1 Tryz.underlying23 (by kernel_rfl) rfl (by decide) _ k _ [.int .i64 a0,.string JN,.slice va pl vc,.int .u8 a3,.int .u32 a4] (0,0) hO.out rfl (by simp[Value.oneCell']) (by unfold maxLen;omega) (by omega) hN4.out rfl rfl ?_;intro v5 w5 hA;obtain⟨JO,JP,rfl⟩:=rG hA.own;have hA':=af hA;have XJ:=af (XI.step hA.grown (fun q e=>(hO.lt q e).1));clear hA p0 p1 p2 q0 q1 q2 q3;obtain⟨⟨p0,p1,p2⟩,⟨q0,q1,q2⟩,q3⟩:=XJ.cu.cells))
      clear p0 p1 p2 q0 q1 q2 q3;have hGr5:Hid (Gr Ph N1 101 5 w5 (u.hs.take (k+1)) (.slice JO (k+1) JP)):=af (by
        rw[wU.out];exact Gr.push yU HE.1 HE.2.1 HE.2.2.1 HE.2.2.2 (ah FM.out) (by rw[bq.out];exact hA'.out) rfl zA.1 zA.2.1 zA.2.2 lQ.out Fg)
      have R6:=af (XJ.put 1 (.slice JO (k+1) JP) (.slice a1 mg b1) (.slice JO (k+1) JP) (.slice none 0 0) rfl);have hGr6:=af (hGr5.on yU (cW (bR w5 _) (pb:=w.heap.size+1+1) (off:=1) (.slice JO (k+1) JP)) (fun q e=>by cases e;omega))
      go_roundw
      case rel=>exact⟨k+1,(.slice JO (k+1) JP),by omega,by go_num,R6.out,hGr6.out⟩
      case measure=>simp[intOf];omega
    · obtain rfl:k=mh:=by omega
      have hall:u.hs.take k=u.hs:=List.take_of_length_le (by have:=xK.out;omega);have hgr:=RZ.out;rw[hall] at hgr;obtain⟨bh,h1,h2,h3⟩:=hgr.done;obtain⟨xa,xc,hxe⟩:=h1.shape;rw[←xK.out] at hxe;subst hxe;obtain⟨N2,hN2⟩:∃N2,N2=wr.heap.size:=⟨_,rfl⟩;have FU:=af (And.intro (Zq.1.keep Db (zB.kb Zq.2.2)) Zq.2);have NF:Hid (Dn Ph 101 5 wr u.hs (.slice xa k xc) bh∧bh.Nodup∧∀b∈bh,N1≤b∧b<N2):=af ⟨h1,h2,fun b q=>by rw[hN2];exact h3 b q⟩;have hL2:Hid (FT w wr wr #[.slice ga mg gc,.slice ha k hc,.slice fa mf fc] (.slice a1 mg b1) (.slice xa k xc) (.slice none 0 0) N2):=af ⟨zB.cu,fun b _ _=>rfl,by omega,by omega⟩;have hN12:=af (show N1≤N2 by omega);have hNlo:=af R5;obtain⟨wB,hwB⟩:∃wB,wB=wr:=⟨_,rfl⟩;rw[←hwB] at FU NF hL2;clear hgr hall h1 h2 h3 RZ zB Zq hN2 HH0 Fg R5;go_wp2_with fail
      rw[←hwB];clear hwB p0 p1 p2 q0 q1 q2 q3
      go_loopw [6] (fun i wr=>∃(j:Nat) (xf:Value),j≤mf∧i=.int .i64 j∧FT w wB wr #[.slice ga mg gc,.slice ha k hc,.slice fa mf fc] (.slice a1 mg b1) (.slice xa k xc) xf N2∧Gr RT N2 43 6 wr (u.fs.take j) xf) (fun i _=>mf- (intOf i).toNat)
      case atStart=>exact⟨0,_,Nat.zero_le _,rfl,hL2.out,Gr.nil _ _ _ _ _⟩
      case round=>
        clear hL2;obtain⟨j,xf,hj,rfl,oM,hgr⟩:=hrel;have zB:=af oM;have RZ:=af hgr;obtain⟨⟨p0,p1,p2⟩,⟨q0,q1,q2⟩,q3⟩:=oM.cu.cells;have Fg:=oM.sz;have R5:=oM.lo;clear oM hgr;by_cases hlt:j<mf
        · obtain⟨kb,ko,hF,hka⟩:∃kb ko,(∀i (h:i<u.fs.length),gN w true none u.fs[i] kb (ko+i*6))∧fa=some ⟨kb,ko,none⟩:=by
            obtain⟨ka,kb,ko,kc,he,hz,hi⟩:=HF0.out;cases he;exact⟨kb,ko,hi,by rcases hz with q|q;(·have:=pO.out;omega);(·exact q.1)⟩
          have gR:j<u.fs.length:=by have:=pO.out;omega
          obtain⟨pv,bv,z0,z1,z2,z3,z4,z5,pP,tJ⟩:=yV (hF j gR);have hpl:=OK.fp _ (List.getElem_mem (l:=u.fs) (n:=j) gR);have tD:=OK.fb _ (List.getElem_mem (l:=u.fs) (n:=j) gR);have wU:=af (fA u.fs j gR);have bq:Hid ((u.fs.take j).length=j):=af (by simp;omega);subst hka;generalize u.fs[j]'gR=a at*;obtain⟨a0,JN,Fh,a3,a4,NG⟩:=a;simp only[] at z0 z1 z2 z3 z4 z5 pP tJ hpl tD;obtain⟨pa,pc,rfl⟩:=pP.shape;obtain⟨ba,bc,rfl⟩:=tJ.ay;have qY:=zB.cu.below;have y0:=ag z0 qY;have y1:=ag z1 qY;have y2:=ag z2 qY;have y3:=ag z3 qY;have y4:=ag z4 qY;have y5:=ag z5 qY;have hbl:=World.block_lt_of_cell? w _ z2;simp only[] at hbl;obtain⟨ps,s1,s2,s3,s4,s5⟩:=yX pP;obtain⟨pl,BI⟩:∃pl,pl=Fh.length:=⟨_,rfl⟩;rw[←BI] at y2 hpl s3 s5 z2;obtain⟨W2,hW2⟩:∃W2,W2=wr.alloc (.cells #[.int .i64 a0,.string JN,.slice none 0 0,.int .u8 a3,.bool a4,.slice ba NG.len bc] 43):=⟨_,rfl⟩;have aL:Hid (Bx W2 wr.heap.size #[.int .i64 a0,.string JN,.slice none 0 0,.int .u8 a3,.bool a4,.slice ba NG.len bc] 43):=af (by rw[hW2];exact Bx.new _ _ _);have aQ:Hid (Below wr.heap.size wr W2):=af (by rw[hW2];exact(Below.refl _ _).alloc (Nat.le_refl _) _);have Ak:Hid (ps.flatten.length=pl*2∧(∀w':World,W2.grownBy w' (some wr.heap.size)→pl=0∨∃a,pa=some a∧∀j u,ps.flatten[j]? =some u→w'.cell? (a.add j)=some u)∧(∀u∈ps.flatten,u.oneCell'=true)):=af ⟨s3,fun w' hg=>by
            rcases s5 with h0|⟨ad,had,hc⟩
            ·exact .inl h0
            · refine .inr ⟨ad,had,fun j u hj=>?_⟩
              have h1:=ag (hc j u hj) (qY.trans (aQ.mono qY.size));have h2:=World.block_lt_of_cell? w _ (hc j u hj);rw[World.cell?_of_block (hg.block _ (by have:=qY.size;have:=aQ.size;omega) (fun e=>by have:=Option.some.inj e;have:=qY.size;omega))];exact h1,s4⟩
          have XF:Hid (∀w':World,W2.grownBy w' (some wr.heap.size)→w'.cell? ⟨w.heap.size,2,none⟩=some (.slice (some ⟨kb,ko,none⟩) mf fc)):=af (fun w' hg=>by
            have hw:=aQ.size;rw[World.cell?_of_block (hg.block _ (by show w.heap.size<_;omega) (fun e=>by have:w.heap.size=wr.heap.size:=Option.some.inj e;omega)),aQ.cell (by show w.heap.size<_;omega)];exact p2)
          have XG:Hid (∀w':World,W2.grownBy w' (some wr.heap.size)→w'.cell? ⟨kb,ko+j*6+2,none⟩=some (.slice pa pl pc)):=af (fun w' hg=>by
            have hw:=aQ.size;rw[World.cell?_of_block (hg.block _ (by show kb<_;omega) (fun e=>by have:kb=wr.heap.size:=Option.some.inj e;omega)),aQ.cell (by show kb<_;omega)];exact y2)
          have BJ:=af (And.intro s1 (And.intro s2 BI));have JD:=af hW2;have hWB:=af qY;have Eb:=af (And.intro tJ tD);clear z0 z1 z2 z3 z4 z5 pP tJ tD hF qY s1 s2 s3 s4 s5 BI hW2;go_wp2_with fail
          rw[←JD.out];clear y0 y1 y2 y3 y4 y5 p0 p1 p2 q0 q1 q2 q3;have x2:=aL.cell 2;simp at x2;refine wp_region_held_drew (S:=fun w'=>W2.grownBy w' (some wr.heap.size)) (by kernel_rfl) (aJ W2 _) (fun hHeld=>?_);refine tk 0 ?_;refine tk 2 ?_;refine tk 3 ?_ (hy:=by intro w' hSw;have e1:=XF.out w' hSw;go_simp;(try with_reducible rfl));refine tk 4 ?_;refine tk 5 ?_;refine tk 6 ?_;refine tk 7 ?_ (hy:=by intro w' hSw;have e2:=XG.out w' hSw;go_simp;(try with_reducible rfl));refine tr 1 fun K hK=>?_
          go_simp;have cT:=hHeld;clear hHeld;refine hK.out _ _ cT (fun hHeld=>?_);clear hK K cT
          try simp only[bK,bL,bM,bN,bO]
          refine tr 8 fun K hK=>?_
          refine jh rfl _ _ 39 rfl W2.heap.size 46 (.agg #[.string ⟨#[]⟩,.int .u8 0]) 2 24 pl Tryz.underlying39 (by kernel_rfl) rfl (by decide) pa pc ps.flatten Ak.1 (Ak.2.1 W2.drew hHeld) Ak.2.2 (by unfold maxLen;omega) (by omega) (by simp) (by rfl) (by rfl) ?_;intro v3 w3 hA;obtain⟨va,vc,rfl⟩:=rG hA.own;rw[Nat.zero_add] at hA⊢;have Cp:=af (aO (aJ W2 none) hA.grown);have hA':=af hA;have cq:=af (aL.on Cp.out (by simp));have f3:=cq.free 2;have c3:=cq.cell 2;have l3:=cq.lt;simp at c3;have cT:=(mG Cp.out:W2.grownBy w3 (some wr.heap.size));clear hA hHeld;refine hK.out _ _ cT (fun hHeld=>?_);clear hK K cT
          try simp only[bK,bL,bM,bN,bO]
          refine tk 9 ?_;refine tr 10 fun K hK=>?_
          go_simp;have cT:=cW (off:=2) hHeld (.slice va pl vc);clear hHeld;refine hK.out _ _ cT (fun hHeld=>?_);clear hK K cT f3 c3 l3
          try simp only[bK,bL,bM,bN,bO]
          refine td ?_;have gl:=af (cq.set 2 (.slice va pl vc));have Jn:Hid (Below wr.heap.size wr w3):=af (aQ.trans ((kJ Cp.out).mono aQ.size));obtain⟨bp,Pj,RS,XH⟩:=uR hA'.out BJ.2.2 BJ.1 BJ.2.1;obtain⟨w4,hw4⟩:∃w4,w4=w3.setCell ⟨wr.heap.size,2,none⟩ (.slice va pl vc):=⟨_,rfl⟩;rw[←hw4] at gl;have FM:Hid (Below wr.heap.size wr w4):=af (by rw[hw4];exact Jn.setCell (Nat.le_refl _) _);have TC:Hid (Dn tF 46 2 w4 Fh (.slice va pl vc) bp∧bp.Nodup∧∀b∈bp,wr.heap.size+1≤b∧b<w4.heap.size):=af (by
            have h1:=aL.lt;have h9:∀b∈bp,W2.heap.size≤b∧b<w3.heap.size:=fun b q=>by have:=XH b q;simpa using this
            rw[hw4,size_set];exact⟨Pj.keep lg (Kb.set fun b q=>by have:=h9 b q;omega),RS,fun b q=>by have:=h9 b q;omega⟩)
          have zZ:=af (show wr.heap.size+1≤w4.heap.size by have:=gl.lt;omega);have au:=af (RP _ NG (.slice ba NG.len bc) w4 (Nat.lt_succ_self _) Eb.2 (Eb.1.mono (hWB.trans (FM.mono hWB.size))));rw[←hw4];clear hw4 aL cq hA' Cp hHeld Pj RS XH Jn aQ XF XG Ak JD x2;have x5:=gl.cell 5;simp at x5;go_wp2_with fail
          refine au.mono ?_;rintro e w5 ⟨vb,bb,rfl,hb1,hb2,hb3,hb4⟩;obtain⟨ua,uc,rfl⟩:=hb1.shape;have o6:=af (gl.on (ah hb4) (by simp));have Tx:Hid (Below wr.heap.size wr w5):=af (FM.trans (hb4.mono (by have:=zZ.out;omega)));have wV:=af (And.intro (TC.1.keep lg (Kb.below hb4 fun b q=>(TC.2.2 b q).2)) (And.intro hb1 (And.intro hb2 (And.intro hb3 hb4.size))));have f5:=o6.free 5;have l5:=o6.lt;have x0:=o6.cell 0;have x1:=o6.cell 1;have x2:=o6.cell 2;have x3:=o6.cell 3;have x4:=o6.cell 4;have x5:=o6.cell 5;simp at x0 x1 x2 x3 x4 x5;clear hb1 hb2 hb3 hb4 au gl;obtain⟨w6,zm⟩:∃w6,w6=w5.setCell ⟨wr.heap.size,5,none⟩ (.slice ua NG.len uc):=⟨_,rfl⟩;have RR:Hid (Below wr.heap.size wr w6):=af (by rw[zm];exact Tx.setCell (Nat.le_refl _) _);have zA:Hid (RT w6 ⟨a0,JN,Fh,a3,a4,NG⟩ [.int .i64 a0,.string JN,.slice va pl vc,.int .u8 a3,.bool a4,.slice ua NG.len uc] (bp++bb)∧(bp++bb).Nodup∧∀b∈bp++bb,wr.heap.size≤b∧b<w6.heap.size):=af (by
            have h4:=zZ.out;have h5:=wV.2.2.2.2;rw[zm,size_set];refine⟨⟨_,_,bp,bb,rfl,rfl,wV.1.keep lg (Kb.set fun b q=>by have:=TC.2.2 b q;omega),wV.2.1.keep (Kb.set fun b q=>by have:=wV.2.2.2.1 b q;omega)⟩,?_,fun b q=>?_⟩
            · rw[List.nodup_append]
              refine⟨TC.2.1,wV.2.2.1,fun x hx y hy e=>?_⟩;have:=TC.2.2 x hx;have:=wV.2.2.2.1 y hy;omega
            · rcases List.mem_append.1 q with q|q
              · have:=TC.2.2 b q
                omega
              · have:=wV.2.2.2.1 b q
                omega)
          have R6:=af (zB.step (ah RR.out) (fun k e=>by cases e));obtain⟨⟨p0,p1,p2⟩,⟨q0,q1,q2⟩,q3⟩:=(zB.step (ah Tx.out) (fun k e=>by cases e)).cu.cells;obtain⟨cs,bs,hown,hE,JE,pE,oO⟩:=RZ.out;have hown2:=hown.kept (ah RR.out) (by cases xf.ownBlock<;>simp);rw[bq.out] at hown2;have HE:=af (And.intro hE (And.intro JE (And.intro pE oO)));have lQ:=af hown.lt;have hO:=af hown2;rw[zm] at hO;have HW6:=af zm;have hN6:=af (show N2≤(w5.setCell ⟨wr.heap.size,5,none⟩ (.slice ua NG.len uc)).heap.size by rw[←zm];exact Nat.le_trans Fg RR.size);clear hown hown2 hE JE pE oO zm wV o6;go_wp2_with (first
            | (at_builtin
               refine aG rfl _ _ 24 rfl N2 43 43 (.agg #[.int .i64 0,.string ⟨#[]⟩,.slice none 0 0,.int .u8 0,.bool false,.slice none 0 0]) 6 80 1 Tryz.underlying24 (by kernel_rfl) rfl (by decide) _ j _ [.int .i64 a0,.string JN,.slice va pl vc,.int .u8 a3,.bool a4,.slice ua NG.len uc] (0,0) hO.out rfl (by simp[Value.oneCell']) (by unfold maxLen;omega) (by omega) hN6.out rfl (by rw[size_set];rfl) ?_;intro v7 w7 hA;rw[←HW6.out] at hA hO;obtain⟨JO,JP,rfl⟩:=rG hA.own;have hA':=af hA;have XK:=af (R6.step hA.grown (fun q e=>(hO.lt q e).1));clear hA p0 p1 p2 q0 q1 q2 q3;obtain⟨⟨p0,p1,p2⟩,⟨q0,q1,q2⟩,q3⟩:=XK.cu.cells))
          clear p0 p1 p2 q0 q1 q2 q3;have hGr7:Hid (Gr RT N2 43 6 w7 (u.fs.take (j+1)) (.slice JO (j+1) JP)):=af (by
            rw[wU.out];exact Gr.push uQ HE.1 HE.2.1 HE.2.2.1 HE.2.2.2 (ah RR.out) (by rw[bq.out];exact hA'.out) rfl zA.1 zA.2.1 zA.2.2 lQ.out Fg)
          have hCL8:=af (XK.put 2 (.slice JO (j+1) JP) (.slice a1 mg b1) (.slice xa k xc) (.slice JO (j+1) JP) rfl);have hGr8:=af (hGr7.on uQ (cW (bR w7 _) (pb:=w.heap.size+1+1) (off:=2) (.slice JO (j+1) JP)) (fun q e=>by cases e;omega))
          go_roundw
          case rel=>exact⟨j+1,(.slice JO (j+1) JP),by omega,by go_num,hCL8.out,hGr8.out⟩
          case measure=>simp[intOf];omega
        · obtain rfl:j=mf:=by omega
          have hall:u.fs.take j=u.fs:=List.take_of_length_le (by have:=pO.out;omega);have hgr:=RZ.out;rw[hall] at hgr;obtain⟨bf,h1,h2,h3⟩:=hgr.done;obtain⟨ya,yc,hye⟩:=h1.shape;rw[←pO.out] at hye;subst hye;have hFin:Hid (∀w',wr.grownBy w' (some (w.heap.size+1))→RU w.heap.size w' u (.agg #[.slice a1 mg b1,.slice xa k xc,.slice ya j yc])):=af (fun w' hg=>by
            have n1:=hN12.out;have n0:=hNlo.out;have kg:Kb bg wB w':=(zB.kb fun b q=>by have:=FU.2.2 b q;omega).trans (Kb.grown hg fun b q=>⟨by have:=FU.2.2 b q;omega,fun e=>by have:=FU.2.2 b q;have:=Option.some.inj e;omega⟩);have kh:Kb bh wB w':=(zB.kb fun b q=>by have:=NF.2.2 b q;omega).trans (Kb.grown hg fun b q=>⟨by have:=NF.2.2 b q;omega,fun e=>by have:=NF.2.2 b q;have:=Option.some.inj e;omega⟩);have kf:Kb bf wr w':=Kb.grown hg fun b q=>⟨(h3 b q).2,fun e=>by have:=h3 b q;have:=Option.some.inj e;omega⟩
            have hsz:=hg.size;refine⟨_,_,_,bg,bh,bf,rfl,FU.1.keep Db kg,NF.1.keep yU kh,h1.keep uQ kf,?_,fun b q=>?_⟩
            · rw [List.nodup_append,List.nodup_append]
              refine⟨FU.2.1,⟨NF.2.1,h2,fun x hx y hy e=>?_⟩,fun x hx y hy e=>?_⟩
              · have:=NF.2.2 x hx
                have:=h3 y hy;omega
              · have:=FU.2.2 x hx
                rcases List.mem_append.1 hy with hy|hy
                · have:=NF.2.2 y hy
                  omega
                · have:=h3 y hy
                  omega
            · rcases List.mem_append.1 q with q|q
              · have:=FU.2.2 b q
                omega
              rcases List.mem_append.1 q with q|q
              · have:=NF.2.2 b q
                omega
              · have:=h3 b q
                omega)
          have r0:=zB.cu.r.cell 0;have r1:=zB.cu.r.cell 1;have r2:=zB.cu.r.cell 2;have r3:=zB.cu.r.free;simp at r0 r1 r2;have hBl:=af zB.cu.below;clear h1 h2 h3 hgr hall RZ;go_wp2_with fail
          refine bodyPost_ret (v:=.agg #[.slice a1 mg b1,.slice xa k xc,.slice ya j yc]) (by simp[results,Tryz.results11,go_sem,r0,r1,r2]) rfl ⟨_,rfl,hFin.out _ ?_,?_⟩
          ·exact cW (cW (cW (bR _ _) _) _) _
          ·exact((hBl.setCell (by simp) _).setCell (by simp) _).setCell (by simp) _
end
end Go.Proofs.YtlabadkfkbenoaaGreatDoor
