/- Walks and plain laws, merged: SenG SenH SenI SenJ SenK SenL. No condition. -/
import Derived.Outline
import Derived.Deep.RegionHeld3
import Derived.Test.YtlabadkfkbenoaaGreatDoorKp01
import Derived.Test.YtlabadkfkbenoaaGreatDoorKp06
import Derived.Carry
import Derived.Defers
import Derived.Recover
import Derived.Test.YtlabadkfkbenoaaGreatDoorKp02
namespace Go.Proofs.YtlabadkfkbenoaaGreatDoor
open Go.RowKit
set_option linter.unusedVariables false
set_option linter.unusedSimpArgs false
set_option maxRecDepth 100000
set_option maxHeartbeats 64000000
section
open Go.Shelf
def dN:aH→Nat
 | .nil=>0
 | .cons h _ b e r=>(if h.kind=1 then 1 else 0)+ (dN b+dN e)+dN r
theorem iD:∀l:aH,dN l≤l.sz
 | .nil=>Nat.le_refl _
 | .cons h x b e r=>by
  have h1:=iD b;have h2:=iD e;have h3:=iD r;simp only[dN,aH.sz];split<;>omega
def jH:aH→Bool
 | .nil=>false
 | .cons h _ b e r=>(h.kind==8||(h.kind==4&&(jH b&&jH e)))||jH r
theorem LB:∀(n:Nat) (l:aH) (v:Value) (w:World),l.sz<n→l.sz≤100000000→dR w false none l v→
  Calls Tryz.prog 108 #[v] w fun e w'=>e=.returned (.int .i64 ((dN l:Nat):Int))∧Below w.heap.size w w':=by
 intro n
 induction n with
 |zero=>intro l v w hn;omega
 | succ n ih=>
  have IH:=af ih;clear ih;intro l v w hn hs hv;obtain⟨ka,b,off,c,rfl,hka,fz⟩:=hv;have hl:=l.bU;have hh:dN l≤l.sz:=iD l;have hS:=af (And.intro hn hs);have hI:=af fz;have hkb:l.len≤100000000:=by omega
  have Kh:dN l≤100000000:=by omega
  obtain⟨len,hlen⟩:∃m,m=l.len:=⟨_,rfl⟩;obtain⟨H,hH⟩:∃m,m=dN l:=⟨_,rfl⟩;rw[←hlen] at hka hl hkb⊢;rw[←hH] at Kh⊢;have bq:=af hlen;have GR:=af hH;clear hn hs fz hlen hH hh hl;go_enter Tryz.func108,Tryz.ntmps108;go_wp2_with fail
  go_loopw [3,8] (fun z i wr=>∃(k m:Nat) (r:aH),z=.int .i64 m∧k+r.len=len∧i=.int .i64 k∧bC w false none r b off k∧r.sz≤l.sz∧H=m+dN r∧Below w.heap.size w wr) (fun _ i _=>len- (intOf i).toNat)
  case atStart=>exact⟨0,0,l,rfl,by have:=bq.out;omega,rfl,hI.out,Nat.le_refl _,by rw[GR.out];simp,Below.refl _ _⟩
  case round=>
   clear hI;obtain⟨k,m,r,rfl,hk,rfl,hr,hz,hm,hb⟩:=hrel;obtain⟨wo,rfl⟩:∃wo:World,wo=wr:=⟨_,rfl⟩;have hB:=af hb;have hM:=af hm;cases r with
   |nil=>
    simp only[aH.len,Nat.add_zero] at hk;subst k;have dX:Hid (H=m):=af (by rw[hm];simp[dN]);have Ki:m≤100000000:=by have:=dX.out;omega
    clear hr hz hm hb;go_wp2_with fail
    go_ret;exact⟨fy (by rw[dX.out]),hB.out⟩
   | cons h x body els rest=>
    simp only[aH.len,aH.sz] at hk hz;obtain⟨⟨⟨t,y0,_⟩,y1,y2,y3,y4⟩,⟨vx,y5,hx⟩,⟨vb,y6,lS⟩,⟨ve,y7,he⟩,hR⟩:=hr.cons;have x0:=ag y0 hb;have x1:=ag y1 hb;have x2:=ag y2 hb;have x3:=ag y3 hb;have x4:=ag y4 hb;have x5:=ag y5 hb;have x6:=ag y6 hb;have x7:=ag y7 hb;have oB:k<len:=by omega
    have bG:ka=some ⟨b,off,none⟩:=by rcases hka with q|q;(·omega);(·exact q.1)
    subst bG;obtain⟨xa,xc,rfl⟩:=hx.ay;obtain⟨ba,bc,rfl⟩:=lS.ay;obtain⟨ea,ec,rfl⟩:=he.ay;obtain⟨xb,xo,rH,nH⟩:∃xb xo,(x.len=0∨xa=some ⟨xb,xo,none⟩)∧bw w false none x xb xo 0:=by
     obtain⟨PE,kb,aD,aK,hv,y2,y3⟩:=hx;cases hv;exact⟨kb,aD,y2.imp And.left And.left,y3⟩
    have zD:=x.bU;have xH:x.len≤100000000:=by have:=hS.out;omega
    obtain⟨a0,a1,a2,a3,a4⟩:=h;have Kg:=af nH;have eT:=af hz;have fE:=af hR;have hXv:=af hx;have hcb:=af (fun(w2:World) (h2:Below w.heap.size w w2)=>IH.out body (.slice ba body.len bc) w2 (by have:=hS.out;have:=eT.out;omega) (by have:=hS.out;have:=eT.out;omega) (lS.mono h2));have hce:=af (fun(w2:World) (h2:Below w.heap.size w w2)=>IH.out els (.slice ea els.len ec) w2 (by have:=hS.out;have:=eT.out;omega) (by have:=hS.out;have:=eT.out;omega) (he.mono h2));have oO:dN body≤body.sz:=iD body;have S8:dN els≤els.sz:=iD els;have DY:dN body≤100000000:=by have:=hS.out;omega
    have DZ:dN els≤100000000:=by have:=hS.out;omega
    obtain⟨Hb,Cm⟩:∃m,m=dN body:=⟨_,rfl⟩;obtain⟨He,tQ⟩:∃m,m=dN els:=⟨_,rfl⟩;rw[←Cm] at oO DY;rw[←tQ] at S8 DZ;have P0:=af Cm;have P1:=af tQ;rw[←Cm] at hcb;rw[←tQ] at hce;have Ki:m+ (1+Hb+He)≤100000001:=by have:=hM.out;simp only[dN] at this;rw[←P0.out,←P1.out] at this;omega
    have hS1:=af (gA.new hb #[.int .i64 t,.int .u8 a1,.string a2,.int .u8 a3,.string a4,.slice xa x.len xc,.slice ba body.len bc,.slice ea els.len ec] 109);clear hka hr hx lS he hR hb y0 y1 y2 y3 y4 y5 y6 y7 nH zD hm hz Cm tQ rH xH Kg hXv;by_cases dH:a1=1
    ·subst dH;go_wp2_with fail
     clear x0 x1 x2 x3 x4 x5 x6 x7;refine wp_region_held_drew (S:=(gA w wo.heap.size #[.int .i64 t,.int .u8 1,.string a2,.int .u8 a3,.string a4,.slice xa x.len xc,.slice ba body.len bc,.slice ea els.len ec] 109)) (by kernel_rfl) hS1.drew (fun hHeld=>?_);clear hS1;refine tk 0 ?_;refine tk 1 ?_;refine tk 2 ?_ (hy:=by intro w' hSw;have c6:=hSw.box.cell 6;have c7:=hSw.box.cell 7;simp at c6 c7;go_simp;(try with_reducible rfl));refine tk 4 ?_;refine tk 5 ?_ (hy:=by intro w' hSw;have c6:=hSw.box.cell 6;have c7:=hSw.box.cell 7;simp at c6 c7;go_simp;(try with_reducible rfl));refine tr 3 fun K hK=>?_
     go_simp;go_at_call 108;refine(hcb.out _ hHeld.below).mono ?_;rintro e w2 ⟨rfl,hb2⟩;have hk:=hHeld.on hb2;clear hHeld hb2;go_wp2_with fail
     refine hK.out _ _ hk (fun hHeld=>?_);clear hK K hk
     try simp only[bK,bL,bM,bN,bO]
     refine tr 6 fun K hK=>?_
     go_simp;go_at_call 108;refine(hce.out _ hHeld.below).mono ?_;rintro e w2 ⟨rfl,hb2⟩;have hk:=hHeld.on hb2;clear hHeld hb2;go_wp2_with fail
     refine hK.out _ _ hk (fun hHeld=>?_);clear hK K hk
     try simp only[bK,bL,bM,bN,bO]
     refine tk 7 ?_;refine tk 8 ?_;refine tk 9 ?_;refine td ?_;have hX:=af hHeld;clear hHeld;rw[show IntKind.i64.wrap ((Hb:Int)+ (He:Int))=(Hb:Int)+ (He:Int) from IntWalk.i64_in _ (by omega),show IntKind.i64.wrap (((m:Int)+1)+ ((Hb:Int)+ (He:Int)))=((m:Int)+1)+ ((Hb:Int)+ (He:Int)) from IntWalk.i64_in _ (by omega)];go_wp2_with fail
     go_roundw
     case rel=>exact⟨k+1,m+1+ (Hb+He),rest,by first|rfl|go_num|(congr 1;omega),by omega,by go_num,fE.out,by have:=eT.out;omega,by rw[hM.out];simp only[dN];rw[P0.out,P1.out];simp;omega,hX.below⟩
     case measure=>simp[intOf];omega
    ·go_wp2_with fail
     clear x0 x1 x2 x3 x4 x5 x6 x7;refine wp_region_held_drew (S:=(gA w wo.heap.size #[.int .i64 t,.int .u8 a1,.string a2,.int .u8 a3,.string a4,.slice xa x.len xc,.slice ba body.len bc,.slice ea els.len ec] 109)) (by kernel_rfl) hS1.drew (fun hHeld=>?_);clear hS1;refine tk 0 ?_;refine tk 1 ?_;refine tk 2 ?_ (hy:=by intro w' hSw;have c6:=hSw.box.cell 6;have c7:=hSw.box.cell 7;simp at c6 c7;go_simp;(try with_reducible rfl));refine tk 4 ?_;refine tk 5 ?_ (hy:=by intro w' hSw;have c6:=hSw.box.cell 6;have c7:=hSw.box.cell 7;simp at c6 c7;go_simp;(try with_reducible rfl));refine tr 3 fun K hK=>?_
     go_simp;go_at_call 108;refine(hcb.out _ hHeld.below).mono ?_;rintro e w2 ⟨rfl,hb2⟩;have hk:=hHeld.on hb2;clear hHeld hb2;go_wp2_with fail
     refine hK.out _ _ hk (fun hHeld=>?_);clear hK K hk
     try simp only[bK,bL,bM,bN,bO]
     refine tr 6 fun K hK=>?_
     go_simp;go_at_call 108;refine(hce.out _ hHeld.below).mono ?_;rintro e w2 ⟨rfl,hb2⟩;have hk:=hHeld.on hb2;clear hHeld hb2;go_wp2_with fail
     refine hK.out _ _ hk (fun hHeld=>?_);clear hK K hk
     try simp only[bK,bL,bM,bN,bO]
     refine tk 7 ?_;refine tk 8 ?_;refine tk 9 ?_;refine td ?_;have hX:=af hHeld;clear hHeld;rw[show IntKind.i64.wrap ((Hb:Int)+ (He:Int))=(Hb:Int)+ (He:Int) from IntWalk.i64_in _ (by omega),show IntKind.i64.wrap ((m:Int)+ ((Hb:Int)+ (He:Int)))=(m:Int)+ ((Hb:Int)+ (He:Int)) from IntWalk.i64_in _ (by omega)];go_wp2_with fail
     go_roundw
     case rel=>exact⟨k+1,m+ (Hb+He),rest,by first|rfl|go_num|(congr 1;omega),by omega,by go_num,fE.out,by have:=eT.out;omega,by rw[hM.out];simp only[dN];rw[P0.out,P1.out];simp[dH];omega,hX.below⟩
     case measure=>simp[intOf];omega
theorem Ae:∀(n:Nat) (l:aH) (v:Value) (w:World),l.sz<n→l.sz≤100000000→dR w false none l v→
  Calls Tryz.prog 112 #[v] w fun e w'=>e=.returned (.bool (jH l))∧Below w.heap.size w w':=by
 intro n
 induction n with
 |zero=>intro l v w hn;omega
 | succ n ih=>
  have IH:=af ih;clear ih;intro l v w hn hs hv;obtain⟨ka,b,off,c,rfl,hka,fz⟩:=hv;have hl:=l.bU;have hS:=af (And.intro hn hs);have hI:=af fz;have hkb:l.len≤100000000:=by omega
  obtain⟨len,hlen⟩:∃m,m=l.len:=⟨_,rfl⟩;obtain⟨H,hH⟩:∃m,m=jH l:=⟨_,rfl⟩;rw[←hlen] at hka hl hkb⊢;rw[←hH];have bq:=af hlen;have GR:=af hH;clear hn hs fz hlen hH hl;go_enter Tryz.func112,Tryz.ntmps112;go_wp2_with fail
  go_loopw [7] (fun i wr=>∃(k:Nat) (r:aH),k+r.len=len∧i=.int .i64 k∧bC w false none r b off k∧r.sz≤l.sz∧H=jH r∧Below w.heap.size w wr) (fun i _=>len- (intOf i).toNat)
  case atStart=>exact⟨0,l,by have:=bq.out;omega,rfl,hI.out,Nat.le_refl _,GR.out,Below.refl _ _⟩
  case round=>
   clear hI;obtain⟨k,r,hk,rfl,hr,hz,hm,hb⟩:=hrel;obtain⟨wo,rfl⟩:∃wo:World,wo=wr:=⟨_,rfl⟩;have hB:=af hb;have hM:=af hm;cases r with
   |nil=>
    simp only[aH.len,Nat.add_zero] at hk;have dX:Hid (H=false):=af (by rw[hm];simp[jH]);clear hr hz hm hb;obtain rfl:len=k:=hk.symm;go_wp2_with fail
    go_ret;exact⟨aq (by rw[dX.out]),hB.out⟩
   | cons h x body els rest=>
    simp only[aH.len,aH.sz] at hk hz;obtain⟨⟨⟨t,y0,_⟩,y1,y2,y3,y4⟩,⟨vx,y5,hx⟩,⟨vb,y6,lS⟩,⟨ve,y7,he⟩,hR⟩:=hr.cons;have x0:=ag y0 hb;have x1:=ag y1 hb;have x2:=ag y2 hb;have x3:=ag y3 hb;have x4:=ag y4 hb;have x5:=ag y5 hb;have x6:=ag y6 hb;have x7:=ag y7 hb;have oB:k<len:=by omega
    have bG:ka=some ⟨b,off,none⟩:=by rcases hka with q|q;(·omega);(·exact q.1)
    subst bG;obtain⟨xa,xc,rfl⟩:=hx.ay;obtain⟨ba,bc,rfl⟩:=lS.ay;obtain⟨ea,ec,rfl⟩:=he.ay;obtain⟨a0,a1,a2,a3,a4⟩:=h;have eT:=af hz;have fE:=af hR;have hcb:=af (fun(w2:World) (h2:Below w.heap.size w w2)=>IH.out body (.slice ba body.len bc) w2 (by have:=hS.out;have:=eT.out;omega) (by have:=hS.out;have:=eT.out;omega) (lS.mono h2));have hce:=af (fun(w2:World) (h2:Below w.heap.size w w2)=>IH.out els (.slice ea els.len ec) w2 (by have:=hS.out;have:=eT.out;omega) (by have:=hS.out;have:=eT.out;omega) (he.mono h2));have hS1:=af (gA.new hb #[.int .i64 t,.int .u8 a1,.string a2,.int .u8 a3,.string a4,.slice xa x.len xc,.slice ba body.len bc,.slice ea els.len ec] 109);clear hka hr hx lS he hR hb y0 y1 y2 y3 y4 y5 y6 y7 hm hz;by_cases h8:a1=8
    ·subst h8;go_wp2_with fail
     go_ret;exact⟨aq (by rw[hM.out];simp only[jH];simp[true_and]),hS1.below⟩
    by_cases h4:a1=4
    ·subst h4;go_wp2_with fail
     refine(hcb.out _ hS1.below).mono ?_;rintro e w2 ⟨rfl,hb2⟩;have Fv:=af (hS1.on hb2);have p7:=Fv.box.cell 7;simp at p7;clear hb2 hcb x0 x1 x2 x3 x4 x5 x6 x7;cases S9:jH body
     case false=>
      go_wp2_with fail
      exact⟨⟨k+1,rest,by omega,by go_num,fE.out,by have:=eT.out;omega,by rw[hM.out];simp only[jH];simp[S9],Fv.below⟩,by simp only[intOf];omega⟩
     case true=>
      go_wp2_with fail
      refine(hce.out _ Fv.below).mono ?_;rintro e w3 ⟨rfl,hb3⟩;have hS3:=af (Fv.on hb3);clear hb3 hce p7;cases hre:jH els
      case false=>
       go_wp2_with fail
       exact⟨⟨k+1,rest,by omega,by go_num,fE.out,by have:=eT.out;omega,by rw[hM.out];simp only[jH];simp[S9,hre],hS3.below⟩,by simp only[intOf];omega⟩
      case true=>
       go_wp2_with fail
       go_ret;exact⟨aq (by rw[hM.out];simp only[jH];simp[S9,hre]),hS3.below⟩
    go_wp2_with fail
    exact⟨⟨k+1,rest,by omega,by go_num,fE.out,by have:=eT.out;omega,by rw[hM.out];simp only[jH];simp[h8,h4],hS1.below⟩,by simp only[intOf];omega⟩
end
section
open Go.Shelf
structure qK (w0:World) (vs:List (ByteArray×(Int×Int))) (cs:List (ByteArray×eE)) (ret:Int) (vb cb C:Nat) (ss:List Scope) (lp:Nat) (g cap:Nat) (ms:List Nat) (st cnt:Int) (w:World):Prop where
 box:Bx w C #[.map (some vb),.map (some cb),.slice (some ⟨g,0,none⟩) ss.length cap,.int .u8 ret,.int .i64 st,.int .i64 cnt,.int .i64 lp] 193
 row:w.ownsRow w0.heap.size 194 1 (.slice (some ⟨g,0,none⟩) ss.length cap) ss.length (ms.map fun m=>.map (some m))
 len:ms.length=ss.length
 maps:∀i (h1:i<ms.length) (h2:i<ss.length),Mp w ms[i] (Dp ss[i])
 nd:ms.Nodup
 far:∀m∈ms,w0.heap.size≤m
 at_:w0.heap.size≤C
 nm:pH w0 vs cs vb cb
 below:Below w0.heap.size w0 w
theorem Bx.dF {w:World} {q:Nat} {bs:Array Value} {t:TypeId} (h:Bx w q bs t) {b:Nat} {l:List (ByteArray×Value)} (hm:Mp w b l):b≠q:=fun e=>by
 obtain⟨es,c,hm,_⟩:=hm;subst e;unfold Bx at h;rw[h] at hm;cases hm
theorem jc {w:World} {g base:Nat} {e:TypeId} {size:Nat} {n c:Nat} {xs:List Value} (h:w.ownsRow base e size (.slice (some ⟨g,0,none⟩) n c) n xs) {b:Nat} {l:List (ByteArray×Value)} (hm:Mp w b l):b≠g:=fun e=>by
 obtain⟨es,c,hm,_⟩:=hm;subst e;rcases h.2 with⟨h,_⟩|⟨g',cap',cur,hv,_,hg,_⟩
 ·cases h
 ·cases hv;rw[hg] at hm;cases hm
theorem eK {w:World} {q:Nat} {bs:Array Value} {t e:TypeId} (h:Bx w q bs t) {g base size n c:Nat} {xs:List Value} (hown:w.ownsRow base e size (.slice (some ⟨g,0,none⟩) n c) n xs) (hte:t≠e):g≠q:=fun e1=>h.not_row hown hte (by simp[Value.ownBlock,e1])
theorem gL {w:World} {base:Nat} {e:TypeId} {size:Nat} {v:Value} {n:Nat} {xs:List Value} (h:w.ownsRow base e size v (n+1) xs):∃g cap,v=.slice (some ⟨g,0,none⟩) (n+1) cap:=by
 rcases h.2 with⟨_,h⟩|⟨g,cap,cur,rfl,_⟩
 ·omega
 ·exact⟨g,cap,rfl⟩
section
variable {w0:World} {vs:List (ByteArray×(Int×Int))} {cs:List (ByteArray×eE)} {ret:Int} {vb cb C:Nat} {ss:List Scope} {lp:Nat} {g cap:Nat} {ms:List Nat} {st cnt:Int} {w w':World}
theorem qK.ck (h:qK w0 vs cs ret vb cb C ss lp g cap ms st cnt w) (hl:ss.length≤100000000):N7 w vs cs C ss vb cb g cap ms where
 c0:=h.box.cell 0
 c1:=h.box.cell 1
 c2:=h.box.cell 2
 nm:=h.nm.mono h.below
 sc:=⟨fun i hi=>by rw[h.row.cellAt i (by have:=h.len;omega)];simp[hi],h.len,h.maps⟩
 le:=hl
theorem qK.on (h:qK w0 vs cs ret vb cb C ss lp g cap ms st cnt w) (hb:Below w.heap.size w w'):qK w0 vs cs ret vb cb C ss lp g cap ms st cnt w':=
 ⟨h.box.on (ah hb) (by simp),aC h.row hb,h.len,fun i h1 h2=>(h.maps i h1 h2).mono hb,h.nd,h.far,h.at_,h.nm,h.below.trans (hb.mono h.below.size)⟩
theorem qK.turn (h:qK w0 vs cs ret vb cb C ss lp g cap ms st cnt w) (hg:w.grownBy w' (some C)) {lp':Nat} {st' cnt':Int}
  (dT:Bx w' C #[.map (some vb),.map (some cb),.slice (some ⟨g,0,none⟩) ss.length cap,.int .u8 ret,.int .i64 st',.int .i64 cnt',.int .i64 lp'] 193):qK w0 vs cs ret vb cb C ss lp' g cap ms st' cnt' w':=
 ⟨dT,h.row.kept hg (.inr (by have:=eK h.box h.row (by decide);simp[Value.ownBlock,this])),h.len,fun i h1 h2=>(h.maps i h1 h2).on hg (by have:=h.box.dF (h.maps i h1 h2);simpa using this),h.nd,h.far,h.at_,h.nm,h.below.grown hg h.below.size (fun k e=>by cases e;exact h.at_)⟩
theorem qK.push {w1 w2 w3:World} {v':Value} (h:qK w0 vs cs ret vb cb C ss lp g cap ms st cnt w) (h1:w1=w.alloc (.map #[] 0))
  (hA:aV w1 w2 w0.heap.size 194 1 (.slice (some ⟨g,0,none⟩) ss.length cap) v' ss.length 1 (ms.map fun m=>.map (some m)) [.map (some w.heap.size)]) (hg:w2.grownBy w3 (some C))
  (dT:Bx w3 C #[.map (some vb),.map (some cb),v',.int .u8 ret,.int .i64 st,.int .i64 cnt,.int .i64 lp] 193):∃g' cap',v'=.slice (some ⟨g',0,none⟩) (ss.length+1) cap'∧qK w0 vs cs ret vb cb C (ss++[[]]) lp g' cap' (ms++[w.heap.size]) st cnt w3:=by
 obtain⟨g',cap',rfl⟩:=gL hA.own;have b1:Below w.heap.size w w1:=by rw[h1];exact(Below.refl _ w).alloc (Nat.le_refl _) _
 have r1:=aC h.row b1;have x1:Bx w1 C _ 193:=h.box.on (ah b1) (by simp);have x2:Bx w2 C _ 193:=x1.on hA.grown (x1.not_row r1 (by decide));have m1:Mp w1 w.heap.size (Dp []):=by rw[h1];exact Mp.new w
 have gr:∀{b l},Mp w1 b l→Mp w3 b l:=fun{b l} hm=>by
  have dX:Mp w2 b l:=hm.on hA.grown (by have:=jc r1 hm;simp[Value.ownBlock,this]);exact dX.on hg (by have:=x2.dF dX;simpa using this)
 have r3:w3.ownsRow w0.heap.size 194 1 (.slice (some ⟨g',0,none⟩) (ss.length+1) cap') (ss.length+1) (ms.map (fun m=>.map (some m))++[.map (some w.heap.size)]):=hA.own.kept hg (.inr (by have:=eK x2 hA.own (by decide);simp[Value.ownBlock,this]));refine⟨g',cap',rfl,by simpa using dT,by simpa using r3,by simp[h.len],?_,?_,?_,h.at_,h.nm,?_⟩
 ·intro i oD h2';by_cases hi:i<ss.length
  ·have e1:(ms++[w.heap.size])[i]=ms[i]'(by have:=h.len;omega):=List.getElem_append_left (by have:=h.len;omega);have e2:(ss++[[]])[i]=ss[i]:=List.getElem_append_left hi;rw[e1,e2];exact gr ((h.maps i (by have:=h.len;omega) hi).mono b1)
  ·have gq:i=ss.length:=by simp at h2';omega
   have e1:(ms++[w.heap.size])[i]=w.heap.size:=by rw[List.getElem_append_right (by have:=h.len;omega)];simp
   have e2:(ss++[[]])[i]=[]:=by rw[List.getElem_append_right (by omega)];simp
   rw[e1,e2];exact gr m1
 ·rw[List.nodup_append];refine⟨h.nd,by simp,fun a ha b hb=>?_⟩;obtain⟨i,hi,rfl⟩:=List.getElem_of_mem ha;have:=(h.maps i hi (by have:=h.len;omega)).lt;simp at hb;omega
 ·intro m hm;rcases List.mem_append.1 hm with hm|hm
  ·exact h.far m hm
  ·simp at hm;rw[hm];exact h.below.size
 ·have s1:w0.heap.size≤w1.heap.size:=Nat.le_trans h.below.size b1.size;exact((h.below.trans (b1.mono h.below.size)).trans (ly hA r1 s1)).grown hg (Nat.le_trans s1 hA.grown.size) (fun k e=>by cases e;exact h.at_)
theorem qK.pop {c:Scope} (h:qK w0 vs cs ret vb cb C (ss++[c]) lp g cap ms st cnt w) (hg:w.grownBy w' (some C))
  (dT:Bx w' C #[.map (some vb),.map (some cb),.slice (some ⟨g,0,none⟩) ss.length cap,.int .u8 ret,.int .i64 st,.int .i64 cnt,.int .i64 lp] 193):qK w0 vs cs ret vb cb C ss lp g cap ms.dropLast st cnt w':=by
 have h2:=h.turn hg (lp':=lp) (st':=st) (cnt':=cnt);have hl:=h.len;simp at hl;have r2:w'.ownsRow w0.heap.size 194 1 (.slice (some ⟨g,0,none⟩) (ss++[c]).length cap) (ss++[c]).length (ms.map fun m=>.map (some m)):=h.row.kept hg (.inr (by have:=eK h.box h.row (by decide);simp[Value.ownBlock,this]));have b2:Below w0.heap.size w0 w':=h.below.grown hg h.below.size (fun k e=>by cases e;exact h.at_);refine⟨dT,?_,by simp[hl],?_,h.nd.sublist (List.dropLast_sublist _),fun m hm=>h.far m (List.dropLast_subset _ hm),h.at_,h.nm,b2⟩
 ·obtain⟨r3,r4⟩:=r2;rcases r4 with⟨h,_⟩|⟨g',cap',cur,hv,r5,r6,r7,r8,r9,r10⟩
  ·cases h
  ·cases hv;refine⟨by simp[hl],.inr ⟨_,_,cur,rfl,r5,r6,by simp at r7;omega,r8,r9,?_⟩⟩;have:=congrArg (List.take ss.length) r10;rw[List.take_take] at this;simp only[List.length_append,List.length_singleton] at this;rw[show min ss.length ((ss.length+1)*1)=ss.length*1 by omega] at this;rw[this,List.dropLast_eq_take,hl,←List.map_take];rfl
 ·intro i h1 h3;have hi:i<ms.length:=by simp at h1;omega
  have e1:ms.dropLast[i]=ms[i]:=by simp
  have e2:(ss++[c])[i]'(by simp;omega)=ss[i]:=List.getElem_append_left h3;rw[e1,←e2];exact(h.maps i hi (by simp;omega)).on hg (by have:=h.box.dF (h.maps i hi (by simp;omega));simpa using this)
theorem qK.give {c:Scope} {s:ByteArray} {t:Int} (h:qK w0 vs cs ret vb cb C (ss++[c]) lp g cap ms st cnt w) (m:Nat) (hm:ms[ss.length]? =some m) (hg:w.grownBy w' (some m)) (hp:Mp w' m (aY s (.int .u8 t) (Dp c))):
  qK w0 vs cs ret vb cb C (ss++[aY s t c]) lp g cap ms st cnt w':=by
 have hl:=h.len;simp at hl;have hlt:ss.length<ms.length:=by omega
 have kF:ms[ss.length]=m:=by rw[List.getElem?_eq_getElem hlt] at hm;simpa using hm
 have D6:m∈ms:=by rw[←kF];exact List.getElem_mem hlt
 have m0:Mp w m (Dp c):=by
  have:=h.maps ss.length hlt (by simp);rw[kF] at this;simpa using this
 refine⟨by simpa using h.box.on hg (by have:=h.box.dF m0;simp[Ne.symm this]),by simpa using h.row.kept hg (.inr (by have:=jc h.row m0;simp[Value.ownBlock,Ne.symm this])),by simp[hl],?_,h.nd,h.far,h.at_,h.nm,h.below.grown hg h.below.size (fun k e=>by cases e;exact h.far _ D6)⟩;intro i h1 h2;by_cases hi:i<ss.length
 ·have e2:(ss++[aY s t c])[i]=ss[i]:=List.getElem_append_left hi;have e3:(ss++[c])[i]'(by simp;omega)=ss[i]:=List.getElem_append_left hi;rw[e2,←e3];refine(h.maps i h1 (by simp;omega)).on hg ?_;intro e;have e4:ms[i]=ms[ss.length]:=by rw[kF];simpa using e
  exact List.pairwise_iff_getElem.1 h.nd i ss.length h1 hlt (by omega) e4
 ·have gq:i=ss.length:=by omega
  subst gq;rw[kF];have e2:(ss++[aY s t c])[ss.length]=aY s t c:=by simp
  rw[e2,Dp,←dA (Value.int .u8)];exact hp
end
end
section
open Go.Shelf
def bW {α:Type}:Except Int α→Except Int Unit
 | .error e=>.error e
 | .ok _=>.ok ()
section
variable (vs:List (ByteArray×(Int×Int))) (cs:List (ByteArray×eE)) (ret:Int)
def ix (h:SH) (x:az) (rb re rw:Except Int Unit) (ss:List Scope) (c:Scope) (lp:Nat):Except Int Scope:=
 match jn vs cs (ss++[c]) x with
 | .error er=>.error er
 | .ok ts=>
  if h.kind=1 then
   if (ez h.name (ss++[c])).isSome||eQ vs cs h.name then .error 290
   else if ts.getD 0 0=h.type then .ok (aY h.name h.type c) else .error 292
  else if h.kind=2 then
   match gi vs (ss++[c]) h.name with
   | .error er=>.error er
   | .ok t=>if ts.getD 0 0=t then(match iB h.sign t with
    | .error er=>.error er
    | .ok _=>.ok c) else .error 292
  else if h.kind=3 then
   match gj vs (ss++[c]) h.name with
   | .error er=>.error er
   | .ok t=>if ts.getD 0 0=1∧ts.getD 1 0=t then(match iB h.sign t with
    | .error er=>.error er
    | .ok _=>.ok c) else .error 292
  else if h.kind=4 then
   if ts.getD 0 0=1 then(match rb with
    | .error er=>.error er
    | .ok _=>match re with
     | .error er=>.error er
     | .ok _=>.ok c) else .error 292
  else if h.kind=5 then
   if ts.getD 0 0=1 then(match rw with
    | .error er=>.error er
    | .ok _=>.ok c) else .error 292
  else if h.kind=6∨h.kind=7 then if 0<lp then .ok c else .error 294
  else if h.kind=8 then if ts.getD 0 0=ret then .ok c else .error 292
  else .ok c
def fO:aH→List Scope→Scope→Nat→Except Int Scope
 | .nil,_,c,_=>.ok c
 | .cons h x b e r,ss,c,lp=>
  match ix vs cs ret h x (bW (fO b (ss++[c]) [] lp)) (bW (fO e (ss++[c]) [] lp)) (bW (fO b (ss++[c]) [] (lp+1))) ss c lp with
  | .error er=>.error er
  | .ok c'=>fO r ss c' lp
end
def qx (k:Int) (n:Nat):Bool:=if k=1∨k=2∨k=4∨k=5∨k=8 then decide (1≤n) else if k=3 then decide (2≤n) else true
def G9:aH→Bool
 | .nil=>true
 | .cons h x b e r=>qx h.kind x.len&&GW x&&G9 b&&G9 e&&G9 r
def Kp (w w':World):Prop:=∀(q:Nat) (bs:Array Value) (t:TypeId),t≠193→t≠194→Bx w q bs t→Bx w' q bs t
structure Bk (B:Nat) (w w':World):Prop where
 below:Below B w w'
 kp:Kp w w'
theorem Bk.refl (B:Nat) (w:World):Bk B w w:=⟨Below.refl _ _,fun _ _ _ _ _ h=>h⟩
theorem Bk.size {B:Nat} {w w':World} (h:Bk B w w'):w.heap.size≤w'.heap.size:=h.below.size
theorem Bk.trans {B:Nat} {a b c:World} (h:Bk B a b) (k:Bk B b c):Bk B a c:=⟨h.below.trans k.below,fun q bs t h1 h2 hq=>k.kp q bs t h1 h2 (h.kp q bs t h1 h2 hq)⟩
theorem Bk.then {B:Nat} {a b c:World} (h:Bk B a b) (k:Below b.heap.size b c) (hs:B≤b.heap.size):Bk B a c:=
 h.trans ⟨k.mono hs,fun q bs t _ _ hq=>hq.on (ah k) (by simp)⟩
theorem Bx.dc {w:World} {q q2:Nat} {a b:Array Value} {t u:TypeId} (h:Bx w q a t) (k:Bx w q2 b u) (hn:t≠u):q≠q2:=fun e=>by
 subst e;unfold Bx at h k;rw[h] at k;simp at k;exact hn k.2
theorem Bk.gr {B:Nat} {a b c:World} {r:Nat} (h:Bk B a b) (hg:b.grownBy c (some r)) (hs:B≤b.heap.size) (hr:B≤r) (hn:∀(q:Nat) (bs:Array Value) (t:TypeId),t≠193→t≠194→Bx b q bs t→q≠r):Bk B a c:=
 h.trans ⟨(Below.refl B b).grown hg hs (fun k e=>by cases e;exact hr),fun q bs t h1 h2 hq=>hq.on hg (by have:=hn q bs t h1 h2 hq;simpa using this)⟩
theorem Bk.app {B:Nat} {a b c:World} {size:Nat} {v v':Value} {n m:Nat} {xs news:List Value} (h:Bk B a b) (hA:aV b c B 194 size v v' n m xs news) (hown:b.ownsRow B 194 size v n xs) (hs:B≤b.heap.size):Bk B a c:=
 h.trans ⟨ly hA hown hs,fun q bs t _ h2 hq=>hq.on hA.grown (hq.not_row hown h2)⟩
def Post (w0:World) (vs:List (ByteArray×(Int×Int))) (cs:List (ByteArray×eE)) (ret:Int) (vb cb C:Nat) (ss:List Scope) (lp:Nat) (w:World) (r:Except Int Unit) (e:Ending) (w':World):Prop:=
 Bk w0.heap.size w w'∧match r with
  | .error er=>e=nw er∧∃st',w'.cell? ⟨C,4,none⟩=some (.int .i64 st')
  | .ok _=>e=.returned (.tuple #[])∧∃g cap ms st cnt,qK w0 vs cs ret vb cb C ss lp g cap ms st cnt w'
def CL (w0:World) (vs:List (ByteArray×(Int×Int))) (cs:List (ByteArray×eE)) (ret:Int) (vb cb C:Nat) (n:Nat):Prop:=
 ∀(l:aH) (v:Value) (ss:List Scope) (lp g cap:Nat) (ms:List Nat) (st cnt:Int) (w:World),l.sz<n→ss.length+l.sz≤99999999→lp+l.sz≤99999999→G9 l=true→dR w0 false none l v→qK w0 vs cs ret vb cb C ss lp g cap ms st cnt w→
  Calls Tryz.prog 111 #[.pointer (some ⟨C,0,none⟩),v] w (Post w0 vs cs ret vb cb C ss lp w (bW (fO vs cs ret l ss [] lp)))
def CS (w0:World) (vs:List (ByteArray×(Int×Int))) (cs:List (ByteArray×eE)) (ret:Int) (vb cb C:Nat) (n:Nat):Prop:=
 ∀ (t:Int) (h:SH) (x:az) (b e:aH) (vx ve vf:Value) (ss:List Scope) (c:Scope) (lp g cap:Nat) (ms:List Nat) (st cnt:Int) (w:World),b.sz<n→e.sz<n→ss.length+ (x.sz+b.sz+e.sz)≤99999998→lp+ (b.sz+e.sz)≤99999998→
  qx h.kind x.len=true→GW x=true→G9 b=true→G9 e=true→dI w0 false none x vx→dR w0 false none b ve→dR w0 false none e vf→qK w0 vs cs ret vb cb C (ss++[c]) lp g cap ms st cnt w→
  Calls Tryz.prog 141 #[.pointer (some ⟨C,0,none⟩),Lm t h vx ve vf] w fun x' w'=>∃c',Post w0 vs cs ret vb cb C (ss++[c']) lp w (bW (ix vs cs ret h x (bW (fO vs cs ret b (ss++[c]) [] lp)) (bW (fO vs cs ret e (ss++[c]) [] lp)) (bW (fO vs cs ret b (ss++[c]) [] (lp+1))) ss c lp)) x' w'∧
   ∀c2,ix vs cs ret h x (bW (fO vs cs ret b (ss++[c]) [] lp)) (bW (fO vs cs ret e (ss++[c]) [] lp)) (bW (fO vs cs ret b (ss++[c]) [] (lp+1))) ss c lp=.ok c2→c'=c2
theorem aj (w:World) (a:Addr) (u:Value):w.grownBy (w.setCell a u) (some a.block):=by
 have:=(Below.refl 0 w).setCell (p:=a) (Nat.zero_le _) u;exact⟨this.os,this.tape,this.output,this.size,fun k hk hn=>Below.heap_setCell w a u k (fun e=>hn (by rw[e]))⟩
theorem LC (w0:World) (vs:List (ByteArray×(Int×Int))) (cs:List (ByteArray×eE)) (ret:Int) (vb cb C:Nat) (n:Nat) (HS:Hid (CS w0 vs cs ret vb cb C n)):CL w0 vs cs ret vb cb C (n+1):=by
 intro l v ss lp g cap ms st cnt w hn hs LD kP hv kq;obtain⟨ka,b,off,c,rfl,hka,fz⟩:=hv;have hl:=l.bU;have hS:=af (And.intro hn (And.intro hs LD));have hI:=af fz;have hkb:l.len≤100000000:=by omega
 have hssl:ss.length≤100000000:=by omega
 have AR:=af kP;have CK:=af kq;obtain⟨len,hlen⟩:∃m,m=l.len:=⟨_,rfl⟩;rw[←hlen] at hka hl hkb⊢;have bq:=af hlen;obtain⟨w1,gO⟩:∃x:World,x=w.alloc (.map #[] 0):=⟨_,rfl⟩;have D6:(Instr.makeMap 194 none).run Tryz.prog w=.ok (.map (some w.heap.size)) w1:=by rw[gO];exact run_makeMap 194 w
 have p2:=kq.box.cell 2;simp at p2;have hb1:Below w.heap.size w w1:=by rw[gO];exact(Below.refl _ w).alloc (Nat.le_refl _) _
 have hr1:=af (aC kq.row hb1);have tR:w0.heap.size≤w1.heap.size:=Nat.le_trans kq.below.size hb1.size;have hcw:=af (kq.on hb1);have LG:=af hb1;have Vi:=af gO;clear hn hs fz kP hlen kq LD hb1 gO;go_enter Tryz.func111,Tryz.ntmps111;go_wp2_with (at_builtin;go_must (refine aG rfl _ _ 191 rfl w0.heap.size 194 194 (.map none) 1 8 1 Tryz.underlying191 (by kernel_rfl) rfl (by decide) _ ss.length _ [_] (0,0) hr1.out rfl (by simp[Value.oneCell']) (by unfold maxLen;omega) (by omega) tR rfl rfl ?_);intro v' w' hA;obtain⟨g',cap',rfl⟩:=gL hA.own;have hx2:=hcw.box.on hA.grown (hcw.box.not_row hr1.out (by decide));have q2:=hx2.cell 2;simp at q2;have f2:=hx2.free 2;have aL:=af hx2;have hA':=af hA;clear hA hx2)
 have Vj:=CK.push Vi.out hA'.out (aj _ ⟨C,2,none⟩ _) (by simpa using aL.set 2 (.slice (some ⟨g',0,none⟩) (ss.length+1) cap'));obtain⟨g2,nK,hv2,jI⟩:=Vj;cases hv2;have Vk:=af (show Bk w0.heap.size w _ from((((Bk.refl _ w).then LG.out CK.below.size).app hA'.out hr1.out tR).gr (aj _ ⟨C,2,none⟩ (.slice (some ⟨g',0,none⟩) (ss.length+1) cap')) (Nat.le_trans tR hA'.grown.size) CK.at_ (fun q bs t h1 _ hq=>hq.dc aL.out h1)));have Ha:=af jI;clear jI hA' aL hr1 hcw Vi LG D6 p2 tR
 go_loopw [18] (fun i wr=>∃(k:Nat) (r:aH) (c:Scope) (g cap:Nat) (ms:List Nat) (st cnt:Int),k+r.len=len∧i=.int .i64 k∧bC w0 false none r b off k∧r.sz≤l.sz∧G9 r=true∧fO vs cs ret l ss [] lp=fO vs cs ret r ss c lp∧qK w0 vs cs ret vb cb C (ss++[c]) lp g cap ms st cnt wr∧Bk w0.heap.size w wr) (fun i _=>len- (intOf i).toNat)
 case atStart=>exact⟨0,l,[],_,_,_,_,_,by have:=bq.out;omega,rfl,hI.out,Nat.le_refl _,AR.out,rfl,Ha.out,Vk.out⟩
 case round=>
  clear hI Ha Vk;obtain⟨k,r,c0,g1,iQ,zn,st1,cnt1,hk,rfl,hr,hz,nJ,hch,hc,hb⟩:=hrel;have LH:=af hc;have hB:=af hb;have Vl:=af hch;have eT:=af hz;have p2:=hc.box.cell 2;simp at p2;have f2:=hc.box.free 2;cases r with
  | nil=>
   simp only[aH.len,Nat.add_zero] at hk;clear hr hz nJ hch hc hb;obtain rfl:len=k:=hk.symm;have Hc:ss.length+1≤iQ∧iQ≤9223372036854775807:=by
    rcases LH.row.2 with⟨q,_⟩|⟨g3,LI,Vm,hv3,_,_,q1,q2,_⟩
    ·cases q
    ·cases hv3;simp at q1;unfold maxLen at q2;exact⟨q1,by omega⟩
   obtain⟨Vn,Vo⟩:=Hc;have Vp:ss.length≤iQ:=by omega
   have hwr:IntKind.i64.wrap (ss.length:Int)=(ss.length:Int):=IntWalk.i64_in _ (by omega);have q3:wr.drew.cell? ⟨C,2,none⟩=some (.slice (some ⟨g1,0,none⟩) (ss.length+1) iQ):=p2;have f3:wr.drew.frozen? ⟨C,2,none⟩=false:=f2;go_wp2_with fail
   go_region
   go_end0;have Vq:=LH.pop (aj wr ⟨C,2,none⟩ _) (by simpa using LH.box.set 2 (.slice (some ⟨g1,0,none⟩) ss.length iQ));refine⟨((hB.gr (aj wr ⟨C,2,none⟩ _) LH.below.size LH.at_ (fun q bs t h1 _ hq=>hq.dc LH.box h1))).then (Below.refl _ _).drew (Vq.below.size),?_⟩;rw[Vl.out];exact⟨rfl,_,_,_,_,_,Vq.on (Below.refl _ _).drew⟩
  | cons h x body els rest=>
   simp only[aH.len,aH.sz] at hk hz;obtain⟨⟨⟨t,y0,_⟩,y1,y2,y3,y4⟩,⟨vx,y5,hx⟩,⟨vb,y6,lS⟩,⟨ve,y7,he⟩,hR⟩:=hr.cons;have hw0:=hc.below;have wR:∀{a:Addr} {u:Value},w0.cell? a=some u→wr.cell? a=some u:=fun{a u} h=>(hw0.cell (World.block_lt_of_cell? w0 _ h)).trans h
   have x0:=wR y0;have x1:=wR y1;have x2:=wR y2;have x3:=wR y3;have x4:=wR y4;have x5:=wR y5;have x6:=wR y6;have x7:=wR y7;have oB:k<len:=by omega
   have bG:ka=some ⟨b,off,none⟩:=by rcases hka with q|q;(·omega);(·exact q.1)
   subst bG;obtain⟨xa,xc,rfl⟩:=hx.ay;obtain⟨ba,bc,rfl⟩:=lS.ay;obtain⟨ea,ec,rfl⟩:=he.ay;obtain⟨a0,a1,a2,a3,a4⟩:=h;simp only[] at x0 x1 x2 x3 x4;have fE:=af hR;simp only[G9,Bool.and_eq_true] at nJ;obtain⟨⟨⟨⟨r1,r2⟩,r3⟩,r4⟩,r5⟩:=nJ;have Vh:=af r5;have tO:=af ((Below.refl wr.heap.size wr).alloc (Nat.le_refl _) (.cells #[.int .i64 t,.int .u8 a1,.string a2,.int .u8 a3,.string a4,.slice xa x.len xc,.slice ba body.len bc,.slice ea els.len ec] 109));have cx:=af (HS.out t ⟨a0,a1,a2,a3,a4⟩ x body els (.slice xa x.len xc) (.slice ba body.len bc) (.slice ea els.len ec) ss c0 lp g1 iQ zn st1 cnt1 (wr.alloc (.cells #[.int .i64 t,.int .u8 a1,.string a2,.int .u8 a3,.string a4,.slice xa x.len xc,.slice ba body.len bc,.slice ea els.len ec] 109)) (by have:=hS.out;omega) (by have:=hS.out;omega) (by have:=hS.out;omega) (by have:=hS.out;omega) r1 r2 r3 r4 hx lS he (LH.on tO.out));clear hr hz hc hb hch hR hx lS he hw0 wR y0 y1 y2 y3 y4 y5 y6 y7 r1 r2 r3 r4 r5 p2 f2;simp only[fO] at Vl;generalize ix vs cs ret ⟨a0,a1,a2,a3,a4⟩ x (bW (fO vs cs ret body (ss++[c0]) [] lp)) (bW (fO vs cs ret els (ss++[c0]) [] lp)) (bW (fO vs cs ret body (ss++[c0]) [] (lp+1))) ss c0 lp=SR at Vl cx;cases SR with
   | error er=>
    go_wp2_with fail
    refine cx.mono ?_;rintro e w2 ⟨c',⟨hb2,he,Hd,hst⟩,-⟩;obtain rfl:e=nw er:=he;have aQ:=af hb2;have lA:=af hst;clear hb2 cx hst;go_wp2_with fail
    refine ar ⟨?_,?_⟩
    ·exact(hB.then tO.out LH.below.size).trans aQ.out
    ·rw[Vl.out];exact⟨rfl,_,lA.out⟩
   |ok c2=>
    go_wp2_with fail
    refine cx.mono ?_;rintro e w2 ⟨c',⟨hb2,he,g2,nK,LJ,Hd,cnt2,jI⟩,hc2⟩;obtain rfl:e=.returned (.tuple #[]):=he;obtain rfl:c'=c2:=hc2 _ rfl;have aQ:=af hb2;have Hf:=af jI;clear hb2 cx jI hc2;go_wp2_with fail
    exact⟨⟨k+1,rest,c',g2,nK,LJ,Hd,cnt2,by omega,by go_num,fE.out,by have:=eT.out;simp only[aH.sz] at this;omega,Vh.out,by rw[Vl.out],Hf.out,(hB.then tO.out LH.below.size).trans aQ.out⟩,by simp only[intOf];omega⟩
end
section
open Go.Shelf
theorem qK.top {w0:World} {vs:List (ByteArray×(Int×Int))} {cs:List (ByteArray×eE)} {ret:Int} {vb cb C:Nat} {ss:List Scope} {lp:Nat} {g cap:Nat} {ms:List Nat} {st cnt:Int} {w:World} {c:Scope} (h:qK w0 vs cs ret vb cb C (ss++[c]) lp g cap ms st cnt w):∃m,ms[ss.length]? =some m∧w.cell? ⟨g,ss.length,none⟩=some (.map (some m))∧Mp w m (Dp c)∧w0.heap.size≤m:=by
 have hl:=h.len;simp at hl;have hlt:ss.length<ms.length:=by omega
 have h2:=h.maps ss.length hlt (by simp);simp only[List.getElem_append_right (Nat.le_refl _),Nat.sub_self,List.getElem_singleton] at h2;refine⟨ms[ss.length],by simp[hlt],?_,h2,h.far _ (List.getElem_mem _)⟩;rw[h.row.cellAt ss.length (by simp)];simp[hlt]
theorem D7 {w0 w:World} (hb:Below w0.heap.size w0 w) {l:az} {v:Value} (h:dI w0 false none l v):dI w false none l v:=h.mono hb
theorem vF (w0:World) (vs:List (ByteArray×(Int×Int))) (cs:List (ByteArray×eE)) (ret:Int) (vb cb C:Nat) (hp:Hid (∀s x,getM s cs=some x→x.params.length≤100000000)) (n:Nat) (HL:Hid (CL w0 vs cs ret vb cb C n)):CS w0 vs cs ret vb cb C n:=by
 intro t h x body els vx ve vf ss c lp g cap ms st cnt w hbn hen hs LD kP LK hab hae hx lS he kq;obtain⟨xa,xb,xo,xc,rfl,rH,nH⟩:=hx;obtain⟨ba,bc,rfl⟩:=lS.ay;obtain⟨ea,ec,rfl⟩:=he.ay;obtain⟨a0,a1,a2,a3,a4⟩:=h;have zD:=x.bU;have hS:=af (And.intro (And.intro hbn hen) (And.intro hs LD));have hI:=af nH;have hkb:x.len≤100000000:=by omega
 have AR:=af kP;have AX:=af LK;have YH:=af (And.intro hab hae);have Oy:=af (And.intro lS he);obtain⟨oI,Qc⟩:∃f,f=ix vs cs ret ⟨a0,a1,a2,a3,a4⟩ x (bW (fO vs cs ret body (ss++[c]) [] lp)) (bW (fO vs cs ret els (ss++[c]) [] lp)) (bW (fO vs cs ret body (ss++[c]) [] (lp+1))) ss c lp:=⟨_,rfl⟩;rw[←Qc];have oJ:=af Qc;obtain⟨len,hlen⟩:∃m,m=x.len:=⟨_,rfl⟩;rw[←hlen] at rH zD hkb⊢;have bq:=af hlen;have hb1:=af ((Below.refl w.heap.size w).alloc (Nat.le_refl _) (.cells #[.int .i64 t,.int .u8 a1,.string a2,.int .u8 a3,.string a4,.slice xa len xc,.slice ba body.len bc,.slice ea els.len ec] 109));have xL:=kq.on hb1.out;have Qb:=af (Bx.new w #[.int .i64 t,.int .u8 a1,.string a2,.int .u8 a3,.string a4,.slice xa len xc,.slice ba body.len bc,.slice ea els.len ec] 109);have s4:=af (xL.box.set 4 (.int .i64 cnt));have jI:=af (xL.turn (aj _ ⟨C,4,none⟩ (.int .i64 cnt)) (lp':=lp) (st':=cnt) (cnt':=cnt) (by simpa using s4.out));have s5:=af (jI.box.set 5 (.int .i64 (wrap64 (cnt+1))));have Ha:=af (jI.turn (aj _ ⟨C,5,none⟩ (.int .i64 (wrap64 (cnt+1)))) (lp':=lp) (st':=cnt) (cnt':=wrap64 (cnt+1)) (by simpa using s5.out));have p4:=xL.box.cell 5;have YI:=xL.box.cell 4;have p5:=jI.box.cell 5;simp at p4 YI p5;have f4:=xL.box.free 4;have f5:=jI.box.free 5;have CK:=af kq;have Vr:w.heap.size≠C:=by have:=kq.box.lt;omega
 have Vs:=af ((Qb.on (aj _ ⟨C,4,none⟩ (.int .i64 cnt)) (by simpa using Vr)).on (aj _ ⟨C,5,none⟩ (.int .i64 (wrap64 (cnt+1)))) (by simpa using Vr));have p6:=Vs.cell 5;simp at p6;have Hg:=af ((((Bk.refl w0.heap.size w).then hb1.out kq.below.size).gr (aj _ ⟨C,4,none⟩ (.int .i64 cnt)) xL.below.size kq.at_ (fun q bs t h1 _ hq=>hq.dc xL.box h1)).gr (aj _ ⟨C,5,none⟩ (.int .i64 (wrap64 (cnt+1)))) jI.below.size kq.at_ (fun q bs t h1 _ hq=>hq.dc jI.box h1));clear hbn hen hs LD kP LK hab hae nH lS he kq hlen Qc xL;go_enter Tryz.func141,Tryz.ntmps141;go_wp2_with fail
 clear hb1 Qb s4 s5 jI p4 YI p5 p6 f4 f5;generalize (((w.alloc (.cells #[.int .i64 t,.int .u8 a1,.string a2,.int .u8 a3,.string a4,.slice xa len xc,.slice ba body.len bc,.slice ea els.len ec] 109)).setCell ⟨C,4,none⟩ (.int .i64 cnt)).setCell ⟨C,5,none⟩ (.int .i64 (wrap64 (cnt+1))))=W2 at*
 go_loopw [4,28] (fun z i wr=>∃(k:Nat) (r:az) (ts:List Int) (z0:Value),z0=z∧k+r.len=len∧i=.int .i64 k∧bw w0 false none r xb xo k∧r.sz≤x.sz∧GW r=true∧ts.length=k∧iZ vs cs (ss++[c]) x r ts∧wr.ownsRow W2.heap.size 40 1 z k (ts.map (Value.int .u8))∧Below W2.heap.size W2 wr) (fun _ i _=>len- (intOf i).toNat)
 case atStart=>exact⟨0,x,[],_,rfl,by have:=bq.out;omega,rfl,hI.out,Nat.le_refl _,AX.out,rfl,by unfold iZ;cases jn vs cs (ss++[c]) x<;>rfl,World.ownsRow_nil _ _ _ _,Below.refl _ _⟩
 case round=>
  clear hI;obtain⟨k,r,ts,z0,hz0,hk,rfl,hr,hz,nJ,P9,iN,hown,hb⟩:=hrel;subst z0;have hX:=af hb;have hO:=af hown;have hP:=af iN;have jT:=af P9;have eT:=af hz;have eW:=af (Ha.on hb);have LM:=af (Vs.on (ah hb) (by simp));have o5:=af (Hg.then hb Ha.below.size);cases r with
  | nil=>
   simp only[az.len,Nat.add_zero] at hk;clear hr hz nJ hb iN hown P9;obtain rfl:len=k:=hk.symm;have bz:=af (show jn vs cs (ss++[c]) x=.ok ts by have:=hP.out;unfold iZ at this;rw[this];simp[jn,pre]);have vE:=(show Ol wr ts _ from⟨W2.heap.size,by rw[jT.out];exact hO.out⟩);obtain⟨ya,yb,yc,rfl,Qd,hyc⟩:=vE.open;have D8:=af hyc;clear hyc;rw[jT.out] at Qd;rw[jT.out] at vE;rw[jT.out];have hKS:=af vE;clear vE;have p1:=LM.cell 1;have p2:=LM.cell 2;have p3:=LM.cell 3;have p4:=LM.cell 4;have p6:=LM.cell 6;have p7:=LM.cell 7;simp at p1 p2 p3 p4 p6 p7;by_cases h6:a1=6
   ·subst h6;have q6:=eW.box.cell 6;simp at q6;by_cases Hh:0<lp
    ·have hh:=af (show oI=.ok c by rw[oJ.out];simp only[ix];rw[bz.out];simp[Hh]);have c5:=af (fG 294 wr);go_wp2_with fail
     (try rw[show decide ((lp:Int)>0)=true by simpa using Hh])
     refine c5.mono ?_;rintro e w3 ⟨rfl,hw⟩;subst w3;clear c5;go_wp2_with fail
     go_end0;exact⟨c,⟨o5.out,by rw[hh.out];exact⟨rfl,_,_,_,_,_,eW.out⟩⟩,fun c2 hc2=>by rw[hh.out] at hc2;cases hc2;rfl⟩
    ·obtain rfl:lp=0:=by omega
     have hh:=af (show oI=.error 294 by rw[oJ.out];simp only[ix];rw[bz.out];simp);have c5:=af (eA 294 wr);go_wp2_with fail
     refine c5.mono ?_;rintro e w3 ⟨rfl,hw⟩;subst w3;clear c5;go_wp2_with fail
     refine ar ⟨c,⟨o5.out,?_⟩,fun c2 hc2=>by rw[hh.out] at hc2;cases hc2⟩;rw[hh.out];exact⟨rfl,_,by have:=eW.box.cell 4;simpa using this⟩
   by_cases h7:a1=7
   ·subst h7;have q6:=eW.box.cell 6;simp at q6;by_cases Hh:0<lp
    ·have hh:=af (show oI=.ok c by rw[oJ.out];simp only[ix];rw[bz.out];simp[Hh]);have c5:=af (fG 294 wr);go_wp2_with fail
     (try rw[show decide ((lp:Int)>0)=true by simpa using Hh])
     refine c5.mono ?_;rintro e w3 ⟨rfl,hw⟩;subst w3;clear c5;go_wp2_with fail
     go_end0;exact⟨c,⟨o5.out,by rw[hh.out];exact⟨rfl,_,_,_,_,_,eW.out⟩⟩,fun c2 hc2=>by rw[hh.out] at hc2;cases hc2;rfl⟩
    ·obtain rfl:lp=0:=by omega
     have hh:=af (show oI=.error 294 by rw[oJ.out];simp only[ix];rw[bz.out];simp);have c5:=af (eA 294 wr);go_wp2_with fail
     refine c5.mono ?_;rintro e w3 ⟨rfl,hw⟩;subst w3;clear c5;go_wp2_with fail
     refine ar ⟨c,⟨o5.out,?_⟩,fun c2 hc2=>by rw[hh.out] at hc2;cases hc2⟩;rw[hh.out];exact⟨rfl,_,by have:=eW.box.cell 4;simpa using this⟩
   by_cases h8:a1=8
   ·subst h8;have hl0:0<ts.length:=by have:=AR.out;have h2:=bq.out;simp[qx] at this;have:=jT.out;omega
    have z0:=D8.out 0 hl0;have hg0:ts.getD 0 0=ts[0]:=by simp[hl0]
    clear D8;generalize ts[0]=k0 at z0 hg0;have Hj:ya=some ⟨yb,0,none⟩:=by rcases Qd with q|q;(·have:=jT.out;omega);(·exact q)
    subst ya;have pQ:0<len:=by have:=jT.out;omega
    have q3:=eW.box.cell 3;simp at q3;go_wp2_with fail
    refine wp_region_held_drew (S:=(Below wr.heap.size wr)) (by kernel_rfl) (Below.refl _ _).drew (fun hHeld=>?_);refine tk 0 ?_;refine tk 1 ?_;refine tk 2 ?_ (hy:=by intro w' hSw;have q1:=ag z0 hSw;go_simp;(try with_reducible rfl));refine tk 3 ?_;refine tk 4 ?_;refine tk 5 ?_;refine tk 6 ?_ (hy:=by intro w' hSw;have q1:=ag q3 hSw;go_simp;(try with_reducible rfl));refine tk 7 ?_;refine tr 8 fun K hK=>?_
    go_simp;go_at_call 146;by_cases dH:k0=ret
    ·subst dH;have hh:=af (show oI=.ok c by rw[oJ.out];simp only[ix];rw[bz.out];simp only[];rw[hg0];simp);have c5:=af (fG 292 wr.drew);rw[show(k0==k0)=true by simp];refine c5.mono ?_;rintro e w2 ⟨rfl,hw⟩;subst w2;have hk:=(Below.refl wr.heap.size wr).drew;clear hHeld c5;go_wp2_with fail
     refine hK.out _ _ hk (fun hHeld=>?_);clear hK K hk
     try simp only[bK,bL,bM,bN,bO]
     refine td ?_;go_wp2_with fail
     go_end0;exact⟨c,⟨o5.then (Below.refl _ _).drew eW.below.size,by rw[hh.out];exact⟨rfl,_,_,_,_,_,eW.on (Below.refl _ _).drew⟩⟩,fun c2 hc2=>by rw[hh.out] at hc2;cases hc2;rfl⟩
    ·have hh:=af (show oI=.error 292 by rw[oJ.out];simp only[ix];rw[bz.out];simp only[];rw[hg0];simp[dH]);have c5:=af (eA 292 wr.drew);rw[show(k0==ret)=false by simpa using dH];refine c5.mono ?_;rintro e w2 ⟨rfl,hw⟩;subst w2;clear c5 hK hHeld;go_wp2_with fail
     refine ar ⟨c,⟨o5.then (Below.refl _ _).drew eW.below.size,?_⟩,fun c2 hc2=>by rw[hh.out] at hc2;cases hc2⟩;rw[hh.out];exact⟨rfl,_,by have:=eW.box.cell 4;simpa using this⟩
   by_cases h2:a1=2
   ·subst h2;have hl0:0<ts.length:=by have:=AR.out;have h2:=bq.out;simp[qx] at this;have:=jT.out;omega
    have z0:=D8.out 0 hl0;have hg0:ts.getD 0 0=ts[0]:=by simp[hl0]
    clear D8;generalize ts[0]=k0 at z0 hg0;have Hj:ya=some ⟨yb,0,none⟩:=by rcases Qd with q|q;(·have:=jT.out;omega);(·exact q)
    subst ya;have pQ:0<len:=by have:=jT.out;omega
    have cx:=af (kI a2 vs cs C (ss++[c]) vb cb g cap ms wr (eW.ck (by have:=hS.out;simp;omega)));cases hq:gi vs (ss++[c]) a2 with
    |error er=>
     have hh:=af (show oI=.error er by rw[oJ.out];simp only[ix];rw[bz.out];simp[hq]);rw[hq] at cx;go_wp2_with fail
     refine cx.mono ?_;rintro e w2 ⟨he,hb2⟩;obtain rfl:e=nw er:=he;have aQ:=af hb2;clear hb2 cx;go_wp2_with fail
     refine ar ⟨c,⟨o5.then aQ.out eW.below.size,?_⟩,fun c2 hc2=>by rw[hh.out] at hc2;cases hc2⟩;rw[hh.out];exact⟨rfl,_,by have:=(eW.on aQ.out).box.cell 4;simpa using this⟩
    | ok ty=>
     rw[hq] at cx;go_wp2_with fail
     refine cx.mono ?_;rintro e w2 ⟨he,hb2⟩;obtain rfl:e=.returned (.int .u8 ty):=he;have aQ:=af hb2;have z1:=ag z0 hb2;have YI:=ag p4 hb2;clear hb2 cx;by_cases dH:k0=ty
     ·subst ty;have c5:=af (fG 292 w2);go_wp2_with fail
      refine c5.mono ?_;rintro e w3 ⟨rfl,hw⟩;subst w3;clear c5;go_wp2_with fail
      have cg:=af (uk a4 k0 w2);cases zq:iB a4 k0 with
      |error er=>
       have hh:=af (show oI=.error er by rw[oJ.out];simp only[ix];rw[bz.out];simp only[];rw[hq,hg0];simp[zq]);rw[zq] at cg;refine cg.mono ?_;rintro e w3 ⟨he,hw⟩;obtain rfl:e=nw er:=he;subst w3;clear cg;go_wp2_with fail
       refine ar ⟨c,⟨o5.then aQ.out eW.below.size,?_⟩,fun c2 hc2=>by rw[hh.out] at hc2;cases hc2⟩;rw[hh.out];exact⟨rfl,_,by have:=(eW.on aQ.out).box.cell 4;simpa using this⟩
      |ok u=>
       have hh:=af (show oI=.ok c by rw[oJ.out];simp only[ix];rw[bz.out];simp only[];rw[hq,hg0];simp[zq]);rw[zq] at cg;refine cg.mono ?_;rintro e w3 ⟨he,hw⟩;obtain rfl:e=.returned (.tuple #[]):=he;subst w3;clear cg;go_wp2_with fail
       go_end0;exact⟨c,⟨o5.then aQ.out eW.below.size,by rw[hh.out];exact⟨rfl,_,_,_,_,_,eW.on aQ.out⟩⟩,fun c2 hc2=>by rw[hh.out] at hc2;cases hc2;rfl⟩
     ·have hh:=af (show oI=.error 292 by rw[oJ.out];simp only[ix];rw[bz.out];simp only[];rw[hq,hg0];simp[dH]);have c5:=af (eA 292 w2);go_wp2_with fail
      rw[show(k0==ty)=false by simpa using dH];refine c5.mono ?_;rintro e w3 ⟨rfl,hw⟩;subst w3;clear c5;go_wp2_with fail
      refine ar ⟨c,⟨o5.then aQ.out eW.below.size,?_⟩,fun c2 hc2=>by rw[hh.out] at hc2;cases hc2⟩;rw[hh.out];exact⟨rfl,_,by have:=(eW.on aQ.out).box.cell 4;simpa using this⟩
   by_cases h1:a1=1
   ·subst h1;have hl0:0<ts.length:=by have:=AR.out;have h2:=bq.out;simp[qx] at this;have:=jT.out;omega
    have z0:=D8.out 0 hl0;have hg0:ts.getD 0 0=ts[0]:=by simp[hl0]
    clear D8;generalize ts[0]=k0 at z0 hg0;have Hj:ya=some ⟨yb,0,none⟩:=by rcases Qd with q|q;(·have:=jT.out;omega);(·exact q)
    subst ya;have pQ:0<len:=by have:=jT.out;omega
    have c0:=eW.box.cell 0;have c1:=eW.box.cell 1;have c2:=eW.box.cell 2;obtain⟨N,hN⟩:∃N,N=(ss++[c]).length:=⟨_,rfl⟩;rw[←hN] at c2;simp at c0 c1 c2;have S6:(ss++[c]).length≤100000000:=by have:=hS.out;simp;omega
    have CKK:=af (eW.ck S6);have cx:=af (uU a2 g cap ms (ss++[c]) wr.drew (CKK.sc.mono (Below.refl _ _).drew) S6);rw[←hN] at cx;have HN:=af hN;clear hN S6;cases Vt:ez a2 (ss++[c]) with
    |some tt=>
     rw[Vt] at cx;simp only[Option.getD_some,Option.isSome_some] at cx;have hh:=af (show oI=.error 290 by rw[oJ.out];simp only[ix];rw[bz.out];simp[Vt]);go_wp2_with fail
     refine wp_region_held_drew (S:=(Below wr.heap.size wr)) (by kernel_rfl) (Below.refl _ _).drew (fun hHeld=>?_);refine tk 0 ?_;refine tk 1 ?_;refine tk 2 ?_;refine tk 3 ?_ (hy:=by intro w' hSw;have q1:=ag c2 hSw;go_simp;(try with_reducible rfl));refine tk 4 ?_;refine tk 5 ?_ (hy:=by intro w' hSw;have q1:=ag p2 hSw;go_simp;(try with_reducible rfl));refine tr 6 fun K hK=>?_
     go_simp;go_at_call 170;refine cx.mono ?_;rintro e w2 ⟨rfl,hw⟩;subst w2;have hk:=(Below.refl wr.heap.size wr).drew;clear hHeld cx;go_wp2_with fail
     refine hK.out _ _ hk (fun hHeld=>?_);clear hK K hk
     try simp only[bK,bL,bM,bN,bO]
     refine tk 7 ?_;refine tk 8 ?_;refine tk 9 ?_;refine tk 10 ?_;refine tk 11 ?_;refine td ?_;go_wp2_with fail
     refine wp_region_held_drew (S:=(Below wr.heap.size wr)) (by kernel_rfl) (Below.refl _ _).drew.drew (fun hHeld=>?_);refine tk 0 ?_;refine tk 1 ?_;refine tk 2 ?_;refine tn 3 ?_;refine tn 4 ?_;refine tn 5 ?_;refine tn 6 ?_;refine tn 7 ?_;refine tn 8 ?_;refine tn 9 ?_;refine tn 10 ?_;refine tk 11 ?_;refine tr 12 fun K hK=>?_
     go_simp;go_at_call 146;have c5:=af (eA 290 wr.drew.drew);refine c5.mono ?_;rintro e w9 ⟨rfl,hw⟩;subst w9;clear c5 hK hHeld;go_wp2_with fail
     refine ar ⟨c,⟨o5.then ((Below.refl wr.heap.size wr).drew.drew) eW.below.size,?_⟩,fun c2 hc2=>by rw[hh.out] at hc2;cases hc2⟩;rw[hh.out];exact⟨rfl,_,by have:=(eW.on ((Below.refl wr.heap.size wr).drew.drew)).box.cell 4;simpa using this⟩
    | none=>
     rw[Vt] at cx;simp only[Option.getD_none,Option.isSome_none] at cx;have cy:=af (wY a2 vs cs vb cb wr.drew.drew ((eW.on (Below.refl _ _).drew.drew).nm.mono (eW.on (Below.refl _ _).drew.drew).below));go_wp2_with fail
     refine wp_region_held_drew (S:=(Below wr.heap.size wr)) (by kernel_rfl) (Below.refl _ _).drew (fun hHeld=>?_);refine tk 0 ?_;refine tk 1 ?_;refine tk 2 ?_;refine tk 3 ?_ (hy:=by intro w' hSw;have q1:=ag c2 hSw;go_simp;(try with_reducible rfl));refine tk 4 ?_;refine tk 5 ?_ (hy:=by intro w' hSw;have q1:=ag p2 hSw;go_simp;(try with_reducible rfl));refine tr 6 fun K hK=>?_
     go_simp;go_at_call 170;refine cx.mono ?_;rintro e w2 ⟨rfl,hw⟩;subst w2;have hk:=(Below.refl wr.heap.size wr).drew;clear hHeld cx;go_wp2_with fail
     refine hK.out _ _ hk (fun hHeld=>?_);clear hK K hk
     try simp only[bK,bL,bM,bN,bO]
     refine tk 7 ?_;refine tk 8 ?_;refine tk 9 ?_;refine tk 10 ?_;refine tk 11 ?_;refine td ?_;go_wp2_with fail
     refine wp_region_held_drew (S:=(Below wr.heap.size wr)) (by kernel_rfl) (Below.refl _ _).drew.drew (fun hHeld=>?_);refine tk 0 ?_;refine tk 1 ?_;refine tk 2 ?_;refine tk 3 ?_;refine tk 4 ?_;refine tk 5 ?_;refine tk 6 ?_ (hy:=by intro w' hSw;have q1:=ag c0 hSw;have q2:=ag c1 hSw;go_simp;(try with_reducible rfl));refine tk 7 ?_;refine tk 8 ?_ (hy:=by intro w' hSw;have q1:=ag p2 hSw;go_simp;(try with_reducible rfl));have Ta:=cy;clear cy;cases ig:eQ vs cs a2 with
     |true=>
      have hh:=af (show oI=.error 290 by rw[oJ.out];simp only[ix];rw[bz.out];simp[ig]);rw[ig] at Ta;refine tr 9 fun K hK=>?_
      go_simp;go_at_call 73;refine Ta.mono ?_;rintro e w2 ⟨rfl,hb2⟩;have aQ:=af (((Below.refl wr.heap.size wr).drew.drew).trans hb2);have hk:=aQ.out;clear hHeld Ta hb2;go_wp2_with fail
      refine hK.out _ _ hk (fun hHeld=>?_);clear hK K hk
      try simp only[bK,bL,bM,bN,bO]
      refine tk 10 ?_;refine tk 11 ?_;refine tr 12 fun K hK=>?_
      go_simp;go_at_call 146;have c5:=af (eA 290 w2);refine c5.mono ?_;rintro e w9 ⟨rfl,hw⟩;subst w9;clear c5 hK hHeld;go_wp2_with fail
      refine ar ⟨c,⟨o5.then (aQ.out) eW.below.size,?_⟩,fun c2 hc2=>by rw[hh.out] at hc2;cases hc2⟩;rw[hh.out];exact⟨rfl,_,by have:=(eW.on (aQ.out)).box.cell 4;simpa using this⟩
     | false=>
      rw[ig] at Ta;refine tr 9 fun K hK=>?_
      go_simp;go_at_call 73;refine Ta.mono ?_;rintro e w2 ⟨rfl,hb2⟩;have aQ:=af (((Below.refl wr.heap.size wr).drew.drew).trans hb2);have hk:=aQ.out;clear hHeld Ta hb2;go_wp2_with fail
      refine hK.out _ _ hk (fun hHeld=>?_);clear hK K hk
      try simp only[bK,bL,bM,bN,bO]
      refine tk 10 ?_;refine tk 11 ?_;refine tr 12 fun K hK=>?_
      go_simp;go_at_call 146;have c5:=af (fG 290 w2);refine c5.mono ?_;rintro e w9 ⟨rfl,hw⟩;subst w9;have hk:=aQ.out;clear hHeld c5;go_wp2_with fail
      refine hK.out _ _ hk (fun hHeld=>?_);clear hK K hk
      try simp only[bK,bL,bM,bN,bO]
      refine td ?_;have c0b:=ag c0 aQ.out;have c2b:=ag c2 aQ.out;have p2b:=ag p2 aQ.out;have p3b:=ag p3 aQ.out;have z0b:=ag z0 aQ.out;clear c0 c1 c2 p1 p2 p3 p4 p6 p7 z0;go_wp2_with fail
      refine wp_region_held_drew (S:=(Below w2.heap.size w2)) (by kernel_rfl) (Below.refl _ _).drew (fun hHeld=>?_);refine tk 0 ?_;refine tk 1 ?_;refine tk 2 ?_ (hy:=by intro w' hSw;have q1:=ag z0b hSw;go_simp;(try with_reducible rfl));refine tk 3 ?_;refine tk 4 ?_ (hy:=by intro w' hSw;have q1:=ag p3b hSw;go_simp;(try with_reducible rfl));refine tk 5 ?_;refine tr 6 fun K hK=>?_
      go_simp;go_at_call 146;by_cases dH:k0=a3
      ·obtain rfl:a3=k0:=dH.symm;have hh:=af (show oI=.ok (aY a2 a3 c) by rw[oJ.out];simp only[ix];rw[bz.out];simp only[];rw[hg0];simp[Vt,ig]);rw[show(a3==a3)=true by simp];have c5:=af (fG 292 w2.drew);refine c5.mono ?_;rintro e w9 ⟨rfl,hw⟩;subst w9;have hk:=(Below.refl w2.heap.size w2).drew;clear hHeld c5;go_wp2_with fail
       refine hK.out _ _ hk (fun hHeld=>?_);clear hK K hk
       try simp only[bK,bL,bM,bN,bO]
       refine td ?_;have YJ:=af (eW.on (aQ.drew.drew));obtain⟨m,hm,hc,hM,iw⟩:=YJ.top;obtain⟨w3,hrun,hg3,xM,kA⟩:=hM.update nk bm a2 (.int .u8 a3);have dC:=af hM;have hMP:=af kA;have Cp:=af hg3;have hMM:=af hm;have c2c:w2.drew.drew.cell? ⟨C,2,none⟩=some (.slice (some ⟨g,0,none⟩) (ss.length+1) cap):=by have:=HN.out;simp at this;rw[←this];exact c2b
       have p2c:w2.drew.drew.cell? ⟨w.heap.size,2,none⟩=some (.string a2):=p2b;have p3c:w2.drew.drew.cell? ⟨w.heap.size,3,none⟩=some (.int .u8 a3):=p3b;have hwr:IntKind.i64.wrap (ss.length:Int)=(ss.length:Int):=IntWalk.i64_in _ (by have:=hS.out;omega);clear hM kA hg3 hm hg0 iw c0b c2b p2b p3b z0b;go_wp2_with fail
       go_region
       go_end0;exact⟨aY a2 a3 c,⟨(o5.then aQ.drew.drew eW.below.size).gr Cp.out YJ.below.size (YJ.far m (List.mem_of_getElem? hMM.out)) (fun q bs t _ _ hq=>(hq.dF dC.out).symm),by rw[hh.out];exact⟨rfl,_,_,_,_,_,YJ.give m hMM.out Cp.out hMP.out⟩⟩,fun c2 hc2=>by rw[hh.out] at hc2;cases hc2;rfl⟩
      ·have hh:=af (show oI=.error 292 by rw[oJ.out];simp only[ix];rw[bz.out];simp only[];rw[hg0];simp[Vt,ig,dH]);rw[show(k0==a3)=false by simpa using dH];have c5:=af (eA 292 w2.drew);refine c5.mono ?_;rintro e w9 ⟨rfl,hw⟩;subst w9;clear c5 hK hHeld;go_wp2_with fail
       refine ar ⟨c,⟨o5.then (aQ.drew) eW.below.size,?_⟩,fun c2 hc2=>by rw[hh.out] at hc2;cases hc2⟩;rw[hh.out];exact⟨rfl,_,by have:=(eW.on (aQ.drew)).box.cell 4;simpa using this⟩
   by_cases h3:a1=3
   ·subst h3;have kt:1<ts.length:=by have:=AR.out;have h2:=bq.out;simp[qx] at this;have:=jT.out;omega
    have hl0:0<ts.length:=by omega
    have z0:=D8.out 0 hl0;have hg0:ts.getD 0 0=ts[0]:=by simp[hl0]
    have z1:=D8.out 1 kt;have hg1:ts.getD 1 0=ts[1]:=by simp[kt]
    clear D8;generalize ts[0]=k0 at z0 hg0;generalize ts[1]=k1 at z1 hg1;have Hj:ya=some ⟨yb,0,none⟩:=by rcases Qd with q|q;(·have:=jT.out;omega);(·exact q)
    subst ya;have pQ:1<len:=by have:=jT.out;omega
    have Vf:0<len:=by omega
    have Vg:(1:Int)<(len:Int):=by omega
    have cx:=af (rk a2 vs cs C (ss++[c]) vb cb g cap ms wr (eW.ck (by have:=hS.out;simp;omega)));cases hq:gj vs (ss++[c]) a2 with
    |error er=>
     have hh:=af (show oI=.error er by rw[oJ.out];simp only[ix];rw[bz.out];simp[hq]);rw[hq] at cx;go_wp2_with fail
     refine cx.mono ?_;rintro e w2 ⟨he,hb2⟩;obtain rfl:e=nw er:=he;have aQ:=af hb2;clear hb2 cx;go_wp2_with fail
     refine ar ⟨c,⟨o5.then aQ.out eW.below.size,?_⟩,fun c2 hc2=>by rw[hh.out] at hc2;cases hc2⟩;rw[hh.out];exact⟨rfl,_,by have:=(eW.on aQ.out).box.cell 4;simpa using this⟩
    | ok ty=>
     rw[hq] at cx;go_wp2_with fail
     refine cx.mono ?_;rintro e w2 ⟨he,hb2⟩;obtain rfl:e=.returned (.int .u8 ty):=he;have aQ:=af hb2;have z0b:=ag z0 hb2;have z1b:=ag z1 hb2;have YI:=ag p4 hb2;clear hb2 cx;by_cases dH:k0=1
     ·obtain rfl:1=k0:=dH.symm;by_cases hk2:k1=ty
      ·subst ty;have c5:=af (fG 292 w2);go_wp2_with fail
       (try rw[show(k1==k1)=true by simp])
       refine c5.mono ?_;rintro e w3 ⟨rfl,hw⟩;subst w3;clear c5;go_wp2_with fail
       have cg:=af (uk a4 k1 w2);cases zq:iB a4 k1 with
       |error er=>
        have hh:=af (show oI=.error er by rw[oJ.out];simp only[ix];rw[bz.out];simp only[];rw[hq,hg0,hg1];simp[zq]);rw[zq] at cg;refine cg.mono ?_;rintro e w3 ⟨he,hw⟩;obtain rfl:e=nw er:=he;subst w3;clear cg;go_wp2_with fail
        refine ar ⟨c,⟨o5.then aQ.out eW.below.size,?_⟩,fun c2 hc2=>by rw[hh.out] at hc2;cases hc2⟩;rw[hh.out];exact⟨rfl,_,by have:=(eW.on aQ.out).box.cell 4;simpa using this⟩
       |ok u=>
        have hh:=af (show oI=.ok c by rw[oJ.out];simp only[ix];rw[bz.out];simp only[];rw[hq,hg0,hg1];simp[zq]);rw[zq] at cg;refine cg.mono ?_;rintro e w3 ⟨he,hw⟩;obtain rfl:e=.returned (.tuple #[]):=he;subst w3;clear cg;go_wp2_with fail
        go_end0;exact⟨c,⟨o5.then aQ.out eW.below.size,by rw[hh.out];exact⟨rfl,_,_,_,_,_,eW.on aQ.out⟩⟩,fun c2 hc2=>by rw[hh.out] at hc2;cases hc2;rfl⟩
      ·have hh:=af (show oI=.error 292 by rw[oJ.out];simp only[ix];rw[bz.out];simp only[];rw[hq,hg0,hg1];simp[hk2]);have c5:=af (eA 292 w2);go_wp2_with fail
       rw[show(k1==ty)=false by simpa using hk2];refine c5.mono ?_;rintro e w3 ⟨rfl,hw⟩;subst w3;clear c5;go_wp2_with fail
       refine ar ⟨c,⟨o5.then aQ.out eW.below.size,?_⟩,fun c2 hc2=>by rw[hh.out] at hc2;cases hc2⟩;rw[hh.out];exact⟨rfl,_,by have:=(eW.on aQ.out).box.cell 4;simpa using this⟩
     ·have hh:=af (show oI=.error 292 by rw[oJ.out];simp only[ix];rw[bz.out];simp only[];rw[hq,hg0,hg1];simp[dH]);have c5:=af (eA 292 w2);have Qe:(k0==1)=false:=by simpa using dH
      go_wp2_with fail
      refine c5.mono ?_;rintro e w3 ⟨rfl,hw⟩;subst w3;clear c5;go_wp2_with fail
      refine ar ⟨c,⟨o5.then aQ.out eW.below.size,?_⟩,fun c2 hc2=>by rw[hh.out] at hc2;cases hc2⟩;rw[hh.out];exact⟨rfl,_,by have:=(eW.on aQ.out).box.cell 4;simpa using this⟩
   by_cases h4:a1=4
   ·subst h4;have hl0:0<ts.length:=by have:=AR.out;have h2:=bq.out;simp[qx] at this;have:=jT.out;omega
    have z0:=D8.out 0 hl0;have hg0:ts.getD 0 0=ts[0]:=by simp[hl0]
    clear D8;generalize ts[0]=k0 at z0 hg0;have Hj:ya=some ⟨yb,0,none⟩:=by rcases Qd with q|q;(·have:=jT.out;omega);(·exact q)
    subst ya;have pQ:0<len:=by have:=jT.out;omega
    by_cases dH:k0=1
    ·obtain rfl:1=k0:=dH.symm;have Vu:=af (And.intro hS.out (And.intro YH.out Oy.out));have cl:=af (HL.out body (.slice ba body.len bc) (ss++[c]) lp g cap ms cnt (wrap64 (cnt+1)) wr (by have:=hS.out;omega) (by have:=hS.out;simp;omega) (by have:=hS.out;omega) YH.1 Oy.1 eW.out);cases hq:fO vs cs ret body (ss++[c]) [] lp with
     |error er=>
      have hh:=af (show oI=.error er by rw[oJ.out];simp only[ix];rw[bz.out];simp only[];rw[hg0];simp[bW,hq]);rw[hq] at cl;have c5:=af (fG 292 wr);go_wp2_with fail
      refine c5.mono ?_;rintro e w3 ⟨rfl,hw⟩;subst w3;clear c5;go_wp2_with fail
      refine cl.mono ?_;rintro e w2 ⟨hb2,he,Hd,hst⟩;obtain rfl:e=nw er:=he;have aQ:=af hb2;have lA:=af hst;clear hb2 cl hst;go_wp2_with fail
      refine ar ⟨c,⟨o5.trans aQ.out,?_⟩,fun c2 hc2=>by rw[hh.out] at hc2;cases hc2⟩;rw[hh.out];exact⟨rfl,_,lA.out⟩
     | ok u=>
      rw[hq] at cl;have c5:=af (fG 292 wr);go_wp2_with fail
      refine c5.mono ?_;rintro e w3 ⟨rfl,hw⟩;subst w3;clear c5;go_wp2_with fail
      refine cl.mono ?_;rintro e w2 ⟨hb2,he,g2,nK,LJ,Hd,cnt2,jI⟩;obtain rfl:e=.returned (.tuple #[]):=he;have aQ:=af hb2;have Hf:=af jI;clear hb2 cl jI;have BX2:=af (aQ.kp _ _ 109 (by decide) (by decide) LM.out);have p7b:=BX2.cell 7;simp at p7b;have cl:=af (HL.out els (.slice ea els.len ec) (ss++[c]) lp g2 nK LJ Hd cnt2 w2 (by have:=hS.out;omega) (by have:=hS.out;simp;omega) (by have:=hS.out;omega) YH.2 Oy.2 Hf.out);cases jy:fO vs cs ret els (ss++[c]) [] lp with
      |error er=>
       have hh:=af (show oI=.error er by rw[oJ.out];simp only[ix];rw[bz.out];simp only[];rw[hg0];simp[bW,hq,jy]);rw[jy] at cl;go_wp2_with fail
       refine cl.mono ?_;rintro e w4 ⟨hb4,he,Hd,hst⟩;obtain rfl:e=nw er:=he;have xI:=af hb4;have lA:=af hst;clear hb4 cl hst;go_wp2_with fail
       refine ar ⟨c,⟨(o5.trans aQ.out).trans xI.out,?_⟩,fun c2 hc2=>by rw[hh.out] at hc2;cases hc2⟩;rw[hh.out];exact⟨rfl,_,lA.out⟩
      |ok u2=>
       have hh:=af (show oI=.ok c by rw[oJ.out];simp only[ix];rw[bz.out];simp only[];rw[hg0];simp[bW,hq,jy]);rw[jy] at cl;go_wp2_with fail
       refine cl.mono ?_;rintro e w4 ⟨hb4,he,g4,cap4,ms4,st4,cnt4,Vv⟩;obtain rfl:e=.returned (.tuple #[]):=he;have xI:=af hb4;have CK4:=af Vv;clear hb4 cl Vv;go_wp2_with fail
       go_end0;exact⟨c,⟨(o5.trans aQ.out).trans xI.out,by rw[hh.out];exact⟨rfl,_,_,_,_,_,CK4.out⟩⟩,fun c2 hc2=>by rw[hh.out] at hc2;cases hc2;rfl⟩
    ·have hh:=af (show oI=.error 292 by rw[oJ.out];simp only[ix];rw[bz.out];simp only[];rw[hg0];simp[bW,dH]);have c5:=af (eA 292 wr);have Qe:(k0==1)=false:=by simpa using dH
     go_wp2_with fail
     refine c5.mono ?_;rintro e w3 ⟨rfl,hw⟩;subst w3;clear c5;go_wp2_with fail
     refine ar ⟨c,⟨o5.out,?_⟩,fun c2 hc2=>by rw[hh.out] at hc2;cases hc2⟩;rw[hh.out];exact⟨rfl,_,by have:=eW.box.cell 4;simpa using this⟩
   by_cases h5:a1=5
   ·subst h5;have hl0:0<ts.length:=by have:=AR.out;have h2:=bq.out;simp[qx] at this;have:=jT.out;omega
    have z0:=D8.out 0 hl0;have hg0:ts.getD 0 0=ts[0]:=by simp[hl0]
    clear D8;generalize ts[0]=k0 at z0 hg0;have Hj:ya=some ⟨yb,0,none⟩:=by rcases Qd with q|q;(·have:=jT.out;omega);(·exact q)
    subst ya;have pQ:0<len:=by have:=jT.out;omega
    by_cases dH:k0=1
    ·obtain rfl:1=k0:=dH.symm;have q6:=eW.box.cell 6;simp at q6;have f6:=eW.box.free 6;have ZQ:lp≤100000000:=by have:=hS.out;omega
     have CK9:=af (eW.turn (aj wr ⟨C,6,none⟩ (.int .i64 ((lp+1:Nat):Int))) (lp':=lp+1) (st':=cnt) (cnt':=wrap64 (cnt+1)) (by simpa using eW.box.set 6 (.int .i64 ((lp+1:Nat):Int))));have nL:=af (o5.gr (aj wr ⟨C,6,none⟩ (.int .i64 ((lp+1:Nat):Int))) eW.below.size eW.at_ (fun q bs t h1 _ hq=>hq.dc eW.box h1));have BX9:=af (LM.on (aj wr ⟨C,6,none⟩ (.int .i64 ((lp+1:Nat):Int))) (by have:=LM.dc eW.box (by decide);simpa using this));have p6b:=BX9.cell 6;simp at p6b;have hwr:IntKind.i64.wrap ((lp:Int)+1)=((lp+1:Nat):Int):=by rw[IntWalk.i64_in _ (by omega)];simp
     have cl:=af (HL.out body (.slice ba body.len bc) (ss++[c]) (lp+1) g cap ms cnt (wrap64 (cnt+1)) (wr.setCell ⟨C,6,none⟩ (.int .i64 ((lp+1:Nat):Int))) (by have:=hS.out;omega) (by have:=hS.out;simp;omega) (by have:=hS.out;omega) YH.1 Oy.1 CK9.out);cases hq:fO vs cs ret body (ss++[c]) [] (lp+1) with
     |error er=>
      have hh:=af (show oI=.error er by rw[oJ.out];simp only[ix];rw[bz.out];simp only[];rw[hg0];simp[bW,hq]);rw[hq] at cl;have c5:=af (fG 292 wr);go_wp2_with fail
      refine c5.mono ?_;rintro e w3 ⟨rfl,hw⟩;subst w3;clear c5;go_wp2_with fail
      refine cl.mono ?_;rintro e w2 ⟨hb2,he,Hd,hst⟩;obtain rfl:e=nw er:=he;have aQ:=af hb2;have lA:=af hst;clear hb2 cl hst;go_wp2_with fail
      refine ar ⟨c,⟨nL.trans aQ.out,?_⟩,fun c2 hc2=>by rw[hh.out] at hc2;cases hc2⟩;rw[hh.out];exact⟨rfl,_,lA.out⟩
     |ok u=>
      rw[hq] at cl;have hh:=af (show oI=.ok c by rw[oJ.out];simp only[ix];rw[bz.out];simp only[];rw[hg0];simp[bW,hq]);have c5:=af (fG 292 wr);go_wp2_with fail
      refine c5.mono ?_;rintro e w3 ⟨rfl,hw⟩;subst w3;clear c5;go_wp2_with fail
      refine cl.mono ?_;rintro e w2 ⟨hb2,he,g2,nK,LJ,Hd,cnt2,jI⟩;obtain rfl:e=.returned (.tuple #[]):=he;have aQ:=af hb2;have Hf:=af jI;clear hb2 cl jI q6 f6;have q6:=Hf.box.cell 6;simp at q6;have f6:=Hf.box.free 6;have Qf:IntKind.i64.wrap (((lp:Int)+1) -1)=(lp:Int):=by rw[IntWalk.i64_in _ (by omega)];omega
      have CK7:=af (Hf.turn (aj w2 ⟨C,6,none⟩ (.int .i64 (lp:Int))) (lp':=lp) (st':=Hd) (cnt':=cnt2) (by simpa using Hf.box.set 6 (.int .i64 (lp:Int))));have Kl:=af ((nL.trans aQ.out).gr (aj w2 ⟨C,6,none⟩ (.int .i64 (lp:Int))) Hf.below.size Hf.at_ (fun q bs t h1 _ hq=>hq.dc Hf.box h1));go_wp2_with fail
      go_end0;exact⟨c,⟨Kl.out,by rw[hh.out];exact⟨rfl,_,_,_,_,_,CK7.out⟩⟩,fun c2 hc2=>by rw[hh.out] at hc2;cases hc2;rfl⟩
    ·have hh:=af (show oI=.error 292 by rw[oJ.out];simp only[ix];rw[bz.out];simp only[];rw[hg0];simp[bW,dH]);have c5:=af (eA 292 wr);have Qe:(k0==1)=false:=by simpa using dH
     go_wp2_with fail
     refine c5.mono ?_;rintro e w3 ⟨rfl,hw⟩;subst w3;clear c5;go_wp2_with fail
     refine ar ⟨c,⟨o5.out,?_⟩,fun c2 hc2=>by rw[hh.out] at hc2;cases hc2⟩;rw[hh.out];exact⟨rfl,_,by have:=eW.box.cell 4;simpa using this⟩
   have hh:=af (show oI=.ok c by rw[oJ.out];simp only[ix];rw[bz.out];simp[h1,h2,h3,h4,h5,h6,h7,h8]);go_wp2_with fail
   go_end0;exact⟨c,⟨o5.out,by rw[hh.out];exact⟨rfl,_,_,_,_,_,eW.out⟩⟩,fun c2 hc2=>by rw[hh.out] at hc2;cases hc2;rfl⟩
  | cons h2 k2 rest=>
   simp only[az.len,az.sz] at hk hz;obtain⟨⟨⟨t2,y0,_⟩,y1,y2,y3,y4,y5⟩,⟨vx,y6,hx2⟩,hR⟩:=hr.cons;have hw0:=eW.below;have wR:∀{a:Addr} {u:Value},w0.cell? a=some u→wr.cell? a=some u:=fun{a u} h=>(hw0.cell (World.block_lt_of_cell? w0 _ h)).trans h
   have x0:=wR y0;have x1:=wR y1;have x2:=wR y2;have x3:=wR y3;have x4:=wR y4;have x5:=wR y5;have x6:=wR y6;have oB:k<len:=by omega
   have bG:xa=some ⟨xb,xo,none⟩:=by rcases rH with q|q;(·omega);(·exact q.1)
   subst bG;obtain⟨ka,kc,rfl⟩:=hx2.ay;obtain⟨b0,b1,b2,b3,b4,b5⟩:=h2;simp only[] at x0 x1 x2 x3 x4 x5 x6;have fE:=af hR;have Ym:=af hk;simp only[GW,Bool.and_eq_true] at nJ;have Vh:=af nJ;have tO:=af (((Below.refl wr.heap.size wr).alloc (Nat.le_refl _) (.cells #[.int .i64 t2,.int .u8 b1,.int .u32 b2,.int .u8 b3,.string b4,.string b5,.slice ka k2.len kc] 134)));have hKB:k2.sz≤100000000:=by have:=hS.out;omega
   have hx3:dI (wr.alloc (.cells #[.int .i64 t2,.int .u8 b1,.int .u32 b2,.int .u8 b3,.string b4,.string b5,.slice ka k2.len kc] 134)) false none k2 (.slice ka k2.len kc):=D7 (hw0.trans (tO.mono hw0.size)) hx2;have cx:=af (LA vs cs C (ss++[c]) vb cb g cap ms hp _ t2 ⟨b0,b1,b2,b3,b4,b5⟩ k2 (.slice ka k2.len kc) (wr.alloc (.cells #[.int .i64 t2,.int .u8 b1,.int .u32 b2,.int .u8 b3,.string b4,.string b5,.slice ka k2.len kc] 134)) (Nat.lt_succ_self _) hKB nJ.1.1 nJ.1.2 hx3 ((eW.on tO.out).ck (by have:=hS.out;simp;omega)));clear hr hz nJ hb iN hown P9 y0 y1 y2 y3 y4 y5 y6 hx2 hR hk hw0 wR hx3;cases hty:um vs cs (ss++[c]) ⟨b0,b1,b2,b3,b4,b5⟩ k2 with
   |error er=>
    have hh:=af (show oI=.error er by rw[oJ.out];unfold ix;have:=hP.out;unfold iZ at this;rw[this,GZ hty]);rw[hty] at cx;go_wp2_with fail
    refine cx.mono ?_;rintro e w2 ⟨he,hb2⟩;obtain rfl:e=nw er:=he;have aQ:=af (tO.trans (hb2.mono tO.size));clear hb2 cx;go_wp2_with fail
    refine ar ⟨c,⟨o5.then aQ.out eW.below.size,?_⟩,fun c2 hc2=>by rw[hh.out] at hc2;cases hc2⟩;rw[hh.out];exact⟨rfl,_,by have:=(eW.on aQ.out).box.cell 4;simpa using this⟩
   |ok ty=>
    rw[hty] at cx;go_wp2_with fail
    refine cx.mono ?_;rintro e w2 ⟨he,hb2⟩;obtain rfl:e=.returned (.int .u8 ty):=he;have aQ:=af (tO.trans (hb2.mono tO.size));clear hb2 cx;have oU:=af (aC hO.out aQ.out);have qu:W2.heap.size≤w2.heap.size:=Nat.le_trans hX.size aQ.size;go_wp2_with (at_builtin;refine aG rfl _ _ 259 rfl W2.heap.size 40 40 (.int .u8 0) 1 1 1 Tryz.underlying259 (by kernel_rfl) rfl (by decide) _ k _ [_] (0,0) oU.out rfl (by simp[Value.oneCell']) (by unfold maxLen;omega) (by omega) qu rfl rfl ?_;intro v' w' hA;have hA':=af (ly hA oU.out qu);have La:=af hA.own;clear hA)
    have hh:=af (show iZ vs cs (ss++[c]) x rest (ts++[ty]) by unfold iZ;have:=hP.out;unfold iZ at this;rw[this,GY hty]);exact⟨⟨k+1,rest,ts++[ty],_,rfl,by have:=Ym.out;omega,by go_num,fE.out,by have:=eT.out;simp only[az.sz] at this;omega,Vh.2,by simp[jT.out],hh.out,by simpa using La.out,(hX.trans (aQ.mono hX.size)).trans hA'.out⟩,by simp only[intOf];omega⟩
end
section
theorem D9 (v:Value) (w:World):(Instr.typeAssert (.iface 238 v) 20 238 true).run Tryz.prog w=.ok (.tuple #[v,.bool true]) w:=by kernel_rfl
theorem Hk (v:Value) (w:World):(binOp .eql 20 (.iface 238 v) .nilIface).run Tryz.prog w=.ok (.bool false) w:=by kernel_rfl
theorem xN (b:Nat) (x er:Int) (xO:List PanicEntry) (w:World) (hc:w.cell? ⟨b,0,none⟩=some (.int .i64 x)) (hz:w.frozen? ⟨b,0,none⟩=false) (hp:b<w.heap.size):
  CallsD Tryz.prog 140 #[.pointer (some ⟨b,0,none⟩)] (.panicking ({v:=.iface 238 (.agg #[.int .i64 er]),recovered:=false}::xO)) w fun e u' w'=>
   e=.returned (.tuple #[])∧u'=.panicking ({v:=.iface 238 (.agg #[.int .i64 er]),recovered:=true}::xO)∧w'=(w.setCell ⟨b,0,none⟩ (.int .i64 er)).alloc (.cells #[.int .i64 er] 238):=by
 refine callsD_of_wpS Tryz.func140 rfl fun c₀ cs hu=>?_
 apply wpS_seq;apply wpS_region;simp[wpOpsS,go_sem,recoverD,hu,Tryz.ntmps140,Exit.thenS];refine wpS_of_wp ?_;have h1:=D9;have h2:=Hk;have hz2:(w.alloc (.cells #[.int .i64 er] 238)).frozen? ⟨b,0,none⟩=false:=by rw[World.frozen?_alloc_past _ _ _ hp];exact hz
 have hc2:(w.alloc (.cells #[.int .i64 er] 238)).cell? ⟨b,0,none⟩=some (.int .i64 x):=by rw[World.cell?_alloc_past _ _ _ hp];exact hc
 go_wp2_with fail
 simp[bodyPostS,results,Tryz.results140,go_sem]
theorem xP (p:Addr) (w:World):
  CallsD Tryz.prog 140 #[.pointer (some p)] .returning w fun e u' w'=>e=.returned (.tuple #[])∧u'=.returning∧w'=w:=by
 refine callsD_of_wpS Tryz.func140 rfl fun c₀ cs hu=>?_
 apply wpS_seq;apply wpS_region;simp[wpOpsS,go_sem,recoverD,hu,Tryz.ntmps140,Exit.thenS];refine wpS_of_wp ?_;go_wp2_with fail
 cases c₀
 simp_all [bodyPostS,results,Tryz.results140,go_sem]
theorem Ea (pc pf:Addr) (w:World) (R:Ending→World→Prop) (h:Hid (Calls Tryz.prog 110 #[.pointer (some pc),.pointer (some pf)] (w.alloc (.cells #[.int .i64 0] 32)) R))
  (hR:Hid (∀e w',R e w'→Bx w' w.heap.size #[.int .i64 0] 32∧(e=.returned (.tuple #[])∨∃er,e=nw er))):
  Calls Tryz.prog 109 #[.func (.func 110) #[] #[.pointer (some pc),.pointer (some pf)]] w fun e w'=>∃e0 w1,R e0 w1∧
   ((e0=.returned (.tuple #[])∧e=.returned (.int .i64 0)∧w'=w1.setCell ⟨w.heap.size,0,none⟩ (.int .i64 0))∨
    ∃er,e0=nw er∧e=.returned (.int .i64 er)∧w'=(w1.setCell ⟨w.heap.size,0,none⟩ (.int .i64 er)).alloc (.cells #[.int .i64 er] 238)):=by
 have iw:∀(fn:Fn) (first cap:Array Value) (w:World),(Instr.makeFunc fn first cap).run Tryz.prog w=.ok (.func fn first cap) w:=fun _ _ _ _=>rfl
 go_enter_defers Tryz.func109,Tryz.ntmps109
 go_wp2_with fail
 refine h.mono ?_;intro e w1 hr;obtain⟨dT,he⟩:=hR.out e w1 hr;have Cq:=af hr;clear hr;have hc:=dT.cell 0;have hz:=dT.free 0;have hlt:=dT.lt;simp at hc;rcases he with rfl|⟨er,rfl⟩
 ·go_wp2_with fail
  refine leaves_cons (f:=140) (args:=#[.pointer (some ⟨w.heap.size,0,none⟩)]) (by simp) (by simp[go_sem]) ?_;refine(xP ⟨w.heap.size,0,none⟩ _).mono ?_;rintro e u' w'' ⟨rfl,rfl,rfl⟩;have hc2:(w1.setCell ⟨w.heap.size,0,none⟩ (.int .i64 0)).cell? ⟨w.heap.size,0,none⟩=some (.int .i64 0):=by simpa using(dT.set 0 (.int .i64 0)).cell 0
  simp[Leaves,settle,results,Tryz.results109,go_sem,hc2];exact⟨_,_,Cq.out,.inl ⟨rfl,rfl⟩⟩
 ·go_wp2_with fail
  refine leaves_cons (f:=140) (args:=#[.pointer (some ⟨w.heap.size,0,none⟩)]) (by simp) (by simp[go_sem]) ?_;refine(xN w.heap.size 0 er [] _ hc hz hlt).mono ?_;rintro e u' w'' ⟨rfl,rfl,rfl⟩;have hc2:((w1.setCell ⟨w.heap.size,0,none⟩ (.int .i64 er)).alloc (.cells #[.int .i64 er] 238)).cell? ⟨w.heap.size,0,none⟩=some (.int .i64 er):=by
   rw[World.cell?_alloc_past _ _ _ (by simpa[World.setCell] using hlt)];simpa using(dT.set 0 (.int .i64 er)).cell 0
  simp[Leaves,settle,results,Tryz.results109,go_sem,hc2];exact⟨_,_,Cq.out,.inr ⟨er,rfl,rfl,rfl⟩⟩
end
section
open Go.Shelf
theorem Hl (w0:World) (vs:List (ByteArray×(Int×Int))) (cs:List (ByteArray×eE)) (ret:Int) (vb cb C:Nat) (hp:Hid (∀s x,getM s cs=some x→x.params.length≤100000000)):∀n,CL w0 vs cs ret vb cb C n
 |0=>fun l _ _ _ _ _ _ _ _ _ h=>by omega
 |n+1=>LC w0 vs cs ret vb cb C n (af (vF w0 vs cs ret vb cb C hp n (af (Hl w0 vs cs ret vb cb C hp n))))
section
variable (vs:List (ByteArray×(Int×Int))) (cs:List (ByteArray×eE))
def cC:List PW→Scope→Except Int Scope
 |[],sc=>.ok sc
 |p::r,sc=>if (getM p.1 sc).isSome||eQ vs cs p.1 then .error 290 else cC r (aY p.1 p.2 sc)
def vG (f:FH):Int:=
 match cC vs cs f.params [] with
 | .error e=>e
 | .ok sc=>if 128<f.params.length+dN f.body then 296 else match fO vs cs f.type f.body [sc] [] 0 with
  | .error e=>e
  | .ok _=>if jH f.body then 0 else 295
end
/-! ### a fault is none of nought -/
def Hi {α:Type} (x:Except Int α):Prop:=∀e,x=.error e→290≤e
theorem Cr (vs:List (ByteArray×(Int×Int))) (ss:List Scope) (s:ByteArray):Hi (gi vs ss s):=by
 intro e h;unfold gi at h;split at h
 ·cases h
 ·split at h
  ·split at h<;>cases h;omega
  ·cases h;omega
theorem Ct (vs:List (ByteArray×(Int×Int))) (ss:List Scope) (s:ByteArray):Hi (gj vs ss s):=by
 intro e h;unfold gj at h;split at h
 ·split at h<;>cases h;omega
 ·cases h;omega
theorem Cu (s:ByteArray) (a b:Int):Hi (eF s a b):=by
 intro e h;unfold eF at h
 repeat' split at h
 all_goals cases h
 all_goals omega
theorem Hm (cs:List (ByteArray×eE)) (s:ByteArray) (ks:List Int):Hi (fj cs s ks):=by
 intro e h;unfold fj at h
 repeat' split at h
 all_goals cases h
 all_goals omega
theorem Qg (vs:List (ByteArray×(Int×Int))) (cs:List (ByteArray×eE)) (ss:List Scope) (h:EH) (ks:List Int):Hi (mj vs cs ss h ks):=by
 intro e hh;unfold mj at hh;split at hh
 ·cases hh
 split at hh
 ·exact Cr _ _ _ e hh
 split at hh
 ·split at hh
  ·rename_i er hq;cases hh;exact Ct _ _ _ _ hq
  ·split at hh<;>cases hh;omega
 split at hh
 ·exact Hm _ _ _ e hh
 split at hh
 ·split at hh<;>cases hh;omega
 split at hh
 ·exact Cu _ _ _ e hh
 split at hh<;>cases hh
theorem Af (vs:List (ByteArray×(Int×Int))) (cs:List (ByteArray×eE)) (ss:List Scope):∀l:az,Hi (jn vs cs ss l)
 | .nil=>fun e h=>by cases h
 | .cons h k r=>fun e hh=>by
  have i1:=Af vs cs ss k;have i2:=Af vs cs ss r;simp only[jn] at hh;split at hh
  ·rename_i er hq;cases hh;exact i1 _ hq
  ·split at hh
   ·rename_i er hq;cases hh;exact Qg _ _ _ _ _ _ hq
   ·split at hh
    ·rename_i er hq;cases hh;exact i2 _ hq
    ·cases hh
theorem Hn (s:ByteArray) (t:Int):Hi (iB s t):=by
 intro e h;unfold iB at h;split at h
 ·cases h
 ·split at h
  ·rename_i er hq;cases h;exact Cu _ _ _ _ hq
  ·cases h
theorem rJ {α:Type} {x:Except Int α} (h:Hi x):Hi (bW x):=by
 intro e hh;cases x with
 |ok a=>cases hh
 |error er=>cases hh;exact h _ rfl
theorem Qh (vs:List (ByteArray×(Int×Int))) (cs:List (ByteArray×eE)) (ret:Int) (h:SH) (x:az) (rb re rw:Except Int Unit) (hb:Hi rb) (he:Hi re) (hw:Hi rw) (ss:List Scope) (c:Scope) (lp:Nat):Hi (ix vs cs ret h x rb re rw ss c lp):=by
 intro e hh;unfold ix at hh;split at hh
 ·rename_i er hq;cases hh;exact Af _ _ _ _ _ hq
 repeat' split at hh
 all_goals (first|(cases hh;omega)|(cases hh;done)|skip)
 all_goals (rename_i hq;cases hh)
 all_goals (first|exact Cr _ _ _ _ hq|exact Ct _ _ _ _ hq|exact Hn _ _ _ hq|exact hb _ rfl|exact he _ rfl|exact hw _ rfl)
theorem rK (vs:List (ByteArray×(Int×Int))) (cs:List (ByteArray×eE)) (ret:Int):∀(l:aH) (ss:List Scope) (c:Scope) (lp:Nat),Hi (fO vs cs ret l ss c lp)
 | .nil,_,_,_=>fun e h=>by cases h
 | .cons h x b e r,ss,c,lp=>fun er hh=>by
  have i1:=rK vs cs ret b;have i2:=rK vs cs ret e;have i3:=rK vs cs ret r;simp only[fO] at hh;split at hh
  ·rename_i e2 hq;cases hh;exact Qh _ _ _ _ _ _ _ _ (rJ (i1 _ _ _)) (rJ (i2 _ _ _)) (rJ (i1 _ _ _)) _ _ _ _ hq
  ·exact i3 _ _ _ _ hh
theorem Bx.al {w:World} {q:Nat} {cs:Array Value} {t:TypeId} (h:Bx w q cs t) (o:Obj):Bx (w.alloc o) q cs t:=
 h.on (ah ((Below.refl w.heap.size w).alloc (Nat.le_refl _) o)) (by simp)
theorem Mp.al {w:World} {b:Nat} {l:List (ByteArray×Value)} (h:Mp w b l) (o:Obj):Mp (w.alloc o) b l:=h.mono ((Below.refl w.heap.size w).alloc (Nat.le_refl _) o)
theorem Ag (T F C:Nat) (bv:Value) (w:World) (R:Ending→World→Prop) (hT:w.cell? ⟨T,0,none⟩=some (.pointer (some ⟨C,0,none⟩))) (hF:w.cell? ⟨F,5,none⟩=some bv) (hv:∃l,dR w false none l bv)
  (h:Hid (Calls Tryz.prog 111 #[.pointer (some ⟨C,0,none⟩),bv] w R)) (hR:Hid (∀e w',R e w'→e=.returned (.tuple #[])∨∃er,e=nw er)):
  Calls Tryz.prog 110 #[.pointer (some ⟨T,0,none⟩),.pointer (some ⟨F,0,none⟩)] w R:=by
 obtain⟨l,hv⟩:=hv;obtain⟨ka,kc,rfl⟩:=hv.ay;clear hv;go_enter Tryz.func110,Tryz.ntmps110;go_wp2_with fail
 refine h.mono ?_;intro e w1 hr;have Cq:=af hr;rcases hR.out e w1 hr with rfl|⟨er,rfl⟩
 ·clear hr;go_wp2_with fail
  go_end0;exact Cq.out
 ·clear hr;go_wp2_with fail
  exact ar Cq.out
end
end Go.Proofs.YtlabadkfkbenoaaGreatDoor
