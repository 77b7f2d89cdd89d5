/- Walks and plain laws, merged: ChkL ChkN ChkO SenF. No condition. -/
import Derived.Test.YtlabadkfkbenoaaGreatDoorProg
import Derived.Outline
import Derived.Deep.RegionHeld3
import Derived.Test.YtlabadkfkbenoaaGreatDoorKp01
import Derived.Test.YtlabadkfkbenoaaGreatDoorKp05
namespace Go.Proofs.YtlabadkfkbenoaaGreatDoor
open Go.RowKit
set_option linter.unusedVariables false
set_option linter.unusedSimpArgs false
set_option maxRecDepth 100000
set_option maxHeartbeats 64000000
section
open Go.Shelf
def qF:az→Nat
 | .nil=>0
 | .cons _ k r=>max (qF k+1) (qF r)
def qG:aH→Nat
 | .nil=>0
 | .cons _ x b e r=>max (max (qF x) (max (qG b) (qG e))+1) (qG r)
theorem rI (m H:Nat):(if m<H then(H:Int) else(m:Int))=((max m H:Nat):Int):=by split<;>omega
theorem oZ:∀l:az,qF l≤l.sz
 | .nil=>Nat.le_refl _
 | .cons h k r=>by have:=oZ k;have:=oZ r;simp only[qF,az.sz];omega
theorem mK:∀l:aH,qG l≤l.sz
 | .nil=>Nat.le_refl _
 | .cons h x b e r=>by have:=oZ x;have:=mK b;have:=mK e;have:=mK r;simp only[qG,aH.sz];omega
theorem GQ:∀(n:Nat) (t:Int) (h:EH) (kids:az) (v:Value) (w:World),kids.sz<n→kids.sz≤100000000→dI w false none kids v→
  Calls Tryz.prog 138 #[qq t h v] w fun e w'=>e=.returned (.int .i64 ((qF kids+1:Nat):Int))∧Below w.heap.size w w':=by
 intro n
 induction n with
 |zero=>intro t h kids v w hn;omega
 | succ n ih=>
  have IH:=af ih;clear ih;intro t h kids v w hn hs hv;obtain⟨ka,b,off,c,rfl,hka,fz⟩:=hv;have hl:=kids.bU;have hh:=oZ kids;have hS:=af (And.intro hn hs);have hI:=af fz;have hkb:kids.len≤100000000:=by omega
  have Kh:qF kids≤100000000:=by omega
  obtain⟨a0,a1,a2,a3,a4,a5⟩:=h;obtain⟨len,hlen⟩:∃m,m=kids.len:=⟨_,rfl⟩;obtain⟨H,hH⟩:∃m,m=qF kids:=⟨_,rfl⟩;rw[←hlen] at hka hl hkb⊢;rw[←hH] at Kh⊢;have bq:=af hlen;have GR:=af hH;clear hn hs fz hlen hH hh hl;have cF:=af ((Below.refl w.heap.size w).alloc (Nat.le_refl _) (.cells #[.int .i64 t,.int .u8 a1,.int .u32 a2,.int .u8 a3,.string a4,.string a5,.slice ka len c] 134));go_enter Tryz.func138,Tryz.ntmps138;go_wp2_with fail
  go_loopw [3,9] (fun z i wr=>∃(k m:Nat) (r:az),z=.int .i64 m∧k+r.len=len∧i=.int .i64 k∧bw w false none r b off k∧r.sz≤kids.sz∧H=max m (qF r)∧Below w.heap.size w wr) (fun _ i _=>len- (intOf i).toNat)
  case atStart=>exact⟨0,0,kids,rfl,by have:=bq.out;omega,rfl,hI.out,Nat.le_refl _,by rw[GR.out];simp,cF.out⟩
  case round=>
   clear hI cF;obtain⟨k,m,r,rfl,hk,rfl,hr,hz,hm,hb⟩:=hrel;have hB:=af hb;cases r with
   |nil=>
    simp only[az.len,Nat.add_zero] at hk;subst k;have dX:Hid (H=m):=af (by rw[hm];simp[qF]);have Ki:m≤100000000:=by have:=dX.out;omega
    clear hr hz hm hb;go_wp2_with fail
    go_ret;exact⟨fy (by rw[dX.out];omega),hB.out⟩
   |cons h' bD rest=>
    simp only[az.len,az.sz] at hk hz;obtain⟨⟨⟨t',y0,_⟩,y1,y2,y3,y4,y5⟩,⟨u,y6,hu⟩,hR⟩:=hr.cons;have x0:=ag y0 hb;have x1:=ag y1 hb;have x2:=ag y2 hb;have x3:=ag y3 hb;have x4:=ag y4 hb;have x5:=ag y5 hb;have x6:=ag y6 hb;have oB:k<len:=by omega
    have bG:ka=some ⟨b,off,none⟩:=by rcases hka with q|q;(·omega);(·exact q.1)
    subst bG;obtain⟨ua,uc,rfl⟩:=hu.ay;have dU:=af ((Below.refl wr.heap.size wr).alloc (Nat.le_refl _) (.cells #[.int .i64 t',.int .u8 h'.kind,.int .u32 h'.word,.int .u8 h'.type,.string h'.name,.string h'.sign,.slice ua bD.len uc] 134));have au:=af (IH.out t' h' bD (.slice ua bD.len uc) (wr.alloc (.cells #[.int .i64 t',.int .u8 h'.kind,.int .u32 h'.word,.int .u8 h'.type,.string h'.name,.string h'.sign,.slice ua bD.len uc] 134)) (by have:=hS.out;omega) (by have:=hS.out;omega) (hu.mono (hb.trans (dU.mono hb.size))));have fE:=af (And.intro hR hz);have hM:=af hm;clear hka hr hu hR hz hb y0 y1 y2 y3 y4 y5 y6 hm;go_wp2_with fail
    refine au.mono ?_;rintro e w2 ⟨rfl,hb2⟩;have aQ:=af (hB.trans ((dU.trans (hb2.mono (by simp))).mono hB.size));clear hb2 au x0 x1 x2 x3 x4 x5 x6 dU;obtain⟨H',Ac⟩:∃q,q=qF bD+1:=⟨_,rfl⟩;rw[←Ac];have PZ:=af Ac;clear Ac;go_wp2_with fail
    go_roundw
    case rel=>exact⟨k+1,max m H',rest,by rw[rI],by omega,by go_num,fE.1,by have:=fE.2;omega,by rw[hM.out,PZ.out];simp only[qF];omega,aQ.out⟩
    case measure=>simp[intOf];omega
theorem Lp:∀(n:Nat) (t:Int) (h:EH) (kids:az) (v:Value) (w:World),kids.sz<n→kids.sz≤100000000→dI w false none kids v→
  Calls Tryz.prog 139 #[qq t h v] w fun e w'=>e=.returned (.int .i64 ((kids.sz+1:Nat):Int))∧Below w.heap.size w w':=by
 intro n
 induction n with
 |zero=>intro t h kids v w hn;omega
 | succ n ih=>
  have IH:=af ih;clear ih;intro t h kids v w hn hs hv;obtain⟨ka,b,off,c,rfl,hka,fz⟩:=hv;have hl:=kids.bU;have hS:=af (And.intro hn hs);have hI:=af fz;have hkb:kids.len≤100000000:=by omega
  have Kh:kids.sz≤100000000:=by omega
  obtain⟨a0,a1,a2,a3,a4,a5⟩:=h;obtain⟨len,hlen⟩:∃m,m=kids.len:=⟨_,rfl⟩;obtain⟨H,hH⟩:∃m,m=kids.sz:=⟨_,rfl⟩;rw[←hlen] at hka hl hkb⊢;rw[←hH] at Kh⊢;have bq:=af hlen;have GR:=af hH;clear hn hs fz hlen hH hl;have cF:=af ((Below.refl w.heap.size w).alloc (Nat.le_refl _) (.cells #[.int .i64 t,.int .u8 a1,.int .u32 a2,.int .u8 a3,.string a4,.string a5,.slice ka len c] 134));go_enter Tryz.func139,Tryz.ntmps139;go_wp2_with fail
  go_loopw [3,9] (fun z i wr=>∃(k m:Nat) (r:az),z=.int .i64 m∧k+r.len=len∧i=.int .i64 k∧bw w false none r b off k∧r.sz≤kids.sz∧H+1=m+r.sz∧Below w.heap.size w wr) (fun _ i _=>len- (intOf i).toNat)
  case atStart=>exact⟨0,1,kids,rfl,by have:=bq.out;omega,rfl,hI.out,Nat.le_refl _,by rw[GR.out];omega,cF.out⟩
  case round=>
   clear hI cF;obtain⟨k,m,r,rfl,hk,rfl,hr,hz,hm,hb⟩:=hrel;have hB:=af hb;cases r with
   |nil=>
    simp only[az.len,Nat.add_zero] at hk;subst k;have dX:Hid (H+1=m):=af (by rw[hm];simp[az.sz]);have Ki:m≤100000001:=by have:=dX.out;omega
    clear hr hz hm hb;go_wp2_with fail
    go_ret;exact⟨fy (by rw[dX.out]),hB.out⟩
   |cons h' bD rest=>
    simp only[az.len,az.sz] at hk hz;obtain⟨⟨⟨t',y0,_⟩,y1,y2,y3,y4,y5⟩,⟨u,y6,hu⟩,hR⟩:=hr.cons;have x0:=ag y0 hb;have x1:=ag y1 hb;have x2:=ag y2 hb;have x3:=ag y3 hb;have x4:=ag y4 hb;have x5:=ag y5 hb;have x6:=ag y6 hb;have oB:k<len:=by omega
    have bG:ka=some ⟨b,off,none⟩:=by rcases hka with q|q;(·omega);(·exact q.1)
    subst bG;obtain⟨ua,uc,rfl⟩:=hu.ay;have dU:=af ((Below.refl wr.heap.size wr).alloc (Nat.le_refl _) (.cells #[.int .i64 t',.int .u8 h'.kind,.int .u32 h'.word,.int .u8 h'.type,.string h'.name,.string h'.sign,.slice ua bD.len uc] 134));have au:=af (IH.out t' h' bD (.slice ua bD.len uc) (wr.alloc (.cells #[.int .i64 t',.int .u8 h'.kind,.int .u32 h'.word,.int .u8 h'.type,.string h'.name,.string h'.sign,.slice ua bD.len uc] 134)) (by have:=hS.out;omega) (by have:=hS.out;omega) (hu.mono (hb.trans (dU.mono hb.size))));have fE:=af (And.intro hR hz);have hM:=af hm;clear hka hr hu hR hz hb y0 y1 y2 y3 y4 y5 y6 hm;go_wp2_with fail
    refine au.mono ?_;rintro e w2 ⟨rfl,hb2⟩;have aQ:=af (hB.trans ((dU.trans (hb2.mono (by simp))).mono hB.size));clear hb2 au x0 x1 x2 x3 x4 x5 x6 dU;obtain⟨H',Ac⟩:∃q,q=bD.sz+1:=⟨_,rfl⟩;rw[←Ac];have Ki:m+H'≤100000001:=by have:=hM.out;simp only[az.sz] at this;omega
    have PZ:=af Ac;clear Ac;go_wp2_with fail
    go_roundw
    case rel=>exact⟨k+1,m+H',rest,by go_num,by omega,by go_num,fE.1,by have:=fE.2;omega,by rw[hM.out,PZ.out];simp only[az.sz];omega,aQ.out⟩
    case measure=>simp[intOf];omega
open Go.Shelf
structure gA (w:World) (q:Nat) (box:Array Value) (t:TypeId) (w':World):Prop where
 box:Bx w' q box t
 below:Below w.heap.size w w'
theorem gA.on {w w1 w2:World} {q:Nat} {box:Array Value} {t:TypeId} (h:gA w q box t w1) (hb:Below w1.heap.size w1 w2):gA w q box t w2:=
 ⟨h.box.on (ah hb) (by simp),h.below.trans (hb.mono h.below.size)⟩
theorem gA.drew {w w1:World} {q:Nat} {box:Array Value} {t:TypeId} (h:gA w q box t w1):gA w q box t w1.drew:=h.on (Below.refl _ _).drew
theorem gA.new {w w1:World} (h:Below w.heap.size w w1) (box:Array Value) (t:TypeId):gA w w1.heap.size box t (w1.alloc (.cells box t)):=⟨Bx.new w1 box t,h.alloc h.size _⟩
structure S7 (w:World) (w':World):Prop where
 below:Below w.heap.size w w'
theorem S7.on {w w1 w2:World} (h:S7 w w1) (hb:Below w1.heap.size w1 w2):S7 w w2:=⟨h.below.trans (hb.mono h.below.size)⟩
theorem S7.drew {w w1:World} (h:S7 w w1):S7 w w1.drew:=h.on (Below.refl _ _).drew
theorem DX:∀(n:Nat) (l:aH) (v:Value) (w:World),l.sz<n→l.sz≤100000000→dR w false none l v→
  Calls Tryz.prog 106 #[v] w fun e w'=>e=.returned (.int .i64 ((qG l:Nat):Int))∧Below w.heap.size w w':=by
 intro n
 induction n with
 |zero=>intro l v w hn;omega
 | succ n ih=>
  have IH:=af ih;clear ih;intro l v w hn hs hv;obtain⟨ka,b,off,c,rfl,hka,fz⟩:=hv;have hl:=l.bU;have hh:qG l≤l.sz:=mK l;have hS:=af (And.intro hn hs);have hI:=af fz;have hkb:l.len≤100000000:=by omega
  have Kh:qG l≤100000000:=by omega
  obtain⟨len,hlen⟩:∃m,m=l.len:=⟨_,rfl⟩;obtain⟨H,hH⟩:∃m,m=qG l:=⟨_,rfl⟩;rw[←hlen] at hka hl hkb⊢;rw[←hH] at Kh⊢;have bq:=af hlen;have GR:=af hH;clear hn hs fz hlen hH hh hl;go_enter Tryz.func106,Tryz.ntmps106;go_wp2_with fail
  go_loopw [3,11] (fun z i wr=>∃(k m:Nat) (r:aH),z=.int .i64 m∧k+r.len=len∧i=.int .i64 k∧bC w false none r b off k∧r.sz≤l.sz∧H=max m (qG r)∧Below w.heap.size w wr) (fun _ i _=>len- (intOf i).toNat)
  case atStart=>exact⟨0,0,l,rfl,by have:=bq.out;omega,rfl,hI.out,Nat.le_refl _,by rw[GR.out];simp,Below.refl _ _⟩
  case round=>
   clear hI;obtain⟨k,m,r,rfl,hk,rfl,hr,hz,hm,hb⟩:=hrel;obtain⟨wo,rfl⟩:∃wo:World,wo=wr:=⟨_,rfl⟩;have hB:=af hb;have hM:=af hm;cases r with
   |nil=>
    simp only[aH.len,Nat.add_zero] at hk;subst k;have dX:Hid (H=m):=af (by rw[hm];simp[qG]);have Ki:m≤100000000:=by have:=dX.out;omega
    clear hr hz hm hb;go_wp2_with fail
    go_ret;exact⟨fy (by rw[dX.out]),hB.out⟩
   | cons h x body els rest=>
    simp only[aH.len,aH.sz] at hk hz;obtain⟨⟨⟨t,y0,_⟩,y1,y2,y3,y4⟩,⟨vx,y5,hx⟩,⟨vb,y6,lS⟩,⟨ve,y7,he⟩,hR⟩:=hr.cons;have x0:=ag y0 hb;have x1:=ag y1 hb;have x2:=ag y2 hb;have x3:=ag y3 hb;have x4:=ag y4 hb;have x5:=ag y5 hb;have x6:=ag y6 hb;have x7:=ag y7 hb;have oB:k<len:=by omega
    have bG:ka=some ⟨b,off,none⟩:=by rcases hka with q|q;(·omega);(·exact q.1)
    subst bG;obtain⟨xa,xc,rfl⟩:=hx.ay;obtain⟨ba,bc,rfl⟩:=lS.ay;obtain⟨ea,ec,rfl⟩:=he.ay;obtain⟨xb,xo,rH,nH⟩:∃xb xo,(x.len=0∨xa=some ⟨xb,xo,none⟩)∧bw w false none x xb xo 0:=by
     obtain⟨PE,kb,aD,aK,hv,y2,y3⟩:=hx;cases hv;exact⟨kb,aD,y2.imp And.left And.left,y3⟩
    have zD:=x.bU;have xH:x.len≤100000000:=by have:=hS.out;omega
    obtain⟨a0,a1,a2,a3,a4⟩:=h;have Kg:=af nH;have eT:=af hz;have fE:=af hR;have hXv:=af hx;have hcb:=af (fun(w2:World) (h2:Below w.heap.size w w2)=>IH.out body (.slice ba body.len bc) w2 (by have:=hS.out;have:=eT.out;omega) (by have:=hS.out;have:=eT.out;omega) (lS.mono h2));have hce:=af (fun(w2:World) (h2:Below w.heap.size w w2)=>IH.out els (.slice ea els.len ec) w2 (by have:=hS.out;have:=eT.out;omega) (by have:=hS.out;have:=eT.out;omega) (he.mono h2));have oO:qG body≤body.sz:=mK body;have S8:qG els≤els.sz:=mK els;have DY:qG body≤100000000:=by have:=hS.out;omega
    have DZ:qG els≤100000000:=by have:=hS.out;omega
    obtain⟨Hb,Cm⟩:∃m,m=qG body:=⟨_,rfl⟩;obtain⟨He,tQ⟩:∃m,m=qG els:=⟨_,rfl⟩;rw[←Cm] at oO DY;rw[←tQ] at S8 DZ;have P0:=af Cm;have P1:=af tQ;rw[←Cm] at hcb;rw[←tQ] at hce;have hS1:=af (gA.new hb #[.int .i64 t,.int .u8 a1,.string a2,.int .u8 a3,.string a4,.slice xa x.len xc,.slice ba body.len bc,.slice ea els.len ec] 109);have hxb:qF x≤x.sz:=oZ x;have hxb2:qF x≤100000000:=by have:=hS.out;omega
    clear hka hr hx lS he hR hb y0 y1 y2 y3 y4 y5 y6 y7 nH zD hm Cm tQ hz;go_wp2_with fail
    clear x0 x1 x2 x3 x4 x5 x6 x7;refine wp_region_held_drew (S:=(gA w wo.heap.size #[.int .i64 t,.int .u8 a1,.string a2,.int .u8 a3,.string a4,.slice xa x.len xc,.slice ba body.len bc,.slice ea els.len ec] 109)) (by kernel_rfl) hS1.drew (fun hHeld=>?_);clear hS1;refine tk 0 ?_;refine tk 1 ?_ (hy:=by intro w' hSw;have c5:=hSw.box.cell 5;have c6:=hSw.box.cell 6;have c7:=hSw.box.cell 7;simp at c5 c6 c7;go_simp;(try with_reducible rfl));refine tk 3 ?_;refine tk 4 ?_ (hy:=by intro w' hSw;have c5:=hSw.box.cell 5;have c6:=hSw.box.cell 6;have c7:=hSw.box.cell 7;simp at c5 c6 c7;go_simp;(try with_reducible rfl));refine tr 2 fun K hK=>?_
    go_simp;go_at_call 106;refine(hcb.out _ hHeld.below).mono ?_;rintro e w2 ⟨rfl,hb2⟩;have hk:=hHeld.on hb2;clear hHeld hb2;go_wp2_with fail
    refine hK.out _ _ hk (fun hHeld=>?_);clear hK K hk
    try simp only[bK,bL,bM,bN,bO]
    refine tr 5 fun K hK=>?_
    go_simp;go_at_call 106;refine(hce.out _ hHeld.below).mono ?_;rintro e w2 ⟨rfl,hb2⟩;have hk:=hHeld.on hb2;clear hHeld hb2;go_wp2_with fail
    refine hK.out _ _ hk (fun hHeld=>?_);clear hK K hk
    try simp only[bK,bL,bM,bN,bO]
    refine tk 6 ?_;refine tk 7 ?_;refine td ?_;have hX:=af hHeld;simp only[rI];have p5:=hHeld.box.cell 5;simp at p5;clear hHeld;go_wp2_with fail
    clear p5
    go_loopw [6,25] (fun z i wr=>∃(j m2:Nat) (q:az),z=.int .i64 m2∧j+q.len=x.len∧i=.int .i64 j∧bw w false none q xb xo j∧q.sz≤x.sz∧max (qF x) (max Hb He)=max m2 (qF q)∧Below w.heap.size w wr) (fun _ i _=>x.len- (intOf i).toNat)
    case atStart=>exact⟨0,max Hb He,x,by simp only[rI],by omega,rfl,Kg.out,Nat.le_refl _,by omega,hX.below⟩
    case round=>
     clear Kg hX;obtain⟨j,m2,q,rfl,hj,rfl,hq,Ck,P2,hb⟩:=hrel;have zW:=af hb;have P3:=af P2;cases q with
     |nil=>
      simp only[az.len,Nat.add_zero] at hj;subst j;have hm2b:m2≤100000000:=by have:=P3.out;simp only[qF] at this;omega
      clear hq Ck P2 hb;go_wp2_with fail
      go_roundw
      case rel=>exact⟨k+1,max m (m2+1),rest,by(first|(rw[←rI];congr 1;done)|(congr 1;split<;>omega)),by omega,by go_num,fE.out,by have:=eT.out;omega,by rw[hM.out];have h1:=P3.out;rw[P0.out,P1.out] at h1;simp only[qG,qF] at h1⊢;omega,zW.out⟩
      case measure=>simp[intOf];omega
     |cons h' bD rest'=>
      simp only[az.len,az.sz] at hj Ck;obtain⟨⟨⟨t',y0,_⟩,y1,y2,y3,y4,y5⟩,⟨u,y6,hu⟩,Oo⟩:=hq.cons;have x0:=ag y0 hb;have x1:=ag y1 hb;have x2:=ag y2 hb;have x3:=ag y3 hb;have x4:=ag y4 hb;have x5:=ag y5 hb;have x6:=ag y6 hb;have hkj:j<x.len:=by omega
      have tP:xa=some ⟨xb,xo,none⟩:=by rcases rH with q|q;(·omega);(·exact q)
      subst tP;obtain⟨ua,uc,rfl⟩:=hu.ay;have dU:=af ((Below.refl wr.heap.size wr).alloc (Nat.le_refl _) (.cells #[.int .i64 t',.int .u8 h'.kind,.int .u32 h'.word,.int .u8 h'.type,.string h'.name,.string h'.sign,.slice ua bD.len uc] 134));have au:=af (GQ _ t' h' bD (.slice ua bD.len uc) (wr.alloc (.cells #[.int .i64 t',.int .u8 h'.kind,.int .u32 h'.word,.int .u8 h'.type,.string h'.name,.string h'.sign,.slice ua bD.len uc] 134)) (Nat.lt_succ_self _) (by have:=hS.out;have:=eT.out;omega) (hu.mono (hb.trans (dU.mono hb.size))));have vB:=af (And.intro Oo Ck);have hkb3:qF bD≤bD.sz:=oZ bD;clear rH hq hu Oo hb y0 y1 y2 y3 y4 y5 y6 P2;go_wp2_with fail
      refine au.mono ?_;rintro e w6 ⟨rfl,Cl⟩;have GP:=af (zW.trans ((dU.trans (Cl.mono (by simp))).mono zW.size));clear Cl au x0 x1 x2 x3 x4 x5 x6 dU;obtain⟨H',Ac⟩:∃q,q=qF bD+1:=⟨_,rfl⟩;rw[←Ac];have PZ:=af Ac;clear Ac hkb3 Ck;go_wp2_with fail
      go_roundw
      case rel=>exact⟨j+1,max m2 H',rest',by rw[rI],by omega,by go_num,vB.1,by have:=vB.2;omega,by rw[P3.out,PZ.out];simp only[qF];omega,GP.out⟩
      case measure=>simp[intOf];omega
theorem P4:∀(n:Nat) (l:aH) (v:Value) (w:World),l.sz<n→l.sz≤100000000→dR w false none l v→
  Calls Tryz.prog 107 #[v] w fun e w'=>e=.returned (.int .i64 ((aH.sz l:Nat):Int))∧Below w.heap.size w w':=by
 intro n
 induction n with
 |zero=>intro l v w hn;omega
 | succ n ih=>
  have IH:=af ih;clear ih;intro l v w hn hs hv;obtain⟨ka,b,off,c,rfl,hka,fz⟩:=hv;have hl:=l.bU;have hh:aH.sz l≤l.sz:=Nat.le_refl _;have hS:=af (And.intro hn hs);have hI:=af fz;have hkb:l.len≤100000000:=by omega
  have Kh:aH.sz l≤100000000:=by omega
  obtain⟨len,hlen⟩:∃m,m=l.len:=⟨_,rfl⟩;obtain⟨H,hH⟩:∃m,m=aH.sz l:=⟨_,rfl⟩;rw[←hlen] at hka hl hkb⊢;rw[←hH] at Kh⊢;have bq:=af hlen;have GR:=af hH;clear hn hs fz hlen hH hh hl;go_enter Tryz.func107,Tryz.ntmps107;go_wp2_with fail
  go_loopw [3,10] (fun z i wr=>∃(k m:Nat) (r:aH),z=.int .i64 m∧k+r.len=len∧i=.int .i64 k∧bC w false none r b off k∧r.sz≤l.sz∧H=m+r.sz∧Below w.heap.size w wr) (fun _ i _=>len- (intOf i).toNat)
  case atStart=>exact⟨0,0,l,rfl,by have:=bq.out;omega,rfl,hI.out,Nat.le_refl _,by rw[GR.out];simp,Below.refl _ _⟩
  case round=>
   clear hI;obtain⟨k,m,r,rfl,hk,rfl,hr,hz,hm,hb⟩:=hrel;obtain⟨wo,rfl⟩:∃wo:World,wo=wr:=⟨_,rfl⟩;have hB:=af hb;have hM:=af hm;cases r with
   |nil=>
    simp only[aH.len,Nat.add_zero] at hk;subst k;have dX:Hid (H=m):=af (by rw[hm];simp[aH.sz]);have Ki:m≤100000000:=by have:=dX.out;omega
    clear hr hz hm hb;go_wp2_with fail
    go_ret;exact⟨fy (by rw[dX.out]),hB.out⟩
   | cons h x body els rest=>
    simp only[aH.len,aH.sz] at hk hz;obtain⟨⟨⟨t,y0,_⟩,y1,y2,y3,y4⟩,⟨vx,y5,hx⟩,⟨vb,y6,lS⟩,⟨ve,y7,he⟩,hR⟩:=hr.cons;have x0:=ag y0 hb;have x1:=ag y1 hb;have x2:=ag y2 hb;have x3:=ag y3 hb;have x4:=ag y4 hb;have x5:=ag y5 hb;have x6:=ag y6 hb;have x7:=ag y7 hb;have oB:k<len:=by omega
    have bG:ka=some ⟨b,off,none⟩:=by rcases hka with q|q;(·omega);(·exact q.1)
    subst bG;obtain⟨xa,xc,rfl⟩:=hx.ay;obtain⟨ba,bc,rfl⟩:=lS.ay;obtain⟨ea,ec,rfl⟩:=he.ay;obtain⟨xb,xo,rH,nH⟩:∃xb xo,(x.len=0∨xa=some ⟨xb,xo,none⟩)∧bw w false none x xb xo 0:=by
     obtain⟨PE,kb,aD,aK,hv,y2,y3⟩:=hx;cases hv;exact⟨kb,aD,y2.imp And.left And.left,y3⟩
    have zD:=x.bU;have xH:x.len≤100000000:=by have:=hS.out;omega
    obtain⟨a0,a1,a2,a3,a4⟩:=h;have Kg:=af nH;have eT:=af hz;have fE:=af hR;have hXv:=af hx;have hcb:=af (fun(w2:World) (h2:Below w.heap.size w w2)=>IH.out body (.slice ba body.len bc) w2 (by have:=hS.out;have:=eT.out;omega) (by have:=hS.out;have:=eT.out;omega) (lS.mono h2));have hce:=af (fun(w2:World) (h2:Below w.heap.size w w2)=>IH.out els (.slice ea els.len ec) w2 (by have:=hS.out;have:=eT.out;omega) (by have:=hS.out;have:=eT.out;omega) (he.mono h2));have oO:aH.sz body≤body.sz:=Nat.le_refl _;have S8:aH.sz els≤els.sz:=Nat.le_refl _;have DY:aH.sz body≤100000000:=by have:=hS.out;omega
    have DZ:aH.sz els≤100000000:=by have:=hS.out;omega
    obtain⟨Hb,Cm⟩:∃m,m=aH.sz body:=⟨_,rfl⟩;obtain⟨He,tQ⟩:∃m,m=aH.sz els:=⟨_,rfl⟩;rw[←Cm] at oO DY;rw[←tQ] at S8 DZ;have P0:=af Cm;have P1:=af tQ;rw[←Cm] at hcb;rw[←tQ] at hce;have hS1:=af (gA.new hb #[.int .i64 t,.int .u8 a1,.string a2,.int .u8 a3,.string a4,.slice xa x.len xc,.slice ba body.len bc,.slice ea els.len ec] 109);have Ki:m+ (x.sz+Hb+He+1)≤100000000:=by simp only[aH.sz] at hm;omega
    clear hka hr hx lS he hR hb y0 y1 y2 y3 y4 y5 y6 y7 nH zD hm Cm tQ hz oO S8 DY DZ;go_wp2_with fail
    clear x0 x1 x2 x3 x4 x5 x6 x7;refine wp_region_held_drew (S:=(gA w wo.heap.size #[.int .i64 t,.int .u8 a1,.string a2,.int .u8 a3,.string a4,.slice xa x.len xc,.slice ba body.len bc,.slice ea els.len ec] 109)) (by kernel_rfl) hS1.drew (fun hHeld=>?_);clear hS1;refine tk 0 ?_;refine tk 1 ?_;refine tk 2 ?_ (hy:=by intro w' hSw;have c5:=hSw.box.cell 5;have c6:=hSw.box.cell 6;have c7:=hSw.box.cell 7;simp at c5 c6 c7;go_simp;(try with_reducible rfl));refine tk 5 ?_;refine tk 6 ?_ (hy:=by intro w' hSw;have c5:=hSw.box.cell 5;have c6:=hSw.box.cell 6;have c7:=hSw.box.cell 7;simp at c5 c6 c7;go_simp;(try with_reducible rfl));refine tr 3 fun K hK=>?_
    go_simp;go_at_call 107;refine(hcb.out _ hHeld.below).mono ?_;rintro e w2 ⟨rfl,hb2⟩;have hk:=hHeld.on hb2;clear hHeld hb2;go_wp2_with fail
    refine hK.out _ _ hk (fun hHeld=>?_);clear hK K hk
    try simp only[bK,bL,bM,bN,bO]
    refine tk 4 ?_;refine tr 7 fun K hK=>?_
    go_simp;go_at_call 107;refine(hce.out _ hHeld.below).mono ?_;rintro e w2 ⟨rfl,hb2⟩;have hk:=hHeld.on hb2;clear hHeld hb2;go_wp2_with fail
    refine hK.out _ _ hk (fun hHeld=>?_);clear hK K hk
    try simp only[bK,bL,bM,bN,bO]
    refine tk 8 ?_;refine tk 9 ?_;refine tk 10 ?_;refine td ?_;have hX:=af hHeld;rw[show IntKind.i64.wrap (1+ (Hb:Int))=1+ (Hb:Int) from IntWalk.i64_in _ (by omega),show IntKind.i64.wrap (1+ (Hb:Int)+ (He:Int))=1+ (Hb:Int)+ (He:Int) from IntWalk.i64_in _ (by omega),show IntKind.i64.wrap ((m:Int)+ (1+ (Hb:Int)+ (He:Int)))=(m:Int)+ (1+ (Hb:Int)+ (He:Int)) from IntWalk.i64_in _ (by omega)];have p5:=hHeld.box.cell 5;simp at p5;clear hHeld;go_wp2_with fail
    clear p5
    go_loopw [3,27] (fun z i wr=>∃(j m2:Nat) (q:az),z=.int .i64 m2∧j+q.len=x.len∧i=.int .i64 j∧bw w false none q xb xo j∧q.sz≤x.sz∧m+ (x.sz+Hb+He+1)=m2+q.sz∧Below w.heap.size w wr) (fun _ i _=>x.len- (intOf i).toNat)
    case atStart=>exact⟨0,m+ (1+Hb+He),x,by first|go_num|(congr 1;omega),by omega,rfl,Kg.out,Nat.le_refl _,by omega,hX.below⟩
    case round=>
     clear Kg hX;obtain⟨j,m2,q,rfl,hj,rfl,hq,Ck,P2,hb⟩:=hrel;have zW:=af hb;have P3:=af P2;cases q with
     |nil=>
      simp only[az.len,Nat.add_zero] at hj;subst j;clear hq Ck P2 hb;go_wp2_with fail
      go_roundw
      case rel=>exact⟨k+1,m2,rest,rfl,by omega,by go_num,fE.out,by have:=eT.out;omega,by rw[hM.out];have h1:=P3.out;rw[P0.out,P1.out] at h1;simp only[aH.sz,az.sz] at h1⊢;omega,zW.out⟩
      case measure=>simp[intOf];omega
     |cons h' bD rest'=>
      simp only[az.len,az.sz] at hj Ck;obtain⟨⟨⟨t',y0,_⟩,y1,y2,y3,y4,y5⟩,⟨u,y6,hu⟩,Oo⟩:=hq.cons;have x0:=ag y0 hb;have x1:=ag y1 hb;have x2:=ag y2 hb;have x3:=ag y3 hb;have x4:=ag y4 hb;have x5:=ag y5 hb;have x6:=ag y6 hb;have hkj:j<x.len:=by omega
      have tP:xa=some ⟨xb,xo,none⟩:=by rcases rH with q|q;(·omega);(·exact q)
      subst tP;obtain⟨ua,uc,rfl⟩:=hu.ay;have dU:=af ((Below.refl wr.heap.size wr).alloc (Nat.le_refl _) (.cells #[.int .i64 t',.int .u8 h'.kind,.int .u32 h'.word,.int .u8 h'.type,.string h'.name,.string h'.sign,.slice ua bD.len uc] 134));have au:=af (Lp _ t' h' bD (.slice ua bD.len uc) (wr.alloc (.cells #[.int .i64 t',.int .u8 h'.kind,.int .u32 h'.word,.int .u8 h'.type,.string h'.name,.string h'.sign,.slice ua bD.len uc] 134)) (Nat.lt_succ_self _) (by have:=hS.out;have:=eT.out;omega) (hu.mono (hb.trans (dU.mono hb.size))));have vB:=af (And.intro Oo Ck);clear rH hq hu Oo hb y0 y1 y2 y3 y4 y5 y6 P2;go_wp2_with fail
      refine au.mono ?_;rintro e w6 ⟨rfl,Cl⟩;have GP:=af (zW.trans ((dU.trans (Cl.mono (by simp))).mono zW.size));clear Cl au x0 x1 x2 x3 x4 x5 x6 dU;obtain⟨H',Ac⟩:∃q,q=bD.sz+1:=⟨_,rfl⟩;rw[←Ac];have Lq:m2+H'≤100000000:=by have:=P3.out;simp only[az.sz] at this;omega
      have PZ:=af Ac;clear Ac Ck;go_wp2_with fail
      go_roundw
      case rel=>exact⟨j+1,m2+H',rest',by go_num,by omega,by go_num,vB.1,by have:=vB.2;omega,by rw[P3.out,PZ.out];simp only[az.sz];omega,GP.out⟩
      case measure=>simp[intOf];omega
open Go.Shelf
end
section
open Go.Shelf
def jF (a:PW):Bool:=aS a.1&&fh a.2
def D1 (l:List PW):Bool:=l.all jF&&decide (l.length≤15)
theorem vC {α:Type} (f:α→Bool) (l:List α) (k:Nat) (h:k<l.length):(l.drop k).all f=(f l[k]&&(l.drop (k+1)).all f):=by
 rw[List.drop_eq_getElem_cons h];rfl
theorem qH {α:Type} (f:α→Bool) (l:List α):(l.drop l.length).all f=true:=by
 rw[List.drop_eq_nil_of_le (Nat.le_refl _)];rfl
theorem dE.ay {w:World} {o:Option (Nat→Prop)} {l:List PW} {v:Value} (h:dE w o l v):∃a c,v=.slice a l.length c:=h.shape
theorem ei.open {α:Type} {w:World} {o:Option (Nat→Prop)} {t:TypeId} {n:Nat} {R:α→Nat→Nat→Prop} {l:List α} {v:Value} (h:ei w o t n R l v):
  ∃ka kb aD aK,v=.slice ka l.length aK∧(l.length=0∨ka=some ⟨kb,aD,none⟩)∧∀i (h:i<l.length),R l[i] kb (aD+i*n):=by
 obtain⟨ka,kb,aD,aK,rfl,y2,y3⟩:=h;exact⟨ka,kb,aD,aK,rfl,y2.imp And.left And.left,y3⟩
theorem params31 (l:List PW) (v:Value) (w:World) (hs:l.length≤100000000) (Cg:∀a∈l,a.1.size≤1048576) (hv:dE w none l v):
  Calls Tryz.prog 136 #[v] w fun e w'=>e=.returned (.bool (D1 l))∧Below w.heap.size w w':=by
 obtain⟨ka,b,off,c,rfl,hka,fz⟩:=ei.open hv;have hI:=af fz;have hW:=af Cg;obtain⟨len,hlen⟩:∃m,m=l.length:=⟨_,rfl⟩;rw[←hlen] at hka hs⊢;have bq:=af hlen;clear fz Cg hv hlen;go_enter Tryz.func136,Tryz.ntmps136;go_wp2_with fail
 go_loopw [2,7] (fun z i wr=>∃k:Nat,z=.bool false∧k≤len∧i=.int .i64 k∧l.all jF=(l.drop k).all jF∧Below w.heap.size w wr) (fun _ i _=>len- (intOf i).toNat)
 case atStart=>exact⟨0,rfl,Nat.zero_le _,rfl,rfl,Below.refl _ _⟩
 case round=>
  obtain⟨k,rfl,hk,rfl,dU,hb⟩:=hrel;have hA:=af dU;have hB:=af hb;by_cases hlt:k<len
  ·have bH:k<l.length:=by have:=bq.out;omega
   obtain⟨y0,y1⟩:=hI.out k bH;have hat:=af (vC jF l k bH);have gO:=hW.out _ (List.getElem_mem bH);have x0:=ag y0 hb;have x1:=ag y1 hb;have bG:ka=some ⟨b,off,none⟩:=by rcases hka with q|q;(·omega);(·exact q)
   subst bG;generalize l[k]'bH=a at*;obtain⟨nm,ty⟩:=a;simp only[] at x0 x1 gO;have hX:=af (gA.new hb #[.string nm,.int .u8 ty] 46);have hc:=af (fS nm (wr.alloc (.cells #[.string nm,.int .u8 ty] 46)) gO);clear hka dU hb y0 y1 gO;go_wp2_with fail
   refine hc.mono ?_;rintro e w2 ⟨rfl,hb2⟩;have aL:=af (hX.on hb2);have p1:=aL.box.cell 1;have pl:=aL.box.lt;simp at p1;clear hb2 hc hX x0 x1;cases h1:aS nm
   ·have hE:Hid (l.all jF=false):=af (by rw[hA.out,hat.out];simp only[jF,h1];rfl);go_wp2_with fail
    go_ret;exact⟨aq (by unfold D1;rw[hE.out];rfl),aL.below⟩
   have hc:=af (jC ty w2);go_wp2_with fail
   refine hc.mono ?_;rintro e w3 ⟨rfl,hw⟩;subst w3;clear p1 pl hc;cases h2:fh ty
   ·have hE:Hid (l.all jF=false):=af (by rw[hA.out,hat.out];simp only[jF,h1,h2];rfl);go_wp2_with fail
    go_ret;exact⟨aq (by unfold D1;rw[hE.out];rfl),aL.below⟩
   ·have hE:Hid (l.all jF=(l.drop (k+1)).all jF):=af (by rw[hA.out,hat.out];simp only[jF,h1,h2];rfl);go_wp2_with fail
    go_roundw
    case rel=>exact⟨k+1,rfl,by omega,by go_num,hE.out,aL.below⟩
    case measure=>simp[intOf];omega
  ·obtain rfl:k=len:=by omega
   have hE:Hid (l.all jF=true):=af (by rw[hA.out];have:=bq.out;rw[this];exact qH _ _);clear dU hb hka;go_wp2_with fail
   go_ret;exact⟨aq (by unfold D1;rw[hE.out,←bq.out];simp;try omega),hB.out⟩
def Kj (name:ByteArray) (type len word:Int):Bool:=aS name&&(fh type&&(!decide (4096<len)&&(!(decide (0<len)&&word !=0)&&(type==1||xC word))))
theorem GS (t:Int) (nm:ByteArray) (ty ln wd:Int) (w:World) (hs:nm.size≤1048576) (hw:0≤wd∧wd<4294967296):
  Calls Tryz.prog 133 #[.agg #[.int .i64 t,.string nm,.int .u8 ty,.int .u32 ln,.int .u32 wd]] w fun e w'=>e=.returned (.bool (Kj nm ty ln wd))∧Below w.heap.size w w':=by
 have hX:=af (gA.new (Below.refl w.heap.size w) #[.int .i64 t,.string nm,.int .u8 ty,.int .u32 ln,.int .u32 wd] 105);have hc:=af (fS nm (w.alloc (.cells #[.int .i64 t,.string nm,.int .u8 ty,.int .u32 ln,.int .u32 wd] 105)) hs);have hW:=af hw;clear hs hw;go_enter Tryz.func133,Tryz.ntmps133;go_wp2_with fail
 refine hc.mono ?_;rintro e w2 ⟨rfl,hb2⟩;have aL:=af (hX.on hb2);have p2:=aL.box.cell 2;have p3:=aL.box.cell 3;have p4:=aL.box.cell 4;simp at p2 p3 p4;clear hb2 hc hX;cases h1:aS nm
 ·go_wp2_with fail
  go_ret;exact⟨aq (by simp only[Kj,h1,Bool.false_and]),aL.below⟩
 have hc:=af (jC ty w2);go_wp2_with fail
 refine hc.mono ?_;rintro e w3 ⟨rfl,hw⟩;subst w3;cases h2:fh ty
 ·go_wp2_with fail
  go_ret;exact⟨aq (by simp only[Kj,h1,h2,Bool.false_and,Bool.true_and]),aL.below⟩
 by_cases h3:4096<ln
 ·have q3:decide (4096<ln)=true:=by simpa using h3
  go_wp2_with fail
  go_ret;exact⟨aq (by simp only[Kj,h1,h2,q3];rfl),aL.below⟩
 have q3:decide (4096<ln)=false:=by simpa using h3
 by_cases h4:0<ln∧wd≠0
 ·have q4:decide (0<ln)=true:=by simpa using h4.1
  have q5:(wd !=0)=true:=by simpa using h4.2
  have h5:=h4.1;clear h4;go_wp2_with fail
  go_ret;exact⟨aq (by simp only[Kj,h1,h2,q3,q4,q5];rfl),aL.below⟩
 have q4:(decide (0<ln)&&wd !=0)=false:=by
  cases hq:(decide (0<ln)&&wd !=0)
  ·rfl
  ·simp at hq;exact absurd hq h4
 have iO:Hid (Kj nm ty ln wd=(ty==1||xC wd)):=af (by simp only[Kj,h1,h2,q3,q4];rfl);have Q4:=af q4;clear q4;have oY:=af (xD wd hW.out w2);clear hc h1 h2;by_cases h5:0<ln
 ·have h6:wd=0:=by
   by_cases q:wd=0
   ·exact q
   ·exact absurd ⟨h5,q⟩ h4
  have h7:=h5;subst h6;clear h4;cases ht:ty==1
  ·go_wp2_with fail
   refine oY.mono ?_;rintro e w3 ⟨rfl,hw⟩;subst w3;go_wp2_with fail
   go_ret;exact⟨aq (by rw[iO.out,ht];rfl),aL.below⟩
  ·go_wp2_with fail
   go_ret;exact⟨aq (by rw[iO.out,ht];rfl),aL.below⟩
 ·clear h4;cases ht:ty==1
  ·go_wp2_with fail
   refine oY.mono ?_;rintro e w3 ⟨rfl,hw⟩;subst w3;go_wp2_with fail
   go_ret;exact⟨aq (by rw[iO.out,ht];rfl),aL.below⟩
  ·go_wp2_with fail
   go_ret;exact⟨aq (by rw[iO.out,ht];rfl),aL.below⟩
open Go.Shelf
structure UT.Wf (u:UT):Prop where
 g:∀x∈u.gs,x.name.size≤1048576∧0≤x.word∧x.word<4294967296
 h:∀x∈u.hs,x.name.size≤1048576∧∀a∈x.params,a.1.size≤1048576
 f:∀x∈u.fs,x.name.size≤1048576∧(∀a∈x.params,a.1.size≤1048576)∧x.body.Wf
def nI (g:GH):Bool:=Kj g.name g.type g.len g.word
def jm (h:HH):Bool:=aS h.name&&(fh h.type&&(D1 h.params&& !decide (2147483647<h.number)))
def iC (f:FH):Bool:=aS f.name&&(fh f.type&&(D1 f.params&&gU f.body))
def ej (u:UT):Bool:=u.gs.all nI&&(u.hs.all jm&&u.fs.all iC)
theorem Ls {u:UT} (h:u.gs.all nI=false):ej u=false:=by unfold ej;rw[h];rfl
theorem qI {u:UT} (h:u.hs.all jm=false):ej u=false:=by unfold ej;rw[h];simp
theorem qJ {u:UT} (h:u.fs.all iC=false):ej u=false:=by unfold ej;rw[h];simp
theorem Lt {u:UT} (h1:u.gs.all nI=true) (h2:u.hs.all jm=true) (h3:u.fs.all iC=true):ej u=true:=by unfold ej;rw[h1,h2,h3];rfl
theorem P5 (u:UT) (v:Value) (w:World) (ok:u.Ok) (wf:u.Wf) (hv:jR w false none u v):
  Calls Tryz.prog 105 #[v] w fun e w'=>e=.returned (.bool (ej u))∧Below w.heap.size w w':=by
 obtain⟨vg,vh,vf,rfl,hg,hh,hf⟩:=hv;obtain⟨ga,gb,go,gc,rfl,oH,tC⟩:=ei.open hg;obtain⟨ha,Ad,ho,hc,rfl,ig,vD⟩:=ei.open hh;obtain⟨fa,fb,fo,fc,rfl,mL,pN⟩:=ei.open hf;have hG:=af tC;have hH:=af vD;have hF:=af pN;have OK:=af ok;have WF:=af wf;have g1:=ok.g;have g2:=ok.h;have g3:=ok.f;obtain⟨mg,iY⟩:∃m,m=u.gs.length:=⟨_,rfl⟩;obtain⟨mh,j1⟩:∃m,m=u.hs.length:=⟨_,rfl⟩;obtain⟨mf,iw⟩:∃m,m=u.fs.length:=⟨_,rfl⟩;rw[←iY] at oH g1⊢;rw[←j1] at ig g2⊢;rw[←iw] at mL g3⊢;have xJ:=af iY;have xK:=af j1;have pO:=af iw;clear hg hh hf tC vD pN ok wf iY j1 iw;have cG:=af (gA.new (Below.refl w.heap.size w) #[.slice ga mg gc,.slice ha mh hc,.slice fa mf fc] 26);go_enter Tryz.func105,Tryz.ntmps105;go_wp2_with fail
 go_loopw [2,12] (fun z i wr=>∃k:Nat,z=.bool false∧k≤mg∧i=.int .i64 k∧u.gs.all nI=(u.gs.drop k).all nI∧gA w w.heap.size #[.slice ga mg gc,.slice ha mh hc,.slice fa mf fc] 26 wr) (fun _ i _=>mg- (intOf i).toNat)
 case atStart=>exact⟨0,rfl,Nat.zero_le _,rfl,rfl,cG.out⟩
 case round=>
  clear cG;obtain⟨k,rfl,hk,rfl,dU,hX⟩:=hrel;have hA:=af dU;have aB:=af hX;have hb:=af hX.below;have p0:=aB.box.cell 0;have p1:=aB.box.cell 1;have p2:=aB.box.cell 2;simp at p0 p1 p2;clear dU hX;by_cases hlt:k<mg
  ·have bH:k<u.gs.length:=by have:=xJ.out;omega
   obtain⟨⟨t,y0,_⟩,y1,y2,y3,y4⟩:=hG.out k bH;have gO:=WF.g _ (List.getElem_mem bH);have hat:=af (vC nI u.gs k bH);have x0:=ag y0 hb.out;have x1:=ag y1 hb.out;have x2:=ag y2 hb.out;have x3:=ag y3 hb.out;have x4:=ag y4 hb.out;have bG:ga=some ⟨gb,go,none⟩:=by rcases oH with q|q;(·omega);(·exact q)
   subst bG;generalize u.gs[k]'bH=a at*;obtain⟨Cn,nm,ty,ln,wd⟩:=a;simp only[] at x0 x1 x2 x3 x4 gO;have hW:=af gO;have hY:=af (gA.new aB.below #[.int .i64 t,.string nm,.int .u8 ty,.int .u32 ln,.int .u32 wd] 105);have Co:=af (fun(w2:World) (h:Below (wr.alloc (.cells #[.int .i64 t,.string nm,.int .u8 ty,.int .u32 ln,.int .u32 wd] 105)).heap.size (wr.alloc (.cells #[.int .i64 t,.string nm,.int .u8 ty,.int .u32 ln,.int .u32 wd] 105)) w2)=>aB.on (((Below.refl wr.heap.size wr).alloc (Nat.le_refl _) (.cells #[.int .i64 t,.string nm,.int .u8 ty,.int .u32 ln,.int .u32 wd] 105)).trans (h.mono (by simp))));have hcc:=af (GS t nm ty ln wd _ hW.1 hW.2:Calls Tryz.prog 133 _ (wr.alloc (.cells #[.int .i64 t,.string nm,.int .u8 ty,.int .u32 ln,.int .u32 wd] 105)) _);clear oH gO y0 y1 y2 y3 y4 p0 p1 p2;go_wp2_with fail
   refine hcc.mono ?_;rintro e w2 ⟨rfl,hb2⟩;have aL:=af (Co.out w2 hb2);clear hb2 hcc Co hY x0 x1 x2 x3 x4;cases h1:Kj nm ty ln wd
   ·have hE:Hid (u.gs.all nI=false):=af (by rw[hA.out,hat.out];simp only[nI,h1];rfl);go_wp2_with fail
    go_ret;exact⟨aq (Ls hE.out).symm,aL.below⟩
   ·have hE:Hid (u.gs.all nI=(u.gs.drop (k+1)).all nI):=af (by rw[hA.out,hat.out];simp only[nI,h1];rfl);go_wp2_with fail
    go_roundw
    case rel=>exact⟨k+1,rfl,by omega,by go_num,hE.out,aL.out⟩
    case measure=>simp[intOf];omega
  ·have hkm:k=mg:=by omega
   subst k;have hEgs:Hid (u.gs.all nI=true):=af (by rw[hA.out];have:=xJ.out;rw[this];exact qH _ _);clear hlt hk hA hb;go_wp2_with fail
   clear p0 p1 p2
   go_loopw [2,23] (fun z i wr=>∃k:Nat,z=.bool false∧k≤mh∧i=.int .i64 k∧u.hs.all jm=(u.hs.drop k).all jm∧gA w w.heap.size #[.slice ga mg gc,.slice ha mh hc,.slice fa mf fc] 26 wr) (fun _ i _=>mh- (intOf i).toNat)
   case atStart=>exact⟨0,rfl,Nat.zero_le _,rfl,rfl,aB.out⟩
   case round=>
    clear aB;obtain⟨k,rfl,hk,rfl,dU,hX⟩:=hrel;have hA:=af dU;have aB:=af hX;have hb:=af hX.below;have p0:=aB.box.cell 0;have p1:=aB.box.cell 1;have p2:=aB.box.cell 2;simp at p0 p1 p2;clear dU hX;by_cases hlt:k<mh
    ·have bH:k<u.hs.length:=by have:=xK.out;omega
     obtain⟨⟨t,y0,_⟩,y1,⟨pv,y2,pP⟩,y3,y4⟩:=hH.out k bH;have gO:=WF.h _ (List.getElem_mem bH);have hpl:=OK.hp _ (List.getElem_mem bH);have hat:=af (vC jm u.hs k bH);have x0:=ag y0 hb.out;have x1:=ag y1 hb.out;have x2:=ag y2 hb.out;have x3:=ag y3 hb.out;have x4:=ag y4 hb.out;have bG:ha=some ⟨Ad,ho,none⟩:=by rcases ig with q|q;(·omega);(·exact q)
     subst bG;generalize u.hs[k]'bH=a at*;obtain⟨Cn,nm,ps,ty,nu⟩:=a;obtain⟨pa,pc,rfl⟩:=pP.ay;simp only[] at x0 x1 x2 x3 x4 gO hpl;have hW:=af gO;have hP:=af (And.intro pP hpl);have hY:=af (gA.new aB.below #[.int .i64 t,.string nm,.slice pa ps.length pc,.int .u8 ty,.int .u32 nu] 101);have Co:=af (fun(w2:World) (h:Below (wr.alloc (.cells #[.int .i64 t,.string nm,.slice pa ps.length pc,.int .u8 ty,.int .u32 nu] 101)).heap.size (wr.alloc (.cells #[.int .i64 t,.string nm,.slice pa ps.length pc,.int .u8 ty,.int .u32 nu] 101)) w2)=>aB.on (((Below.refl wr.heap.size wr).alloc (Nat.le_refl _) (.cells #[.int .i64 t,.string nm,.slice pa ps.length pc,.int .u8 ty,.int .u32 nu] 101)).trans (h.mono (by simp))));have hcc:=af (fS nm (wr.alloc (.cells #[.int .i64 t,.string nm,.slice pa ps.length pc,.int .u8 ty,.int .u32 nu] 101)) hW.1);clear ig gO y0 y1 y2 y3 y4 pP hpl;go_wp2_with fail
     refine hcc.mono ?_;rintro e w2 ⟨rfl,hb2⟩;have aL:=af (Co.out w2 hb2);have oF:=af (hY.on hb2);clear hb2 hcc Co hY p0 p1 p2 x0 x1 x2 x3 x4;have q2:=oF.box.cell 2;have q3:=oF.box.cell 3;have q4:=oF.box.cell 4;have ql:=oF.box.lt;simp at q2 q3 q4;cases h1:aS nm
     ·have hE:Hid (u.hs.all jm=false):=af (by rw[hA.out,hat.out];simp only[jm,h1,Bool.false_and,Bool.true_and,Bool.and_false,Bool.not_true,Bool.not_false]);go_wp2_with fail
      go_ret;exact⟨aq (qI hE.out).symm,aL.below⟩
     have hcc:=af (jC ty w2);go_wp2_with fail
     refine hcc.mono ?_;rintro e w3 ⟨rfl,hw⟩;subst w3;clear hcc;cases h2:fh ty
     ·have hE:Hid (u.hs.all jm=false):=af (by rw[hA.out,hat.out];simp only[jm,h1,h2,Bool.false_and,Bool.true_and,Bool.and_false,Bool.not_true,Bool.not_false]);go_wp2_with fail
      go_ret;exact⟨aq (qI hE.out).symm,aL.below⟩
     have hcc:=af (params31 ps (.slice pa ps.length pc) w2 hP.2 hW.2 (hP.1.mono aL.below (fun _ _ _ h=>h.mono aL.below)));go_wp2_with fail
     refine hcc.mono ?_;rintro e w3 ⟨rfl,hb3⟩;have cq:=af (aL.on hb3);have Kk:=af (oF.on hb3);clear hb3 hcc ql q2 q3 q4 aL oF;have q4:=Kk.box.cell 4;simp at q4;cases h3:D1 ps
     ·have hE:Hid (u.hs.all jm=false):=af (by rw[hA.out,hat.out];simp only[jm,h1,h2,h3,Bool.false_and,Bool.true_and,Bool.and_false,Bool.not_true,Bool.not_false]);go_wp2_with fail
      go_ret;exact⟨aq (qI hE.out).symm,cq.below⟩
     by_cases h4:2147483647<nu
     ·have h5:decide (2147483647<nu)=true:=by simpa using h4
      have hE:Hid (u.hs.all jm=false):=af (by rw[hA.out,hat.out];simp only[jm,h1,h2,h3,h5,Bool.false_and,Bool.true_and,Bool.and_false,Bool.not_true,Bool.not_false]);clear h5;go_wp2_with fail
      go_ret;exact⟨aq (qI hE.out).symm,cq.below⟩
     have h5:decide (2147483647<nu)=false:=by simpa using h4
     have hE:Hid (u.hs.all jm=(u.hs.drop (k+1)).all jm):=af (by rw[hA.out,hat.out];simp only[jm,h1,h2,h3,h5,Bool.true_and,Bool.not_false]);clear h5;go_wp2_with fail
     go_roundw
     case rel=>exact⟨k+1,rfl,by omega,by go_num,hE.out,cq.out⟩
     case measure=>simp[intOf];omega
    ·have hkm:k=mh:=by omega
     subst k;have hEhs:Hid (u.hs.all jm=true):=af (by rw[hA.out];have:=xK.out;rw[this];exact qH _ _);clear hlt hk hA hb;go_wp2_with fail
     clear p0 p1 p2
     go_loopw [2,52] (fun z i wr=>∃k:Nat,z=.bool false∧k≤mf∧i=.int .i64 k∧u.fs.all iC=(u.fs.drop k).all iC∧gA w w.heap.size #[.slice ga mg gc,.slice ha mh hc,.slice fa mf fc] 26 wr) (fun _ i _=>mf- (intOf i).toNat)
     case atStart=>exact⟨0,rfl,Nat.zero_le _,rfl,rfl,aB.out⟩
     case round=>
      clear aB;obtain⟨k,rfl,hk,rfl,dU,hX⟩:=hrel;have hA:=af dU;have aB:=af hX;have hb:=af hX.below;have p0:=aB.box.cell 0;have p1:=aB.box.cell 1;have p2:=aB.box.cell 2;simp at p0 p1 p2;clear dU hX;by_cases hlt:k<mf
      ·have bH:k<u.fs.length:=by have:=pO.out;omega
       obtain⟨⟨t,y0,_⟩,y1,⟨pv,y2,pP⟩,y3,y4,⟨bv,y5,tJ⟩⟩:=hF.out k bH;have gO:=WF.f _ (List.getElem_mem bH);have hpl:=OK.fp _ (List.getElem_mem bH);have hbl:=OK.fb _ (List.getElem_mem bH);have hat:=af (vC iC u.fs k bH);have x0:=ag y0 hb.out;have x1:=ag y1 hb.out;have x2:=ag y2 hb.out;have x3:=ag y3 hb.out;have x4:=ag y4 hb.out;have x5:=ag y5 hb.out;have bG:fa=some ⟨fb,fo,none⟩:=by rcases mL with q|q;(·omega);(·exact q)
       subst bG;generalize u.fs[k]'bH=a at*;obtain⟨Cn,nm,ps,ty,op,bd⟩:=a;obtain⟨pa,pc,rfl⟩:=pP.ay;obtain⟨ba,bc,rfl⟩:=tJ.ay;simp only[] at x0 x1 x2 x3 x4 x5 gO hpl hbl;have hW:=af gO;have hP:=af (And.intro pP hpl);have D2:=af (And.intro tJ hbl);have hY:=af (gA.new aB.below #[.int .i64 t,.string nm,.slice pa ps.length pc,.int .u8 ty,.bool op,.slice ba bd.len bc] 43);have Co:=af (fun(w2:World) (h:Below (wr.alloc (.cells #[.int .i64 t,.string nm,.slice pa ps.length pc,.int .u8 ty,.bool op,.slice ba bd.len bc] 43)).heap.size (wr.alloc (.cells #[.int .i64 t,.string nm,.slice pa ps.length pc,.int .u8 ty,.bool op,.slice ba bd.len bc] 43)) w2)=>aB.on (((Below.refl wr.heap.size wr).alloc (Nat.le_refl _) (.cells #[.int .i64 t,.string nm,.slice pa ps.length pc,.int .u8 ty,.bool op,.slice ba bd.len bc] 43)).trans (h.mono (by simp))));have hcc:=af (fS nm (wr.alloc (.cells #[.int .i64 t,.string nm,.slice pa ps.length pc,.int .u8 ty,.bool op,.slice ba bd.len bc] 43)) hW.1);clear mL gO y0 y1 y2 y3 y4 y5 pP hpl tJ hbl;go_wp2_with fail
       refine hcc.mono ?_;rintro e w2 ⟨rfl,hb2⟩;have aL:=af (Co.out w2 hb2);have oF:=af (hY.on hb2);clear hb2 hcc Co hY p0 p1 p2 x0 x1 x2 x3 x4 x5;have q2:=oF.box.cell 2;have q3:=oF.box.cell 3;have q4:=oF.box.cell 4;have q5:=oF.box.cell 5;have ql:=oF.box.lt;simp at q2 q3 q4 q5;cases h1:aS nm
       ·have hE:Hid (u.fs.all iC=false):=af (by rw[hA.out,hat.out];simp only[iC,h1,Bool.false_and,Bool.true_and,Bool.and_false,Bool.not_true,Bool.not_false]);go_wp2_with fail
        go_ret;exact⟨aq (qJ hE.out).symm,aL.below⟩
       have hcc:=af (jC ty w2);go_wp2_with fail
       refine hcc.mono ?_;rintro e w3 ⟨rfl,hw⟩;subst w3;clear hcc;cases h2:fh ty
       ·have hE:Hid (u.fs.all iC=false):=af (by rw[hA.out,hat.out];simp only[iC,h1,h2,Bool.false_and,Bool.true_and,Bool.and_false,Bool.not_true,Bool.not_false]);go_wp2_with fail
        go_ret;exact⟨aq (qJ hE.out).symm,aL.below⟩
       have hcc:=af (params31 ps (.slice pa ps.length pc) w2 hP.2 hW.2.1 (hP.1.mono aL.below (fun _ _ _ h=>h.mono aL.below)));go_wp2_with fail
       refine hcc.mono ?_;rintro e w3 ⟨rfl,hb3⟩;have cq:=af (aL.on hb3);have Kk:=af (oF.on hb3);clear hb3 hcc ql q2 q3 q4 q5 aL oF;have q5:=Kk.box.cell 5;simp at q5;cases h3:D1 ps
       ·have hE:Hid (u.fs.all iC=false):=af (by rw[hA.out,hat.out];simp only[iC,h1,h2,h3,Bool.false_and,Bool.true_and,Bool.and_false,Bool.not_true,Bool.not_false]);go_wp2_with fail
        go_ret;exact⟨aq (qJ hE.out).symm,cq.below⟩
       have hcc:=af (PV _ bd (.slice ba bd.len bc) w3 (Nat.lt_succ_self _) D2.2 hW.2.2 (D2.1.mono cq.below));go_wp2_with fail
       refine hcc.mono ?_;rintro e w4 ⟨rfl,hb4⟩;have gl:=af (cq.on hb4);clear hb4 hcc q5 cq Kk;cases h4:gU bd
       ·have hE:Hid (u.fs.all iC=false):=af (by rw[hA.out,hat.out];simp only[iC,h1,h2,h3,h4,Bool.false_and,Bool.true_and,Bool.and_false,Bool.not_true,Bool.not_false]);go_wp2_with fail
        go_ret;exact⟨aq (qJ hE.out).symm,gl.below⟩
       have hE:Hid (u.fs.all iC=(u.fs.drop (k+1)).all iC):=af (by rw[hA.out,hat.out];simp only[iC,h1,h2,h3,h4,Bool.true_and,Bool.not_false]);go_wp2_with fail
       go_roundw
       case rel=>exact⟨k+1,rfl,by omega,by go_num,hE.out,gl.out⟩
       case measure=>simp[intOf];omega
      ·have hkm:k=mf:=by omega
       subst k;have hEfs:Hid (u.fs.all iC=true):=af (by rw[hA.out];have:=pO.out;rw[this];exact qH _ _);clear hlt hk hA hb;go_wp2_with fail
       go_ret;exact⟨aq (Lt hEgs.out hEhs.out hEfs.out).symm,aB.below⟩
end
section
open Go.Shelf
def gu (f:FH):Bool:=decide (64<qG f.body)
def iP (l:List FH):Nat:=(l.map fun f=>f.body.sz).sum
def jG (u:UT):Int:=if ej u then(if u.fs.any gu then 283 else if 16384<iP u.fs then 280 else 0) else 284
theorem Lu {u:UT} (h:ej u=false):jG u=284:=by unfold jG;rw[h];rfl
theorem D3 {u:UT} (h:ej u=true) (h2:u.fs.any gu=true):jG u=283:=by unfold jG;rw[h,h2];rfl
theorem D4 {u:UT} (h:ej u=true) (h2:u.fs.any gu=false) (h3:16384<iP u.fs):jG u=280:=by unfold jG;rw[h,h2];simp[h3]
theorem Lv {u:UT} (h:ej u=true) (h2:u.fs.any gu=false) (h3:¬16384<iP u.fs):jG u=0:=by unfold jG;rw[h,h2];simp[h3]
theorem P6 {α:Type} (f:α→Bool) (l:List α) (k:Nat) (h:k<l.length):(l.drop k).any f=(f l[k]||(l.drop (k+1)).any f):=by
 rw[List.drop_eq_getElem_cons h];rfl
theorem Lx {α:Type} (f:α→Bool) (l:List α):(l.drop l.length).any f=false:=by
 rw[List.drop_eq_nil_of_le (Nat.le_refl _)];rfl
theorem Lz (l:List FH) (k:Nat) (h:k<l.length):iP (l.drop k)=l[k].body.sz+iP (l.drop (k+1)):=by
 unfold iP;rw[List.drop_eq_getElem_cons h,List.map_cons,List.sum_cons]
theorem GU (l:List FH):iP (l.drop l.length)=0:=by
 rw[List.drop_eq_nil_of_le (Nat.le_refl _)];rfl
theorem D5 (l:List FH):iP (l.drop 0)=iP l:=rfl
theorem P7 (u:UT) (v:Value) (w:World) (ok:u.Ok) (wf:u.Wf) (hv:jR w false none u v):
  Calls Tryz.prog 63 #[v] w fun e w'=>e=.returned (.int .i64 (jG u))∧Below w.heap.size w w':=by
 have hV:=af hv;obtain⟨vg,vh,vf,rfl,hg,hh,hf⟩:=hv;obtain⟨ga,gb,go,gc,rfl,oH,tC⟩:=ei.open hg;obtain⟨ha,Ad,ho,hc,rfl,ig,vD⟩:=ei.open hh;obtain⟨fa,fb,fo,fc,rfl,mL,pN⟩:=ei.open hf;have hG:=af tC;have hH:=af vD;have hF:=af pN;have OK:=af ok;have WF:=af wf;have g1:=ok.g;have g2:=ok.h;have g3:=ok.f;obtain⟨mg,iY⟩:∃m,m=u.gs.length:=⟨_,rfl⟩;obtain⟨mh,j1⟩:∃m,m=u.hs.length:=⟨_,rfl⟩;obtain⟨mf,iw⟩:∃m,m=u.fs.length:=⟨_,rfl⟩;rw[←iY] at oH g1⊢;rw[←j1] at ig g2⊢;rw[←iw] at mL g3⊢;have xJ:=af iY;have xK:=af j1;have pO:=af iw;clear hg hh hf tC vD pN ok wf iY j1 iw;have cG:=af (gA.new (Below.refl w.heap.size w) #[.slice ga mg gc,.slice ha mh hc,.slice fa mf fc] 26);have oY:=af (P5 u (.agg #[.slice ga mg gc,.slice ha mh hc,.slice fa mf fc]) _ OK.out WF.out ((show jR w false none u (.agg #[.slice ga mg gc,.slice ha mh hc,.slice fa mf fc]) by rw[xJ.out,xK.out,pO.out] at*;exact hV.out).mono cG.below));clear oH ig hG hH;go_enter Tryz.func63,Tryz.ntmps63;go_wp2_with fail
 refine oY.mono ?_;rintro e w2 ⟨rfl,hb2⟩;have aB:=af (cG.on hb2);have p2:=aB.box.cell 2;simp at p2;clear hb2 oY cG;cases mE:ej u
 ·go_wp2_with fail
  go_ret;exact⟨fy (Lu mE).symm,aB.below⟩
 have P8:=af mE;clear mE;go_wp2_with fail
 clear p2
 go_loopw [2,3,12] (fun z s i wr=>∃k m:Nat,z=.int .i64 0∧s=.int .i64 m∧k≤mf∧i=.int .i64 k∧u.fs.any gu=(u.fs.drop k).any gu∧iP u.fs=m+iP (u.fs.drop k)∧m≤k*100000000∧Below w.heap.size w wr) (fun _ _ i _=>mf- (intOf i).toNat)
 case atStart=>exact⟨0,0,rfl,rfl,Nat.zero_le _,rfl,rfl,by simp[D5],by omega,aB.below⟩
 case round=>
  clear aB;obtain⟨k,m,rfl,rfl,hk,rfl,dU,Vd,hm,hb⟩:=hrel;have hA:=af dU;have hSu:=af Vd;have hB:=af hb;clear dU Vd;by_cases hlt:k<mf
  ·have bH:k<u.fs.length:=by have:=pO.out;omega
   obtain⟨⟨t,y0,_⟩,y1,⟨pv,y2,pP⟩,y3,y4,⟨bv,y5,tJ⟩⟩:=hF.out k bH;have hbl:=OK.fb _ (List.getElem_mem bH);have hat:=af (P6 gu u.fs k bH);have hst:=af (Lz u.fs k bH);have x0:=ag y0 hb;have x1:=ag y1 hb;have x2:=ag y2 hb;have x3:=ag y3 hb;have x4:=ag y4 hb;have x5:=ag y5 hb;have bG:fa=some ⟨fb,fo,none⟩:=by rcases mL with q|q;(·omega);(·exact q)
   subst bG;generalize u.fs[k]'bH=a at*;obtain⟨Cn,nm,ps,ty,op,bd⟩:=a;obtain⟨pa,pc,rfl⟩:=pP.ay;obtain⟨ba,bc,rfl⟩:=tJ.ay;simp only[] at x0 x1 x2 x3 x4 x5 hbl hst;have hd:=mK bd;have hdb:qG bd≤100000000:=by omega
   have hY:=af (gA.new hb #[.int .i64 t,.string nm,.slice pa ps.length pc,.int .u8 ty,.bool op,.slice ba bd.len bc] 43);have D2:=af (And.intro tJ hbl);have Fz:=af (DX _ bd (.slice ba bd.len bc) (wr.alloc (.cells #[.int .i64 t,.string nm,.slice pa ps.length pc,.int .u8 ty,.bool op,.slice ba bd.len bc] 43)) (Nat.lt_succ_self _) hbl (tJ.mono (hY.below)));clear mL y0 y1 y2 y3 y4 y5 pP tJ hb hd;go_wp2_with fail
   refine Fz.mono ?_;rintro e w3 ⟨rfl,hb3⟩;have Kk:=af (hY.on hb3);have q5:=Kk.box.cell 5;simp at q5;clear hb3 Fz x0 x1 x2 x3 x4 x5 hY;by_cases Oq:64<qG bd
   ·have hE:Hid (u.fs.any gu=true):=af (by rw[hA.out,hat.out];have:gu ⟨Cn,nm,ps,ty,op,bd⟩=true:=(by simpa[gu] using Oq);rw[this];rfl);go_wp2_with fail
    go_ret;exact⟨fy (D3 P8.out hE.out).symm,Kk.below⟩
   have hE:Hid (u.fs.any gu=(u.fs.drop (k+1)).any gu):=af (by rw[hA.out,hat.out];have:gu ⟨Cn,nm,ps,ty,op,bd⟩=false:=(by simpa[gu] using Oq);rw[this];rfl);have hcm:=af (P4 _ bd (.slice ba bd.len bc) w3 (Nat.lt_succ_self _) D2.2 (D2.1.mono Kk.below));go_wp2_with fail
   refine hcm.mono ?_;rintro e w4 ⟨rfl,hb4⟩;have hY4:=af (Kk.on hb4);clear hb4 hcm q5 Kk;go_wp2_with fail
   go_roundw
   case rel=>exact⟨k+1,m+bd.sz,rfl,by go_num,by omega,by go_num,hE.out,by rw[hSu.out,hst.out];omega,by omega,hY4.below⟩
   case measure=>simp[intOf];omega
  ·have hkm:k=mf:=by omega
   subst k;have hE:Hid (u.fs.any gu=false):=af (by rw[hA.out];have:=pO.out;rw[this];exact Lx _ _);have hS:Hid (iP u.fs=m):=af (by rw[hSu.out];have:=pO.out;rw[this,GU];omega);clear hb;by_cases Ot:16384<m
   ·go_wp2_with fail
    go_ret;exact⟨fy (D4 P8.out hE.out (by rw[hS.out];exact Ot)).symm,hB.out⟩
   ·go_wp2_with fail
    go_ret;exact⟨fy (Lv P8.out hE.out (by rw[hS.out];exact Ot)).symm,hB.out⟩
end
section
open Go.Shelf
section
variable (vs:List (ByteArray×(Int×Int))) (cs:List (ByteArray×eE)) (ss:List Scope)
def mj (h:EH) (ks:List Int):Except Int Int:=
 if h.kind=2 then .ok 2
 else if h.kind=3 then gi vs ss h.name
 else if h.kind=4 then match gj vs ss h.name with
  | .error e=>.error e
  | .ok t=>if ks.getD 0 0=1 then .ok t else .error 292
 else if h.kind=5 then fj cs h.name ks
 else if h.kind=6 then if (h.sign.toList==[45]||ks.getD 0 0==1) then .ok (ks.getD 0 0) else .error 292
 else if h.kind=7 then eF h.sign (ks.getD 0 0) (ks.getD 1 0)
 else if h.kind=8 then .ok h.type
 else .ok 1
def jn:az→Except Int (List Int)
 | .nil=>.ok []
 | .cons h k r=>match jn k with
  | .error e=>.error e
  | .ok ks=>match mj vs cs ss h ks with
   | .error e=>.error e
   | .ok t=>match jn r with
    | .error e=>.error e
    | .ok ts=>.ok (t::ts)
def um (h:EH) (k:az):Except Int Int:=match jn vs cs ss k with
 | .error e=>.error e
 | .ok ks=>mj vs cs ss h ks
end
def Ou (k:Int) (n:Nat):Bool:=if k=4∨k=6 then decide (1≤n) else if k=7 then decide (2≤n) else true
def GW:az→Bool
 | .nil=>true
 | .cons h k r=>GW k&&Ou h.kind k.len&&GW r
theorem Ov (n:Nat):Ou 4 n=decide (1≤n):=rfl
theorem Ow (n:Nat):Ou 6 n=decide (1≤n):=rfl
theorem Ox (n:Nat):Ou 7 n=decide (2≤n):=rfl
def pre (ts:List Int):Except Int (List Int)→Except Int (List Int)
 | .error e=>.error e
 | .ok l=>.ok (ts++l)
theorem GY {vs:List (ByteArray×(Int×Int))} {cs:List (ByteArray×eE)} {ss:List Scope} {h:EH} {k r:az} {t:Int} {ts:List Int} (hx:um vs cs ss h k=.ok t):pre ts (jn vs cs ss (.cons h k r))=pre (ts++[t]) (jn vs cs ss r):=by
 unfold um at hx;simp only[jn];cases hk:jn vs cs ss k with
 |error e=>rw[hk] at hx;cases hx
 |ok ks=>
  rw[hk] at hx;simp only[] at hx⊢;rw[hx];cases jn vs cs ss r<;>simp[pre]
theorem GZ {vs:List (ByteArray×(Int×Int))} {cs:List (ByteArray×eE)} {ss:List Scope} {h:EH} {k r:az} {e:Int} {ts:List Int} (hx:um vs cs ss h k=.error e):pre ts (jn vs cs ss (.cons h k r))=.error e:=by
 unfold um at hx;simp only[jn];cases hk:jn vs cs ss k with
 |error e=>rw[hk] at hx;cases hx;rfl
 |ok ks=>
  rw[hk] at hx;simp only[] at hx⊢;rw[hx];rfl
theorem ly {w w':World} {base:Nat} {e:TypeId} {size:Nat} {v v':Value} {n m:Nat} {xs news:List Value} (hA:aV w w' base e size v v' n m xs news) (hown:w.ownsRow base e size v n xs) (hb:base≤w.heap.size):Below base w w':=
 (Below.refl base w).grown hA.grown hb (fun k hk=>(hown.lt k hk).1)
theorem Bx.not_row {w:World} {q:Nat} {cs:Array Value} {t e:TypeId} (h:Bx w q cs t) {base size n:Nat} {v:Value} {xs:List Value} (hown:w.ownsRow base e size v n xs) (hte:t≠e):some q≠v.ownBlock:=fun hq=>by
 rcases hown.2 with⟨rfl,_⟩|⟨g,cap,cur,rfl,_,hg,_⟩
 ·cases hq
 ·simp only[Value.ownBlock,Option.some.injEq] at hq;subst hq;unfold Bx at h;rw[h] at hg;simp at hg;exact hte hg.2
theorem aC {w w':World} {base:Nat} {e:TypeId} {size:Nat} {v:Value} {n:Nat} {xs:List Value} (h:w.ownsRow base e size v n xs) (hb:Below w.heap.size w w'):w'.ownsRow base e size v n xs:=
 h.kept (row:=none) (ah hb) (by cases hq:v.ownBlock;exact .inl rfl;exact .inr (by simp))
def iZ (vs:List (ByteArray×(Int×Int))) (cs:List (ByteArray×eE)) (ss:List Scope) (l r:az) (ts:List Int):Prop:=jn vs cs ss l=pre ts (jn vs cs ss r)
theorem LA (vs:List (ByteArray×(Int×Int))) (cs:List (ByteArray×eE)) (C:Nat) (ss:List Scope) (vb cb g cap:Nat) (ms:List Nat)
  (hp:Hid (∀s x,getM s cs=some x→x.params.length≤100000000)):∀(n:Nat) (t:Int) (h:EH) (kids:az) (v:Value) (w:World),kids.sz<n→kids.sz≤100000000→GW kids=true→Ou h.kind kids.len=true→dI w false none kids v→N7 w vs cs C ss vb cb g cap ms→
  Calls Tryz.prog 169 #[.pointer (some ⟨C,0,none⟩),qq t h v] w fun e w'=>e=outT (um vs cs ss h kids)∧Below w.heap.size w w':=by
 intro n
 induction n with
 |zero=>intro t h kids v w hn;omega
 | succ n ih=>
  have IH:=af ih;clear ih;intro t h kids v w hn hs kP Ve hv kq;obtain⟨ka,b,off,c,rfl,hka,fz⟩:=hv;have hl:=kids.bU;have hS:=af (And.intro hn hs);have hI:=af fz;have hkb:kids.len≤100000000:=by omega
  have AR:=af kP;have ARH:=af Ve;have CK:=af kq;obtain⟨a0,a1,a2,a3,a4,a5⟩:=h;obtain⟨len,hlen⟩:∃m,m=kids.len:=⟨_,rfl⟩;rw[←hlen] at hka hl hkb⊢;have bq:=af hlen;clear hn hs fz kP Ve hlen kq;have cG:=af (Bx.new w #[.int .i64 t,.int .u8 a1,.int .u32 a2,.int .u8 a3,.string a4,.string a5,.slice ka len c] 134);have cF:=af ((Below.refl w.heap.size w).alloc (Nat.le_refl _) (.cells #[.int .i64 t,.int .u8 a1,.int .u32 a2,.int .u8 a3,.string a4,.string a5,.slice ka len c] 134));go_enter Tryz.func169,Tryz.ntmps169;go_wp2_with fail
  go_loopw [5,12] (fun z i wr=>∃(k:Nat) (r:az) (ts:List Int) (z0:Value),z0=z∧k+r.len=len∧i=.int .i64 k∧bw w false none r b off k∧r.sz≤kids.sz∧GW r=true∧ts.length=k∧iZ vs cs ss kids r ts∧wr.ownsRow w.heap.size 40 1 z k (ts.map (Value.int .u8))∧Bx wr w.heap.size #[.int .i64 t,.int .u8 a1,.int .u32 a2,.int .u8 a3,.string a4,.string a5,.slice ka len c] 134∧Below w.heap.size w wr) (fun _ i _=>len- (intOf i).toNat)
  case atStart=>exact⟨0,kids,[],_,rfl,by have:=bq.out;omega,rfl,hI.out,Nat.le_refl _,AR.out,rfl,by unfold iZ;cases jn vs cs ss kids<;>rfl,World.ownsRow_nil _ _ _ _,cG.out,cF.out⟩
  case round=>
   clear hI cG cF;obtain⟨k,r,ts,z0,hz0,hk,rfl,hr,hz,nJ,P9,iN,hown,dT,hb⟩:=hrel;subst z0;have hX:=af (And.intro dT hb);have hO:=af hown;have hP:=af iN;have jT:=af P9;have eT:=af hz;cases r with
   | nil=>
    simp only[az.len,Nat.add_zero] at hk;clear hr hz nJ dT hb iN hown P9;obtain rfl:len=k:=hk.symm;have bz:=af (show jn vs cs ss kids=.ok ts by have:=hP.out;unfold iZ at this;rw[this];simp[jn,pre]);have vE:=(show Ol wr ts _ from⟨w.heap.size,by rw[jT.out];exact hO.out⟩);obtain⟨xa,xb,xc,rfl,rH,hxc⟩:=vE.open;have Qa:=af hxc;clear hxc;rw[jT.out] at rH;rw[jT.out];rw[jT.out] at vE;have hKS:=af vE;clear vE;have eW:=af (CK.mono hX.2);have p1:=hX.1.cell 1;have p3:=hX.1.cell 3;have p4:=hX.1.cell 4;have p5:=hX.1.cell 5;simp at p1 p3 p4 p5;have TX:=af (show∀x,mj vs cs ss ⟨a0,a1,a2,a3,a4,a5⟩ ts=x→um vs cs ss ⟨a0,a1,a2,a3,a4,a5⟩ kids=x from fun x hx=>by unfold um;rw[bz.out];exact hx);by_cases h2:a1=2
    ·subst h2;have hh:=af (TX.out (.ok 2) rfl);go_wp2_with fail
     go_ret;rw[hh.out];exact⟨rfl,hX.2⟩
    by_cases h3:a1=3
    ·subst h3;cases hq:gi vs ss a4 with
     |error er=>
      have hh:=af (TX.out (.error er) hq);have cx:=af (kI a4 vs cs C ss vb cb g cap ms wr eW.out);rw[hq] at cx;go_wp2_with fail
      refine cx.mono ?_;rintro e w2 ⟨he,hb2⟩;obtain rfl:e=nw er:=he;have aQ:=af hb2;clear hb2 cx;go_wp2_with fail
      refine ar ?_;rw[hh.out];exact⟨rfl,hX.2.trans (aQ.mono hX.2.size)⟩
     |ok ty=>
      have hh:=af (TX.out (.ok ty) hq);have cx:=af (kI a4 vs cs C ss vb cb g cap ms wr eW.out);rw[hq] at cx;go_wp2_with fail
      refine cx.mono ?_;rintro e w2 ⟨he,hb2⟩;obtain rfl:e=.returned (.int .u8 ty):=he;have aQ:=af hb2;clear hb2 cx;go_wp2_with fail
      go_ret;rw[hh.out];exact⟨rfl,hX.2.trans (aQ.mono hX.2.size)⟩
    by_cases h4:a1=4
    ·subst h4;have hl0:0<ts.length:=by have:=ARH.out;have h2:=bq.out;rw[Ov] at this;simp at this;have:=jT.out;omega
     have z0:=Qa.out 0 hl0;have hg0:ts.getD 0 0=ts[0]:=by simp[hl0]
     clear Qa;generalize ts[0]=k0 at z0 hg0;have tP:xa=some ⟨xb,0,none⟩:=by rcases rH with q|q;(·have:=jT.out;omega);(·exact q)
     subst xa;have pQ:0<len:=by have:=jT.out;omega
     cases hq:gj vs ss a4 with
     |error er=>
      have hh:=af (TX.out (.error er) (by simp[mj,hq]));have cx:=af (rk a4 vs cs C ss vb cb g cap ms wr eW.out);rw[hq] at cx;go_wp2_with fail
      refine cx.mono ?_;rintro e w2 ⟨he,hb2⟩;obtain rfl:e=nw er:=he;have aQ:=af hb2;clear hb2 cx;go_wp2_with fail
      refine ar ?_;rw[hh.out];exact⟨rfl,hX.2.trans (aQ.mono hX.2.size)⟩
     | ok ty=>
      have cx:=af (rk a4 vs cs C ss vb cb g cap ms wr eW.out);rw[hq] at cx;go_wp2_with fail
      refine cx.mono ?_;rintro e w2 ⟨he,hb2⟩;obtain rfl:e=.returned (.int .u8 ty):=he;have aQ:=af hb2;have z1:=ag z0 hb2;clear hb2 cx;by_cases dH:k0=1
      ·subst dH;have hh:=af (TX.out (.ok ty) (by simp only[mj];rw[hq,hg0];simp));clear hg0;have c5:=af (fG 292 w2);go_wp2_with fail
       refine c5.mono ?_;rintro e w3 ⟨rfl,hw⟩;subst w3;clear c5;go_wp2_with fail
       go_ret;rw[hh.out];exact⟨rfl,hX.2.trans (aQ.mono hX.2.size)⟩
      ·have hh:=af (TX.out (.error 292) (by simp only[mj];rw[hq,hg0];simp[dH]));clear hg0;have c5:=af (eA 292 w2);go_wp2_with fail
       rw[show(k0==1)=false by simpa using dH];refine c5.mono ?_;rintro e w3 ⟨rfl,hw⟩;subst w3;clear c5;go_wp2_with fail
       refine ar ?_;rw[hh.out];exact⟨rfl,hX.2.trans (aQ.mono hX.2.size)⟩
    by_cases h5:a1=5
    ·subst h5;cases hq:fj cs a4 ts with
     |error er=>
      have hh:=af (TX.out (.error er) hq);have cx:=af (by have:=call211 a4 ts (.slice xa len xc) vs cs C ss vb cb g cap ms wr eW.out hKS.out (hp.out a4) (by have:=jT.out;omega);exact this);rw[hq] at cx;go_wp2_with fail
      refine cx.mono ?_;rintro e w2 ⟨he,hb2⟩;obtain rfl:e=nw er:=he;have aQ:=af hb2;clear hb2 cx;go_wp2_with fail
      refine ar ?_;rw[hh.out];exact⟨rfl,hX.2.trans (aQ.mono hX.2.size)⟩
     |ok ty=>
      have hh:=af (TX.out (.ok ty) hq);have cx:=af (by have:=call211 a4 ts (.slice xa len xc) vs cs C ss vb cb g cap ms wr eW.out hKS.out (hp.out a4) (by have:=jT.out;omega);exact this);rw[hq] at cx;go_wp2_with fail
      refine cx.mono ?_;rintro e w2 ⟨he,hb2⟩;obtain rfl:e=.returned (.int .u8 ty):=he;have aQ:=af hb2;clear hb2 cx;go_wp2_with fail
      go_ret;rw[hh.out];exact⟨rfl,hX.2.trans (aQ.mono hX.2.size)⟩
    by_cases h6:a1=6
    ·subst h6;have hl0:0<ts.length:=by have:=ARH.out;have h2:=bq.out;rw[Ow] at this;simp at this;have:=jT.out;omega
     have z0:=Qa.out 0 hl0;have hg0:ts.getD 0 0=ts[0]:=by simp[hl0]
     clear Qa;generalize ts[0]=k0 at z0 hg0;have tP:xa=some ⟨xb,0,none⟩:=by rcases rH with q|q;(·have:=jT.out;omega);(·exact q)
     subst xa;have pQ:0<len:=by have:=jT.out;omega
     cases h45:a5.toList==[45]
     case true=>
      have hh:=af (TX.out (.ok k0) (by simp only[mj];rw[hg0];simp[h45]));clear hg0;have c5:=af (fG 292 wr);go_wp2_with fail
      refine c5.mono ?_;rintro e w3 ⟨rfl,hw⟩;subst w3;clear c5;go_wp2_with fail
      go_ret;rw[hh.out];exact⟨rfl,hX.2⟩
     case false=>
      by_cases dH:k0=1
      ·subst dH;have hh:=af (TX.out (.ok 1) (by simp only[mj];rw[hg0];simp[h45]));clear hg0;have c5:=af (fG 292 wr);go_wp2_with fail
       refine c5.mono ?_;rintro e w3 ⟨rfl,hw⟩;subst w3;clear c5;go_wp2_with fail
       go_ret;rw[hh.out];exact⟨rfl,hX.2⟩
      ·have hh:=af (TX.out (.error 292) (by simp only[mj];rw[hg0,h45];simp[dH]));clear hg0;have c5:=af (eA 292 wr);go_wp2_with fail
       rw[show(k0==1)=false by simpa using dH];refine c5.mono ?_;rintro e w3 ⟨rfl,hw⟩;subst w3;clear c5;go_wp2_with fail
       refine ar ?_;rw[hh.out];exact⟨rfl,hX.2⟩
    by_cases h7:a1=7
    ·subst h7;have kt:1<ts.length:=by have:=ARH.out;have h2:=bq.out;rw[Ox] at this;simp at this;have:=jT.out;omega
     have hl0:0<ts.length:=by omega
     have z0:=Qa.out 0 hl0;have hg0:ts.getD 0 0=ts[0]:=by simp[hl0]
     have z1:=Qa.out 1 kt;have hg1:ts.getD 1 0=ts[1]:=by simp[kt]
     clear Qa;generalize ts[0]=k0 at z0 hg0;generalize ts[1]=k1 at z1 hg1;have tP:xa=some ⟨xb,0,none⟩:=by rcases rH with q|q;(·have:=jT.out;omega);(·exact q)
     subst xa;have pQ:1<len:=by have:=jT.out;omega
     have Vf:0<len:=by omega
     have Vg:(1:Int)<(len:Int):=by omega
     have TY:=af (show∀x,eF a5 k0 k1=x→mj vs cs ss ⟨a0,7,a2,a3,a4,a5⟩ ts=x from fun x hx=>by simp only[mj];rw[hg0,hg1];exact hx);clear hg0 hg1;have Qb:=hX.1;go_wp2_with fail
     refine wp_region_held_drew (S:=(Below wr.heap.size wr)) (by kernel_rfl) (Below.refl _ _).drew (fun hHeld=>?_);refine tk 0 ?_;refine tk 1 ?_ (hy:=by intro w' hSw;have q1:=ag p5 hSw;go_simp;(try with_reducible rfl));refine tk 2 ?_;refine tk 3 ?_;refine tk 4 ?_ (hy:=by intro w' hSw;have q1:=ag z0 hSw;go_simp;(try with_reducible rfl));refine tk 5 ?_;refine tk 6 ?_;refine tk 7 ?_ (hy:=by intro w' hSw;have q1:=ag z1 hSw;go_simp;(try with_reducible rfl));refine tr 8 fun K hK=>?_
     go_simp;go_at_call 119;have cx:=af (oX a5 k0 k1 wr.drew);cases hq:eF a5 k0 k1 with
     |error er=>
      have hh:=af (TX.out (.error er) (TY.out _ hq));rw[hq] at cx;refine cx.mono ?_;rintro e w2 ⟨he,hw⟩;obtain rfl:e=nw er:=he;subst w2;clear cx hK hHeld;go_wp2_with fail
      refine ar ?_;rw[hh.out];exact⟨rfl,hX.2.drew⟩
     |ok ty=>
      have hh:=af (TX.out (.ok ty) (TY.out _ hq));rw[hq] at cx;refine cx.mono ?_;rintro e w2 ⟨he,hw⟩;obtain rfl:e=.returned (.int .u8 ty):=he;subst w2;have hk:=(Below.refl wr.heap.size wr).drew;clear hHeld cx;go_wp2_with fail
      refine hK.out _ _ hk (fun hHeld=>?_);clear hK K hk
      try simp only[bK,bL,bM,bN,bO]
      refine tk 9 ?_;refine td ?_;go_wp2_with fail
      go_ret;rw[hh.out];exact⟨rfl,hX.2.drew⟩
    by_cases h8:a1=8
    ·subst h8;have hh:=af (TX.out (.ok a3) rfl);go_wp2_with fail
     go_ret;rw[hh.out];exact⟨rfl,hX.2⟩
    have hh:=af (TX.out (.ok 1) (by simp[mj,h2,h3,h4,h5,h6,h7,h8]));go_wp2_with fail
    go_ret;rw[hh.out];exact⟨rfl,hX.2⟩
   | cons h2 k2 rest=>
    simp only[az.len,az.sz] at hk hz;obtain⟨⟨⟨t2,y0,_⟩,y1,y2,y3,y4,y5⟩,⟨vx,y6,hx⟩,hR⟩:=hr.cons;have x0:=ag y0 hb;have x1:=ag y1 hb;have x2:=ag y2 hb;have x3:=ag y3 hb;have x4:=ag y4 hb;have x5:=ag y5 hb;have x6:=ag y6 hb;have oB:k<len:=by omega
    have bG:ka=some ⟨b,off,none⟩:=by rcases hka with q|q;(·omega);(·exact q.1)
    subst bG;obtain⟨xa,xc,rfl⟩:=hx.ay;obtain⟨b0,b1,b2,b3,b4,b5⟩:=h2;simp only[] at x0 x1 x2 x3 x4 x5 x6;have fE:=af hR;have Ym:=af hk;simp only[GW,Bool.and_eq_true] at nJ;have Vh:=af nJ;have tO:=af (((Below.refl wr.heap.size wr).alloc (Nat.le_refl _) (.cells #[.int .i64 t2,.int .u8 b1,.int .u32 b2,.int .u8 b3,.string b4,.string b5,.slice xa k2.len xc] 134)));have cx:=af (IH.out t2 ⟨b0,b1,b2,b3,b4,b5⟩ k2 (.slice xa k2.len xc) (wr.alloc (.cells #[.int .i64 t2,.int .u8 b1,.int .u32 b2,.int .u8 b3,.string b4,.string b5,.slice xa k2.len xc] 134)) (by have:=hS.out;omega) (by have:=hS.out;omega) nJ.1.1 nJ.1.2 (hx.mono (hb.trans (tO.mono hb.size))) (CK.mono (hb.trans (tO.mono hb.size))));clear hr hz nJ dT hb iN hown P9 y0 y1 y2 y3 y4 y5 y6 hx hR hk;cases hty:um vs cs ss ⟨b0,b1,b2,b3,b4,b5⟩ k2 with
    |error er=>
     have hh:=af (show um vs cs ss ⟨a0,a1,a2,a3,a4,a5⟩ kids=.error er by unfold um;have:=hP.out;unfold iZ at this;rw[this,GZ hty]);rw[hty] at cx;go_wp2_with fail
     refine cx.mono ?_;rintro e w2 ⟨he,hb2⟩;obtain rfl:e=nw er:=he;have aQ:=af hb2;clear hb2 cx;go_wp2_with fail
     refine ar ?_;rw[hh.out];exact⟨rfl,hX.2.trans ((tO.trans (aQ.mono tO.size)).mono hX.2.size)⟩
    |ok ty=>
     rw[hty] at cx;go_wp2_with fail
     refine cx.mono ?_;rintro e w2 ⟨he,hb2⟩;obtain rfl:e=.returned (.int .u8 ty):=he;have aQ:=af (tO.trans (hb2.mono tO.size));clear hb2 cx;have oU:=af (aC hO.out aQ.out);have aL:=af (hX.1.on (ah aQ.out) (by simp));have qu:w.heap.size≤w2.heap.size:=Nat.le_trans hX.2.size aQ.size;go_wp2_with (at_builtin;refine aG rfl _ _ 259 rfl w.heap.size 40 40 (.int .u8 0) 1 1 1 Tryz.underlying259 (by kernel_rfl) rfl (by decide) _ k _ [_] (0,0) oU.out rfl (by simp[Value.oneCell']) (by unfold maxLen;omega) (by omega) qu rfl rfl ?_;intro v' w' hA;have hA':=af (And.intro (ly hA oU.out qu) (aL.on hA.grown (aL.not_row oU.out (by decide))));have La:=af hA.own;clear hA)
     have hh:=af (show iZ vs cs ss kids rest (ts++[ty]) by unfold iZ;have:=hP.out;unfold iZ at this;rw[this,GY hty]);exact⟨⟨k+1,rest,ts++[ty],_,rfl,by have:=Ym.out;omega,by go_num,fE.out,by have:=eT.out;simp only[az.sz] at this;omega,Vh.2,by simp[jT.out],hh.out,by simpa using La.out,hA'.2,hX.2.trans ((aQ.mono hX.2.size).trans hA'.1)⟩,by simp only[intOf];omega⟩
end
end Go.Proofs.YtlabadkfkbenoaaGreatDoor
