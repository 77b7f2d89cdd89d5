/- Walks and plain laws, merged: SenY AluA AluB AluF AluC AluD AluE. No condition. -/
import Derived.Laws.OwnMore
import Derived.Deep.OwnRows
import Derived.Test.YtlabadkfkbenoaaGreatDoorKp01
import Derived.Test.YtlabadkfkbenoaaGreatDoorKp10
import Derived.Laws.Externs
import Derived.Laws.Cover2
import Derived.Laws.ComplexArith
import Derived.Test.YtlabadkfkbenoaaGreatDoorKp08
import Derived.Test.YtlabadkfkbenoaaGreatDoorKp07
namespace Go.Proofs.YtlabadkfkbenoaaGreatDoor
open Go.RowKit
set_option linter.unusedVariables false
set_option linter.unusedSimpArgs false
set_option maxRecDepth 100000
set_option maxHeartbeats 64000000
section
open Go.Shelf
theorem dg {P:Program} {w:World} {ops:Array Oper} {o:Oper} {a:Act} {K:Act→World→Prop} {Q:Exit→Act→World→Prop} {E:Prop} (hgd:o.guard=none) (s x:Operand) (t:TypeId)
  (ho:o.op=.call {callee:=.builtin .append,args:=#[s,x],argTypes:=#[t,t]})
  (base:Nat) (e e':TypeId) (z:Value) (size bytes m:Nat) (ht:P.underlying t=some (.slice e)) (nj:(P.info? e).map (fun i=>(i.zero,i.size,i.bytes))=some (some z,size,bytes))
  (hzs:z.cells.size=size) (hsz:0<size)
  (v:Value) (n:Nat) (xs news:List Value) (fr:Nat×Nat) (hown:w.ownsRow base e size v n xs) (hl:news.length=m*size) (h1:∀u∈news,u.oneCell'=true)
  (h63:n+m≤maxLen) (hbytes:(n+m)*bytes≤140737488355328) (hbase:base≤w.heap.size)
  (hs:a.eval s=v) (hx:a.eval x=.slice (some ⟨w.heap.size,0,none⟩) m m)
  (h:∀v' w',aV w w' base e size v v' n m xs news→K (a.put o.dst v') w'):
  if Region.wanted o (yielded ops a.tmps)=true then Oper.wp P o a (w.alloc (.cells news.toArray e' fr)) K Q else E:=by
 have hw:Region.wanted o (yielded ops a.tmps)=true:=by simp[Region.wanted,hgd]
 rw[if_pos hw];obtain⟨i,hi,hz0,hz1,hz2⟩:=info_parts nj;subst hz1;subst hz2;obtain⟨v',w',hr,hA⟩:=gI (P:=P) (w.alloc (.cells news.toArray e' fr)) base t o.type e i z ht hi hz0 hzs hsz v n xs (hown.alloc _) ⟨w.heap.size,0,none⟩ m m news hl (by
  intro j u hj;have hadd:(⟨w.heap.size,0,none⟩:Addr).add j=⟨w.heap.size,j,none⟩:=by unfold Addr.add;split<;>simp_all
  rw[hadd,World.cell?_alloc_mark];simpa using hj) h1 h63 hbytes (by simp;omega)
 unfold Oper.wp execOp;simp only[ho,resolve,invoke,builtin,Sem.run_bind,Sem.run_pure,Result.andThen_ok,List.map_toArray,List.map_cons,List.map_nil,hs,hx,hr];refine h v' w' ⟨hA.own,hA.old,aO (World.grownBy_alloc w _ _) hA.grown,?_,hA.nil⟩;rcases hA.place with h|⟨g,h1,h2,h3⟩
 ·exact .inl h
 ·exact .inr ⟨g,h1,by simp at h2;omega,h3⟩
theorem AG {gs:List GH} {k:Nat} (h:k<gs.length):ep (gs.drop k)=(gs[k].name,kY gs[k])::ep (gs.drop (k+1)):=by
 rw[List.drop_eq_getElem_cons h];rfl
theorem Ie {gs:List GH} {k i:Nat} {l:List (ByteArray×Int)} (h:k<gs.length):pW (gs.drop k) i l=pW (gs.drop (k+1)) (i+1) (aY gs[k].name (i:Int) l):=by
 rw[List.drop_eq_getElem_cons h];rfl
theorem vV {w:World} {B g n:Nat} {cs:Array Value} {e:TypeId} (h:Bx w g cs e) (hB:B≤g) (hs:cs.size=n) (hn:n≤100000000):w.ownsRow B e 1 (.slice (some ⟨g,0,none⟩) n n) n cs.toList:=
 ⟨by simp[hs],.inr ⟨g,n,cs,rfl,hB,h,Nat.le_refl _,by unfold maxLen;omega,by simp[hs],by rw[Nat.mul_one,←hs];exact List.take_length⟩⟩
structure R16 (w6:World) (X pb:Nat) (va vh vf vb cb:Value) (hd:HD) (xs:List Value) (hv:Value) (l:List (ByteArray×Int)) (wr:World):Prop where
 box:Bx wr X #[va,vh,vf,vb,cb,hv,.map (some pb)] 94
 held:dO wr (w6.heap.size+1+1+1) hd xs hv
 place:Mp wr pb (l.map fun x=>(x.1,Value.int .i64 x.2))
 below:Below w6.heap.size w6 wr
 far:w6.heap.size≤X
 Mi:w6.heap.size≤pb
section
variable {w6 wr w':World} {X pb:Nat} {va vh vf vb cb hv:Value} {hd:HD} {xs:List Value} {l:List (ByteArray×Int)}
theorem R16.on (h:R16 w6 X pb va vh vf vb cb hd xs hv l wr) (hb:Below wr.heap.size wr w'):R16 w6 X pb va vh vf vb cb hd xs hv l w':=
 ⟨h.box.on (ah hb) (by simp),h.held.mono hb,h.place.mono hb,h.below.trans (hb.mono h.below.size),h.far,h.Mi⟩
theorem R16.add {nm:ByteArray} {ws:List Int} {x v':Value} {w2:World} (h:R16 w6 X pb va vh vf vb cb hd xs hv l wr) (hx:wr.ownsRow (w6.heap.size+1+1+1) 52 1 x ws.length (ws.map (Value.int .u32))) (hp:0<ws.length) (hne:∀y∈xs,y.ownBlock≠x.ownBlock)
  (hA:aV wr w2 (w6.heap.size+1+1+1) 82 2 hv v' hd.length 1 (eM hd xs) [.string nm,x]):R16 w6 X pb va vh vf vb cb (hd++[(nm,ws)]) (xs++[x]) v' l (w2.setCell ⟨X,5,none⟩ v'):=by
 have b2:Bx w2 X #[va,vh,vf,vb,cb,hv,.map (some pb)] 94:=h.box.on hA.grown (h.box.not_row h.held.row (by decide));have hg:=aj w2 ⟨X,5,none⟩ v';have h2:=h.held.add hx hp hne hA;have dT:=h2.box b2 (by decide) (by decide);have dX:Mp w2 pb _:=h.place.on hA.grown (kX h.place h.held.row);refine⟨by simpa using b2.set 5 v',h2.on hg (.inr (fun e=>dT.1 e.symm)) (fun y hy=>.inr (fun e=>dT.2 y hy e.symm)),dX.on hg (by have:=b2.dF dX;simpa using this),?_,h.far,h.Mi⟩;refine(h.below.grown hA.grown h.below.size (fun q e=>?_)).grown hg (Nat.le_trans h.below.size hA.grown.size) (fun q e=>by cases e;exact h.far);have:=(h.held.row.lt q e).1;omega
theorem R16.put {nm:ByteArray} {i:Int} (h:R16 w6 X pb va vh vf vb cb hd xs hv l wr) (hg:wr.grownBy w' (some pb)) (hm:Mp w' pb (aY nm (Value.int .i64 i) (l.map fun x=>(x.1,Value.int .i64 x.2)))):R16 w6 X pb va vh vf vb cb hd xs hv (aY nm i l) w':=by
 refine⟨h.box.on hg (by have:=h.box.dF h.place;simpa using this.symm),h.held.on hg ?_ (fun y hy=>?_),by rw[←dA (Value.int .i64)];exact hm,h.below.grown hg h.below.size (fun q e=>by cases e;exact h.Mi),h.far,h.Mi⟩
 ·exact .inr (fun e=>kX h.place h.held.row e.symm)
 ·obtain⟨i,hi,rfl⟩:=List.getElem_of_mem hy;exact .inr (fun e=>kX h.place (h.held.rows i hi (by have:=h.held.len;omega)) e.symm)
theorem R16.fresh (h:R16 w6 X pb va vh vf vb cb hd xs hv l wr):(∀y∈xs,∀q,y.ownBlock=some q→q<wr.heap.size)∧∀q,hv.ownBlock=some q→q<wr.heap.size:=
 ⟨fun y hy q e=>by
  obtain⟨i,hi,rfl⟩:=List.getElem_of_mem hy;exact((h.held.rows i hi (by have:=h.held.len;omega)).lt q e).2,fun q e=>(h.held.row.lt q e).2⟩
end
theorem lG:Tryz.prog.underlying 92=some (.map 9 3):=by kernel_rfl
theorem Em.no {w w':World} {u:UT} (h:aW u≠0) (hb:Below w.heap.size w w'):Em w u (.returned (.tuple #[.pointer none,.int .i64 (aW u)])) w':=⟨hb,.inl ⟨h,rfl⟩⟩
theorem Ig (u:UT) (v:Value) (w:World) (ok:u.Ok) (wf:u.Wf) (vH:Hid (∀x∈u.gs,0≤x.len∧x.len<4294967296)) (hv:jR w false none u v):Calls Tryz.prog 16 #[v] w (Em w u):=by
  have hV:=af hv;have OK:=af ok;obtain⟨vg,vh,vf,rfl,hg,hh,hf⟩:=hv;obtain⟨ga,gb,go,gc,rfl,oH,tC⟩:=ei.open hg;obtain⟨ha,hc,rfl⟩:=hh.shape;obtain⟨fa,fc,rfl⟩:=hf.shape;have hG:=af tC;obtain⟨mg,iY⟩:∃m,m=u.gs.length:=⟨_,rfl⟩;rw[←iY] at oH hV⊢;have MG:=af iY;have Ki:mg≤100000000:=by rw[iY];exact ok.g
  obtain⟨W1,hW1⟩:∃x:World,x=w.alloc (.cells #[.slice ga mg gc,.slice ha u.hs.length hc,.slice fa u.fs.length fc] 26):=⟨_,rfl⟩;have X1:=af (show Bx W1 w.heap.size #[.slice ga mg gc,.slice ha u.hs.length hc,.slice fa u.fs.length fc] 26 by rw[hW1];exact Bx.new w _ _);have hB:=af (show Below w.heap.size w W1 by rw[hW1];(repeat(first|exact Below.refl _ _|refine Below.drew ?_ |refine Below.alloc ?_ (by simp<;>omega) _)));have cc:=af (vU u (.agg #[.slice ga mg gc,.slice ha u.hs.length hc,.slice fa u.fs.length fc]) W1 ok wf vH (hV.mono hB.out));have p0:=X1.cell 0;have p1:=X1.cell 1;have p2:=X1.cell 2;simp at p0 p1 p2;obtain⟨ck,kq⟩:∃c,c=aW u:=⟨_,rfl⟩;rw[←kq] at cc;have Oz:=af kq;clear hg hh hf tC ok wf iY kq;go_enter Tryz.func16,Tryz.ntmps16;go_wp2_with fail
  rw[←hW1];clear hW1;refine cc.mono ?_;rintro e w2 ⟨⟨f,s,rfl⟩,hb2⟩;have T2:=af hb2;clear cc hb2 p0 p1 p2;have B4:=af (Bx.new w2 #[.int .i64 ck,.int .i64 f,.int .i64 s] 34);have T3:=af ((Below.refl w2.heap.size w2).alloc (Nat.le_refl _) (.cells #[.int .i64 ck,.int .i64 f,.int .i64 s] 34));have gQ:=af (hB.trans ((aT T2.out T3.out).mono hB.size));by_cases hc0:ck=0
  · subst hc0
    obtain⟨hch,vs,cs,zr,hg256,hfs⟩:=fI Oz.symm;have SP:=af (And.intro zr (uo hch));have X2:=af (X1.on (ah T2.out) (by simp));have X3:=af (X2.al (.cells #[.int .i64 0,.int .i64 f,.int .i64 s] 34));have cd:=af (H9 u (.agg #[.slice ga mg gc,.slice ha u.hs.length hc,.slice fa u.fs.length fc]) (w2.alloc (.cells #[.int .i64 0,.int .i64 f,.int .i64 s] 34)) OK.out (hV.mono gQ.out));have p0:=X3.cell 0;have p1:=X3.cell 1;have p2:=X3.cell 2;simp at p0 p1 p2;clear hch zr hfs;go_wp2_with fail
    refine cd.mono ?_;generalize hW3:w2.alloc (.cells #[.int .i64 0,.int .i64 f,.int .i64 s] 34)=W3 at*;clear cd hW3;rintro e w4 ⟨v4,rfl,hu4,hb4⟩;obtain⟨vg4,vh4,vf4,rfl,i1,i2,i3⟩:=hu4;obtain⟨a1,c1,rfl⟩:=i1.shape;obtain⟨a2,c2,rfl⟩:=i2.shape;obtain⟨a3,c3,rfl⟩:=i3.shape;have hU4:=af (show jR w4 false none u (.agg #[.slice a1 u.gs.length c1,.slice a2 u.hs.length c2,.slice a3 u.fs.length c3]) from jR.sub ⟨_,_,_,rfl,i1,i2,i3⟩ (aZ _ _));have xI:=af (gQ.trans (hb4.mono gQ.size));obtain⟨w0,hw0⟩:∃x,x=aA w4 (fN W3.heap.size):=⟨_,rfl⟩;have U0:=af (show jR w0 false none u (.agg #[.slice a1 u.gs.length c1,.slice a2 u.hs.length c2,.slice a3 u.fs.length c3]) by rw[hw0];exact⟨_,_,_,rfl,i1,i2,i3⟩);have S0:=af (show∀a v,w0.cell? a=some v→w.heap.size≤a.block∧w4.cell? a=some v by
      intro a v h;rw[hw0,dx] at h;split at h
      · rename_i hp
        exact⟨by have:=gQ.size;simp at hp;omega,h⟩
      ·cases h)
    clear hw0;have X4:=af (X3.on (ah hb4) (by simp));clear hb4 i1 i2 i3 p0 p1 p2;have T5:=af ((Below.refl w4.heap.size w4).alloc (Nat.le_refl _) (.cells #[.slice a1 u.gs.length c1,.slice a2 u.hs.length c2,.slice a3 u.fs.length c3] 26));have X5:=af (Bx.new w4 #[.slice a1 u.gs.length c1,.slice a2 u.hs.length c2,.slice a3 u.fs.length c3] 26);have cg:=af (pR w0 u (.agg #[.slice a1 u.gs.length c1,.slice a2 u.hs.length c2,.slice a3 u.fs.length c3]) (w4.alloc (.cells #[.slice a1 u.gs.length c1,.slice a2 u.hs.length c2,.slice a3 u.fs.length c3] 26)) (fun a v h=>ag (S0.out a v h).2 T5.out) OK.out U0.out);go_wp2_with fail
    refine cg.mono ?_;generalize YP:w4.alloc (.cells #[.slice a1 u.gs.length c1,.slice a2 u.hs.length c2,.slice a3 u.fs.length c3] 26)=W5 at*;clear cg YP;intro e w6 hpx;obtain⟨UZ,hx0⟩:=hpx;unfold FD at UZ;obtain⟨v0,b,rfl,Cl,lT⟩:=UZ;have UK:=hx0 vs cs SP.1;clear hx0;rw[SP.1] at lT;obtain⟨rfl,rfl,Ah⟩:=lT;obtain⟨vb,l6⟩:∃q,q=W5.heap.size+1+1:=⟨_,rfl⟩;obtain⟨cb,hcb⟩:∃q,q=W5.heap.size+1+1+1:=⟨_,rfl⟩;rw[←hcb,←l6] at Ah;rw[←hcb] at UK;have CX:=af UK;have LV:=af (show w.heap.size≤vb∧w.heap.size≤cb by have h1:=xI.size;have h2:=T5.size;omega);clear UK;rw[←hcb,←l6];have T6:=af Cl;have NM:=af Ah;clear Cl l6 hcb Ah;have GP:=af (xI.trans ((aT T5.out T6.out).mono xI.size));have X6:=af ((X4.on (ah T5.out) (by simp)).on (ah T6.out) (by simp));have X6b:=af (X5.on (ah T6.out) (by simp));have hU6:=af (hU4.mono (aT T5.out T6.out));have q0:=(X6b.al (.cells #[.map (some vb),.map (some cb)] 91)).cell 0;have q1:=(X6b.al (.cells #[.map (some vb),.map (some cb)] 91)).cell 1;have q2:=(X6b.al (.cells #[.map (some vb),.map (some cb)] 91)).cell 2;have p0:=X6.cell 0;have p0b:=((((X6.al (.cells #[.map (some vb),.map (some cb)] 91)).al (.map #[] 0)).al (.cells #[.slice a1 u.gs.length c1,.slice a2 u.hs.length c2,.slice a3 u.fs.length c3,.map (some vb),.map (some cb),.slice none 0 0,.map (some (w6.heap.size+1))] 94))).cell 0;simp at q0 q1 q2 p0 p0b;have D6:∀w:World,(Instr.makeMap 92 none).run Tryz.prog w=.ok (.map (some w.heap.size)) (w.alloc (.map #[] 0)):=fun w=>run_makeMap 92 w
    go_wp2_with fail
    have hR0:=af (show R16 w6 (w6.heap.size+1+1) (w6.heap.size+1) (.slice a1 u.gs.length c1) (.slice a2 u.hs.length c2) (.slice a3 u.fs.length c3) (.map (some vb)) (.map (some cb)) [] [] (.slice none 0 0) [] (((w6.alloc (.cells #[.map (some vb),.map (some cb)] 91)).alloc (.map #[] 0)).alloc (.cells #[.slice a1 u.gs.length c1,.slice a2 u.hs.length c2,.slice a3 u.fs.length c3,.map (some vb),.map (some cb),.slice none 0 0,.map (some (w6.heap.size+1))] 94)) from
      ⟨by simpa using Bx.new ((w6.alloc (.cells #[.map (some vb),.map (some cb)] 91)).alloc (.map #[] 0)) #[.slice a1 u.gs.length c1,.slice a2 u.hs.length c2,.slice a3 u.fs.length c3,.map (some vb),.map (some cb),.slice none 0 0,.map (some (w6.heap.size+1))] 94,⟨rfl,World.ownsRow_nil _ _ _ _,fun i h=>by simp at h,fun i h=>by simp at h,by simp⟩,
       by simpa using(Mp.new (w6.alloc (.cells #[.map (some vb),.map (some cb)] 91))).al (.cells #[.slice a1 u.gs.length c1,.slice a2 u.hs.length c2,.slice a3 u.fs.length c3,.map (some vb),.map (some cb),.slice none 0 0,.map (some (w6.heap.size+1))] 94),by(repeat(first|exact Below.refl _ _|refine Below.drew ?_ |refine Below.alloc ?_ (by simp<;>omega) _)),by omega,by omega⟩)
    clear q0 q1 q2 p0 p0b
    go_loopw [34] (fun i wr=>∃(k:Nat) (hd:HD) (xs:List Value) (hv:Value) (l:List (ByteArray×Int)),i=.int .i64 k∧k≤mg∧hd.length=k∧ep u.gs=hd++ep (u.gs.drop k)∧pW u.gs 0 []=pW (u.gs.drop k) k l∧R16 w6 (w6.heap.size+1+1) (w6.heap.size+1) (.slice a1 u.gs.length c1) (.slice a2 u.hs.length c2) (.slice a3 u.fs.length c3) (.map (some vb)) (.map (some cb)) hd xs hv l wr) (fun i _=>mg- (intOf i).toNat)
    case atStart=>exact⟨0,[],[],_,[],rfl,Nat.zero_le _,rfl,rfl,rfl,hR0.out⟩
    case round=>
      clear hR0;obtain⟨k,hd,xs,hv,l,rfl,hk,hdl,fz,hpl,hR⟩:=hrel;have oC:=af hR;have IN:=af (And.intro fz hpl);have FJ:=af hdl;clear fz hpl hR hdl;by_cases hlt:k<mg
      · have bH:k<u.gs.length:=by have:=MG.out;omega
        obtain⟨⟨t,y0,_⟩,y1,y2,y3,y4⟩:=hG.out k bH;have VI:=vH.out _ (List.getElem_mem bH);have pN:=uw SP.2.1 (List.getElem_mem bH);have hwr:=af (GP.trans (oC.below.mono GP.size));have d1:=af (AG bH);have d2:=af (Ie (i:=k) (l:=l) bH);have x0:=ag y0 hwr.out;have x1:=ag y1 hwr.out;have x2:=ag y2 hwr.out;have x3:=ag y3 hwr.out;have x4:=ag y4 hwr.out;have bG:ga=some ⟨gb,go,none⟩:=by rcases oH with q|q;(·omega);(·exact q)
        subst bG;generalize u.gs[k]=a at x1 x2 x3 x4 VI pN d1 d2;obtain⟨Cn,nm,ty,ln,wd⟩:=a;simp only[] at x1 x2 x3 x4 VI pN d1 d2;obtain⟨m,rfl⟩:∃m:Nat,ln=(m:Int):=⟨ln.toNat,by omega⟩;clear oH y0 y1 y2 y3 y4;have zN:=af (oC.on (Below.refl _ _));obtain⟨tT,OL,QM,-⟩:=aP oC.held.row;subst QM;have qn:=oC.fresh;have QN:=af qn;clear qn;by_cases hm:0<m
        · have dX:(0:Int)<(m:Int):=by omega
          have J9:=fun w9=>run_make_row' (P:=Tryz.prog) 27 52 (.int .u32 0) 4 Tryz.underlying27 (by kernel_rfl) rfl .u32 .u32 m (by omega) (by omega) w9
          go_wp2_with fail
          clear J9;have QO:=af (show Bx ((((wr.alloc (.cells #[.int .i64 t,.string nm,.int .u8 ty,.int .u32 (m:Int),.int .u32 wd] 105)).alloc (.cells #[.int .u32 wd] 52)).alloc (.cells #[.string nm,.slice (some ⟨wr.heap.size+1+1+1,0,none⟩) m m] 82)).alloc (.cells (madeCells #[.int .u32 0] m) 52)) (wr.heap.size+1+1) #[.string nm,.slice (some ⟨wr.heap.size+1+1+1,0,none⟩) m m] 82 by simpa using(Bx.new ((wr.alloc (.cells #[.int .i64 t,.string nm,.int .u8 ty,.int .u32 (m:Int),.int .u32 wd] 105)).alloc (.cells #[.int .u32 wd] 52)) #[.string nm,.slice (some ⟨wr.heap.size+1+1+1,0,none⟩) m m] 82).al (.cells (madeCells #[.int .u32 0] m) 52));have AH:=af (show Bx ((((wr.alloc (.cells #[.int .i64 t,.string nm,.int .u8 ty,.int .u32 (m:Int),.int .u32 wd] 105)).alloc (.cells #[.int .u32 wd] 52)).alloc (.cells #[.string nm,.slice (some ⟨wr.heap.size+1+1+1,0,none⟩) m m] 82)).alloc (.cells (madeCells #[.int .u32 0] m) 52)) wr.heap.size #[.int .i64 t,.string nm,.int .u8 ty,.int .u32 (m:Int),.int .u32 wd] 105 from(((Bx.new wr #[.int .i64 t,.string nm,.int .u8 ty,.int .u32 (m:Int),.int .u32 wd] 105).al _).al _).al _);have QX:=af (show Bx ((((wr.alloc (.cells #[.int .i64 t,.string nm,.int .u8 ty,.int .u32 (m:Int),.int .u32 wd] 105)).alloc (.cells #[.int .u32 wd] 52)).alloc (.cells #[.string nm,.slice (some ⟨wr.heap.size+1+1+1,0,none⟩) m m] 82)).alloc (.cells (madeCells #[.int .u32 0] m) 52)) (wr.heap.size+1+1+1) (madeCells #[.int .u32 0] m) 52 by simpa using Bx.new (((wr.alloc (.cells #[.int .i64 t,.string nm,.int .u8 ty,.int .u32 (m:Int),.int .u32 wd] 105)).alloc (.cells #[.int .u32 wd] 52)).alloc (.cells #[.string nm,.slice (some ⟨wr.heap.size+1+1+1,0,none⟩) m m] 82)) (madeCells #[.int .u32 0] m) 52);have TE:=af (show Below wr.heap.size wr ((((wr.alloc (.cells #[.int .i64 t,.string nm,.int .u8 ty,.int .u32 (m:Int),.int .u32 wd] 105)).alloc (.cells #[.int .u32 wd] 52)).alloc (.cells #[.string nm,.slice (some ⟨wr.heap.size+1+1+1,0,none⟩) m m] 82)).alloc (.cells (madeCells #[.int .u32 0] m) 52)) by(repeat(first|exact Below.refl _ _|refine Below.drew ?_ |refine Below.alloc ?_ (by simp<;>omega) _)));generalize ((((wr.alloc (.cells #[.int .i64 t,.string nm,.int .u8 ty,.int .u32 (m:Int),.int .u32 wd] 105)).alloc (.cells #[.int .u32 wd] 52)).alloc (.cells #[.string nm,.slice (some ⟨wr.heap.size+1+1+1,0,none⟩) m m] 82)).alloc (.cells (madeCells #[.int .u32 0] m) 52))=W at QO AH QX TE⊢;have RW:=af ((oC.on TE.out).on (Below.refl _ _).drew);have hwx:=oC.below.size;have OX:=af (show W.drew.ownsRow (w6.heap.size+1+1+1) 52 1 (.slice (some ⟨wr.heap.size+1+1+1,0,none⟩) m m) (List.replicate m 0:List Int).length ((List.replicate m 0:List Int).map (Value.int .u32)) from by have h9:=World.ownsRow.drew (vV (n:=m) QX.out (show w6.heap.size+1+1+1≤wr.heap.size+1+1+1 by omega) (size_madeCells _ _) (by omega));rw[toList_madeCells_one] at h9;simpa using h9);have mN:=af (QO.on (aJ W none) (by simp));have yl:=af (AH.on (aJ W none) (by simp));have TD:=af TE.drew;clear QO AH QX hwx;refine wp_region_held_drew (S:=(fun w9=>Bx w9 (wr.heap.size+1+1) #[.string nm,.slice (some ⟨wr.heap.size+1+1+1,0,none⟩) m m] 82)) (by kernel_rfl) mN.out (fun hHeld=>?_);generalize W.drew=Wd at*;clear TE;refine tk 0 ?_;refine tk 1 ?_;refine tk 2 ?_;refine tk 3 ?_;refine tk 5 ?_ (hy:=by intro w' hSw;have q1:=hSw.cell 0;have q2:=hSw.cell 1;simp at q1 q2;go_simp;(try with_reducible rfl));have r5:=RW.box.cell 5;have QP:=(RW.box.al (.cells #[.string nm,.slice (some ⟨wr.heap.size+1+1+1,0,none⟩) m m] 82)).cell 5;simp at r5 QP;refine wpAnyH_ready (rs:=[4,6]) (by kernel_rfl) (by simp) ?_;refine AllReadyH.cons (by simp only[List.getElem?_toArray,List.getElem?_cons_succ,List.getElem?_cons_zero];rfl) (fun K hK=>?_) (AllReadyH.cons (by simp only[List.getElem?_toArray,List.getElem?_cons_succ,List.getElem?_cons_zero];rfl) (fun K hK=>?_) AllReadyH.nil)
          · go_simp
            refine hK.out _ _ mN.out (fun hHeld=>?_);clear hK K
            try simp only[bK,bL,bM,bN,bO]
            refine tr 6 fun K hK=>?_
            go_simp;refine hK.out _ _ (mN.al _) (fun hHeld=>?_);clear hK K
            try simp only[bK,bL,bM,bN,bO]
            refine tr 7 fun K hK=>?_
            refine dg rfl _ _ 61 rfl (w6.heap.size+1+1+1) 82 82 (.agg #[.string ⟨#[]⟩,.slice none 0 0]) 2 40 1 Tryz.underlying61 (by kernel_rfl) rfl (by decide) (.slice tT hd.length OL) hd.length (eM hd xs) [.string nm,.slice (some ⟨wr.heap.size+1+1+1,0,none⟩) m m] (0,0) RW.held.row rfl (by simp[Value.oneCell']) (by have:=FJ.out;unfold maxLen;omega) (by have:=FJ.out;omega) (by have:=RW.box.lt;omega) rfl rfl ?_;intro v' w3 hA;have RA:=af (RW.add OX.out (by simp<;>omega) (fun y hy e=>by have h1:=QN.1 y hy _ e;simp at h1;omega) hA);obtain⟨na,nc,rfl,-⟩:=aP hA.own;have jx:some (wr.heap.size+1+1)≠(Value.slice tT hd.length OL).ownBlock:=fun e=>by have h1:=QN.2 _ e.symm;omega
            have sf:=af (mN.on hA.grown jx);have si:=af (yl.on hA.grown (fun e=>by have h1:=QN.2 _ e.symm;omega));have bX:=RW.box.on hA.grown (RW.box.not_row RW.held.row (by decide));have z5:=bX.cell 5;have f5:=bX.free 5;simp at z5;have hXl:w6.heap.size+1+1<wr.heap.size:=oC.box.lt;clear bX hA jx;refine hK.out _ _ sf.out (fun hHeld=>?_);clear hK K
            try simp only[bK,bL,bM,bN,bO]
            refine tk 8 ?_;refine tk 9 ?_;refine tr 10 fun K hK=>?_
            go_simp;have sj:=sf.on (aj w3 ⟨w6.heap.size+1+1,5,none⟩ (.slice na (hd.length+1) nc)) (by simp;omega);have kZ:=af (si.on (aj w3 ⟨w6.heap.size+1+1,5,none⟩ (.slice na (hd.length+1) nc)) (by simp;omega));refine hK.out _ _ sj (fun hHeld=>?_);clear hK K sj hHeld
            try simp only[bK,bL,bM,bN,bO]
            refine td ?_;generalize (w3.setCell ⟨w6.heap.size+1+1,5,none⟩ (.slice na (hd.length+1) nc))=w5 at RA kZ⊢;clear r5 QP z5 f5;have RB:=af (RA.on (Below.refl _ _).drew);obtain⟨w4,hrun,hg4,vr,kA⟩:=RB.place.update lG bm nm (.int .i64 k);have RC:=af (RB.put hg4 kA);clear hg4 vr kA;have z6:=RB.box.cell 6;have z1:=(kZ.on (aJ w5 none) (by simp)).cell 1;simp at z6 z1;go_wp2_with fail
            go_region
            go_wp2_with fail
            have fz:=af (show ep u.gs=(hd++[(nm,List.replicate m 0)])++ep (u.gs.drop (k+1)) by rw[IN.1,d1.out];simp[kY,hm]);exact⟨⟨k+1,_,_,_,_,by go_num,by omega,by simp[FJ.out],fz.out,by rw[IN.2,d2.out],RC.out⟩,by simp only[intOf];omega⟩
          · go_simp
            refine hK.out _ _ (mN.al _) (fun hHeld=>?_);clear hK K
            try simp only[bK,bL,bM,bN,bO]
            refine tr 4 fun K hK=>?_
            go_simp;refine hK.out _ _ (mN.al _) (fun hHeld=>?_);clear hK K
            try simp only[bK,bL,bM,bN,bO]
            refine tr 7 fun K hK=>?_
            refine dg rfl _ _ 61 rfl (w6.heap.size+1+1+1) 82 82 (.agg #[.string ⟨#[]⟩,.slice none 0 0]) 2 40 1 Tryz.underlying61 (by kernel_rfl) rfl (by decide) (.slice tT hd.length OL) hd.length (eM hd xs) [.string nm,.slice (some ⟨wr.heap.size+1+1+1,0,none⟩) m m] (0,0) RW.held.row rfl (by simp[Value.oneCell']) (by have:=FJ.out;unfold maxLen;omega) (by have:=FJ.out;omega) (by have:=RW.box.lt;omega) rfl rfl ?_;intro v' w3 hA;have RA:=af (RW.add OX.out (by simp<;>omega) (fun y hy e=>by have h1:=QN.1 y hy _ e;simp at h1;omega) hA);obtain⟨na,nc,rfl,-⟩:=aP hA.own;have jx:some (wr.heap.size+1+1)≠(Value.slice tT hd.length OL).ownBlock:=fun e=>by have h1:=QN.2 _ e.symm;omega
            have sf:=af (mN.on hA.grown jx);have si:=af (yl.on hA.grown (fun e=>by have h1:=QN.2 _ e.symm;omega));have bX:=RW.box.on hA.grown (RW.box.not_row RW.held.row (by decide));have z5:=bX.cell 5;have f5:=bX.free 5;simp at z5;have hXl:w6.heap.size+1+1<wr.heap.size:=oC.box.lt;clear bX hA jx;refine hK.out _ _ sf.out (fun hHeld=>?_);clear hK K
            try simp only[bK,bL,bM,bN,bO]
            refine tk 8 ?_;refine tk 9 ?_;refine tr 10 fun K hK=>?_
            go_simp;have sj:=sf.on (aj w3 ⟨w6.heap.size+1+1,5,none⟩ (.slice na (hd.length+1) nc)) (by simp;omega);have kZ:=af (si.on (aj w3 ⟨w6.heap.size+1+1,5,none⟩ (.slice na (hd.length+1) nc)) (by simp;omega));refine hK.out _ _ sj (fun hHeld=>?_);clear hK K sj hHeld
            try simp only[bK,bL,bM,bN,bO]
            refine td ?_;generalize (w3.setCell ⟨w6.heap.size+1+1,5,none⟩ (.slice na (hd.length+1) nc))=w5 at RA kZ⊢;clear r5 QP z5 f5;have RB:=af (RA.on (Below.refl _ _).drew);obtain⟨w4,hrun,hg4,vr,kA⟩:=RB.place.update lG bm nm (.int .i64 k);have RC:=af (RB.put hg4 kA);clear hg4 vr kA;have z6:=RB.box.cell 6;have z1:=(kZ.on (aJ w5 none) (by simp)).cell 1;simp at z6 z1;go_wp2_with fail
            go_region
            go_wp2_with fail
            have fz:=af (show ep u.gs=(hd++[(nm,List.replicate m 0)])++ep (u.gs.drop (k+1)) by rw[IN.1,d1.out];simp[kY,hm]);exact⟨⟨k+1,_,_,_,_,by go_num,by omega,by simp[FJ.out],fz.out,by rw[IN.2,d2.out],RC.out⟩,by simp only[intOf];omega⟩
        · have dX:¬(0:Int)<(m:Int):=by omega
          go_wp2_with fail
          have QO:=af (show Bx (((wr.alloc (.cells #[.int .i64 t,.string nm,.int .u8 ty,.int .u32 (m:Int),.int .u32 wd] 105)).alloc (.cells #[.int .u32 wd] 52)).alloc (.cells #[.string nm,.slice (some ⟨wr.heap.size+1,0,none⟩) 1 1] 82)) (wr.heap.size+1+1) #[.string nm,.slice (some ⟨wr.heap.size+1,0,none⟩) 1 1] 82 by simpa using Bx.new ((wr.alloc (.cells #[.int .i64 t,.string nm,.int .u8 ty,.int .u32 (m:Int),.int .u32 wd] 105)).alloc (.cells #[.int .u32 wd] 52)) #[.string nm,.slice (some ⟨wr.heap.size+1,0,none⟩) 1 1] 82);have AH:=af (show Bx (((wr.alloc (.cells #[.int .i64 t,.string nm,.int .u8 ty,.int .u32 (m:Int),.int .u32 wd] 105)).alloc (.cells #[.int .u32 wd] 52)).alloc (.cells #[.string nm,.slice (some ⟨wr.heap.size+1,0,none⟩) 1 1] 82)) wr.heap.size #[.int .i64 t,.string nm,.int .u8 ty,.int .u32 (m:Int),.int .u32 wd] 105 from((Bx.new wr #[.int .i64 t,.string nm,.int .u8 ty,.int .u32 (m:Int),.int .u32 wd] 105).al _).al _);have QX:=af (show Bx (((wr.alloc (.cells #[.int .i64 t,.string nm,.int .u8 ty,.int .u32 (m:Int),.int .u32 wd] 105)).alloc (.cells #[.int .u32 wd] 52)).alloc (.cells #[.string nm,.slice (some ⟨wr.heap.size+1,0,none⟩) 1 1] 82)) (wr.heap.size+1) (#[.int .u32 wd]) 52 by simpa using(Bx.new (wr.alloc (.cells #[.int .i64 t,.string nm,.int .u8 ty,.int .u32 (m:Int),.int .u32 wd] 105)) #[.int .u32 wd] 52).al (.cells #[.string nm,.slice (some ⟨wr.heap.size+1,0,none⟩) 1 1] 82));have TE:=af (show Below wr.heap.size wr (((wr.alloc (.cells #[.int .i64 t,.string nm,.int .u8 ty,.int .u32 (m:Int),.int .u32 wd] 105)).alloc (.cells #[.int .u32 wd] 52)).alloc (.cells #[.string nm,.slice (some ⟨wr.heap.size+1,0,none⟩) 1 1] 82)) by(repeat(first|exact Below.refl _ _|refine Below.drew ?_ |refine Below.alloc ?_ (by simp<;>omega) _)));generalize (((wr.alloc (.cells #[.int .i64 t,.string nm,.int .u8 ty,.int .u32 (m:Int),.int .u32 wd] 105)).alloc (.cells #[.int .u32 wd] 52)).alloc (.cells #[.string nm,.slice (some ⟨wr.heap.size+1,0,none⟩) 1 1] 82))=W at QO AH QX TE⊢;have RW:=af ((oC.on TE.out).on (Below.refl _ _).drew);have hwx:=oC.below.size;have OX:=af (show W.drew.ownsRow (w6.heap.size+1+1+1) 52 1 (.slice (some ⟨wr.heap.size+1,0,none⟩) 1 1) ([wd]:List Int).length (([wd]:List Int).map (Value.int .u32)) from by have h9:=World.ownsRow.drew (vV (n:=1) QX.out (show w6.heap.size+1+1+1≤wr.heap.size+1 by have:=oC.box.lt;omega) rfl (by omega));simpa using h9);have mN:=af (QO.on (aJ W none) (by simp));have yl:=af (AH.on (aJ W none) (by simp));have TD:=af TE.drew;clear QO AH QX hwx;refine wp_region_held_drew (S:=(fun w9=>Bx w9 (wr.heap.size+1+1) #[.string nm,.slice (some ⟨wr.heap.size+1,0,none⟩) 1 1] 82)) (by kernel_rfl) mN.out (fun hHeld=>?_);generalize W.drew=Wd at*;clear TE;refine tk 0 ?_;refine tk 1 ?_;refine tk 2 ?_;refine tk 3 ?_;refine tk 5 ?_ (hy:=by intro w' hSw;have q1:=hSw.cell 0;have q2:=hSw.cell 1;simp at q1 q2;go_simp;(try with_reducible rfl));have r5:=RW.box.cell 5;have QP:=(RW.box.al (.cells #[.string nm,.slice (some ⟨wr.heap.size+1,0,none⟩) 1 1] 82)).cell 5;simp at r5 QP;refine wpAnyH_ready (rs:=[4,6]) (by kernel_rfl) (by simp) ?_;refine AllReadyH.cons (by simp only[List.getElem?_toArray,List.getElem?_cons_succ,List.getElem?_cons_zero];rfl) (fun K hK=>?_) (AllReadyH.cons (by simp only[List.getElem?_toArray,List.getElem?_cons_succ,List.getElem?_cons_zero];rfl) (fun K hK=>?_) AllReadyH.nil)
          · go_simp
            refine hK.out _ _ mN.out (fun hHeld=>?_);clear hK K
            try simp only[bK,bL,bM,bN,bO]
            refine tr 6 fun K hK=>?_
            go_simp;refine hK.out _ _ (mN.al _) (fun hHeld=>?_);clear hK K
            try simp only[bK,bL,bM,bN,bO]
            refine tr 7 fun K hK=>?_
            refine dg rfl _ _ 61 rfl (w6.heap.size+1+1+1) 82 82 (.agg #[.string ⟨#[]⟩,.slice none 0 0]) 2 40 1 Tryz.underlying61 (by kernel_rfl) rfl (by decide) (.slice tT hd.length OL) hd.length (eM hd xs) [.string nm,.slice (some ⟨wr.heap.size+1,0,none⟩) 1 1] (0,0) RW.held.row rfl (by simp[Value.oneCell']) (by have:=FJ.out;unfold maxLen;omega) (by have:=FJ.out;omega) (by have:=RW.box.lt;omega) rfl rfl ?_;intro v' w3 hA;have RA:=af (RW.add OX.out (by simp<;>omega) (fun y hy e=>by have h1:=QN.1 y hy _ e;simp at h1;omega) hA);obtain⟨na,nc,rfl,-⟩:=aP hA.own;have jx:some (wr.heap.size+1+1)≠(Value.slice tT hd.length OL).ownBlock:=fun e=>by have h1:=QN.2 _ e.symm;omega
            have sf:=af (mN.on hA.grown jx);have si:=af (yl.on hA.grown (fun e=>by have h1:=QN.2 _ e.symm;omega));have bX:=RW.box.on hA.grown (RW.box.not_row RW.held.row (by decide));have z5:=bX.cell 5;have f5:=bX.free 5;simp at z5;have hXl:w6.heap.size+1+1<wr.heap.size:=oC.box.lt;clear bX hA jx;refine hK.out _ _ sf.out (fun hHeld=>?_);clear hK K
            try simp only[bK,bL,bM,bN,bO]
            refine tk 8 ?_;refine tk 9 ?_;refine tr 10 fun K hK=>?_
            go_simp;have sj:=sf.on (aj w3 ⟨w6.heap.size+1+1,5,none⟩ (.slice na (hd.length+1) nc)) (by simp;omega);have kZ:=af (si.on (aj w3 ⟨w6.heap.size+1+1,5,none⟩ (.slice na (hd.length+1) nc)) (by simp;omega));refine hK.out _ _ sj (fun hHeld=>?_);clear hK K sj hHeld
            try simp only[bK,bL,bM,bN,bO]
            refine td ?_;generalize (w3.setCell ⟨w6.heap.size+1+1,5,none⟩ (.slice na (hd.length+1) nc))=w5 at RA kZ⊢;clear r5 QP z5 f5;have RB:=af (RA.on (Below.refl _ _).drew);obtain⟨w4,hrun,hg4,vr,kA⟩:=RB.place.update lG bm nm (.int .i64 k);have RC:=af (RB.put hg4 kA);clear hg4 vr kA;have z6:=RB.box.cell 6;have z1:=(kZ.on (aJ w5 none) (by simp)).cell 1;simp at z6 z1;go_wp2_with fail
            go_region
            go_wp2_with fail
            have fz:=af (show ep u.gs=(hd++[(nm,[wd])])++ep (u.gs.drop (k+1)) by rw[IN.1,d1.out];simp[kY,hm]);exact⟨⟨k+1,_,_,_,_,by go_num,by omega,by simp[FJ.out],fz.out,by rw[IN.2,d2.out],RC.out⟩,by simp only[intOf];omega⟩
          · go_simp
            refine hK.out _ _ (mN.al _) (fun hHeld=>?_);clear hK K
            try simp only[bK,bL,bM,bN,bO]
            refine tr 4 fun K hK=>?_
            go_simp;refine hK.out _ _ (mN.al _) (fun hHeld=>?_);clear hK K
            try simp only[bK,bL,bM,bN,bO]
            refine tr 7 fun K hK=>?_
            refine dg rfl _ _ 61 rfl (w6.heap.size+1+1+1) 82 82 (.agg #[.string ⟨#[]⟩,.slice none 0 0]) 2 40 1 Tryz.underlying61 (by kernel_rfl) rfl (by decide) (.slice tT hd.length OL) hd.length (eM hd xs) [.string nm,.slice (some ⟨wr.heap.size+1,0,none⟩) 1 1] (0,0) RW.held.row rfl (by simp[Value.oneCell']) (by have:=FJ.out;unfold maxLen;omega) (by have:=FJ.out;omega) (by have:=RW.box.lt;omega) rfl rfl ?_;intro v' w3 hA;have RA:=af (RW.add OX.out (by simp<;>omega) (fun y hy e=>by have h1:=QN.1 y hy _ e;simp at h1;omega) hA);obtain⟨na,nc,rfl,-⟩:=aP hA.own;have jx:some (wr.heap.size+1+1)≠(Value.slice tT hd.length OL).ownBlock:=fun e=>by have h1:=QN.2 _ e.symm;omega
            have sf:=af (mN.on hA.grown jx);have si:=af (yl.on hA.grown (fun e=>by have h1:=QN.2 _ e.symm;omega));have bX:=RW.box.on hA.grown (RW.box.not_row RW.held.row (by decide));have z5:=bX.cell 5;have f5:=bX.free 5;simp at z5;have hXl:w6.heap.size+1+1<wr.heap.size:=oC.box.lt;clear bX hA jx;refine hK.out _ _ sf.out (fun hHeld=>?_);clear hK K
            try simp only[bK,bL,bM,bN,bO]
            refine tk 8 ?_;refine tk 9 ?_;refine tr 10 fun K hK=>?_
            go_simp;have sj:=sf.on (aj w3 ⟨w6.heap.size+1+1,5,none⟩ (.slice na (hd.length+1) nc)) (by simp;omega);have kZ:=af (si.on (aj w3 ⟨w6.heap.size+1+1,5,none⟩ (.slice na (hd.length+1) nc)) (by simp;omega));refine hK.out _ _ sj (fun hHeld=>?_);clear hK K sj hHeld
            try simp only[bK,bL,bM,bN,bO]
            refine td ?_;generalize (w3.setCell ⟨w6.heap.size+1+1,5,none⟩ (.slice na (hd.length+1) nc))=w5 at RA kZ⊢;clear r5 QP z5 f5;have RB:=af (RA.on (Below.refl _ _).drew);obtain⟨w4,hrun,hg4,vr,kA⟩:=RB.place.update lG bm nm (.int .i64 k);have RC:=af (RB.put hg4 kA);clear hg4 vr kA;have z6:=RB.box.cell 6;have z1:=(kZ.on (aJ w5 none) (by simp)).cell 1;simp at z6 z1;go_wp2_with fail
            go_region
            go_wp2_with fail
            have fz:=af (show ep u.gs=(hd++[(nm,[wd])])++ep (u.gs.drop (k+1)) by rw[IN.1,d1.out];simp[kY,hm]);exact⟨⟨k+1,_,_,_,_,by go_num,by omega,by simp[FJ.out],fz.out,by rw[IN.2,d2.out],RC.out⟩,by simp only[intOf];omega⟩
      · obtain rfl:mg=k:=by omega
        go_wp2_with fail
        go_ret2;have h1:=IN.1;have h2:=IN.2;rw[MG.out,List.drop_length] at h1 h2;simp only[ep,List.map_nil,List.append_nil] at h1;have hb:=GP.size;refine⟨GP.trans (oC.below.mono hb),.inr ⟨Oz.symm,w6.heap.size+1+1+1,vs,cs,w6.heap.size+1+1,vb,cb,w6.heap.size+1,.slice a1 u.gs.length c1,.slice a2 u.hs.length c2,.slice a3 u.fs.length c3,hv,xs,rfl,SP.1,by omega,by omega,?_⟩⟩;have hl:pW u.gs 0 []=l:=h2;have hi:ep u.gs=hd:=h1;rw[hl,hi];refine⟨?_,?_⟩
        · refine⟨oC.box,hU6.sub (fun a v hc=>?_),NM.only oC.below (by omega),oC.held,oC.place,oC.box.lt,by have:=NM.vars.lt;omega,by obtain⟨l9,h9,-⟩:=NM.calls;have:=h9.lt;omega,by omega,by have:=oC.box.lt;omega⟩
          rw[dx,if_pos (by have:=World.block_lt_of_cell? _ _ hc;simp;omega)];exact ag hc oC.below
        · obtain⟨l9,h9,h8⟩:=CX.out
          refine⟨w0,l9,U0.out,h8,h9.mono oC.below,fun a v h=>?_,LV.1,LV.2,by omega⟩;have h7:=S0.out a v h;have h6:=ag (ag h7.2 T5.out) T6.out;exact⟨h7.1,by have:=World.block_lt_of_cell? _ _ h6;omega,ag h6 oC.below⟩
  · have hc1:(ck==0)=false:=by simpa using hc0
    go_wp2_with fail
    go_region
    go_wp2_with fail
    go_ret2;have kq:=Oz.out;subst kq;exact Em.no hc0 gQ.drew
theorem OM (u:UT) (v:Value) (w:World) (ok:u.Ok) (wf:u.Wf) (vH:Hid (∀x∈u.gs,0≤x.len∧x.len<4294967296)) (hv:jR w false none u v):Calls Tryz.prog 16 #[v] w (P16 w u):=
 (Ig u v w ok wf vH hv).mono fun e w' h=>h.plain
end
section
theorem Mj (n:Int) (w:World):(callFunc 179 #[.int .u32 n]).run Tryz.prog w=.ok (.value (.float .f32 n.toNat)) w:=by
 rw[run_callFunc_extern (e:=Extern.MathFloatBits.float32frombits) Tryz.func179 (by kernel_rfl) (by kernel_rfl) (by kernel_rfl) (by kernel_rfl)];rfl
theorem Mk (b:Nat) (w:World):(callFunc 178 #[.float .f32 b]).run Tryz.prog w=.ok (.value (.int .u32 b)) w:=by
 rw[run_callFunc_extern (e:=Extern.MathFloatBits.float32bits) Tryz.func178 (by kernel_rfl) (by kernel_rfl) (by kernel_rfl) (by kernel_rfl)];rfl
theorem dP (a:Int) (w:World):Calls Tryz.prog 148 #[.int .u32 a] w fun e w'=>e=.returned (.float .f32 a.toNat)∧w'=w:=by
 have h1:=Mj;go_enter Tryz.func148,Tryz.ntmps148;go_wp2_with fail
 go_ret;exact⟨rfl,rfl⟩
def jf (r:Nat):Int:=if (FloatKind.f32.format.order r r !=some .eq)=true then 2143289344 else r
theorem nZ (a:Nat) (w:World):Calls Tryz.prog 147 #[.float .f32 a] w fun e w'=>e=.returned (.int .u32 (jf a))∧w'=w:=by
 have h1:=Mk;cases h:(FloatKind.f32.format.order a a !=some .eq) with
 |true=>
  have hh:=af (show jf a=2143289344 by unfold jf;rw[h];rfl);go_enter Tryz.func147,Tryz.ntmps147;go_wp2_with fail
  go_ret;rw[hh.out];exact⟨rfl,rfl⟩
 |false=>
  have hh:=af (show jf a=a by unfold jf;rw[h];rfl);go_enter Tryz.func147,Tryz.ntmps147;go_wp2_with fail
  go_ret;rw[hh.out];exact⟨rfl,rfl⟩
def js (o:Option Nat):Int:=match o with
 |some r=>jf r
 |none=>2143289344
theorem Ih (b:Nat) (h:2139095040<b%2147483648):FloatKind.f32.format.order b b=none:=by
 show Ieee.Datum.order (Ieee.Format.read Ieee.single b) (Ieee.Format.read Ieee.single b)=none
 have e:Ieee.Format.read Ieee.single b=.nan (b/2147483648%2==1) (b%2147483648-2139095040):=by
  unfold Ieee.Format.read;have h1:Ieee.Format.signWeight Ieee.single=2147483648:=by decide
  have h2:Ieee.Format.binade Ieee.single=8388608:=by decide
  have h3:Ieee.Format.infRung Ieee.single=2139095040:=by decide
  rw[h1,h2,h3];simp only[];rw[if_neg (by omega),if_neg (by omega),if_neg (by omega)]
 rw[e];rfl
theorem Ml (x y t:Nat):jf ((Question.nanBits FloatKind.f32 x y).cut t)=2143289344:=by
 have h:FloatKind.f32.format.order ((Question.nanBits FloatKind.f32 x y).cut t) ((Question.nanBits FloatKind.f32 x y).cut t)=none:=by
  apply Ih
  show 2139095040<(t%2*2147483648+2139095040+1+t/2%8388607)%2147483648
  have h1:t%2<2:=Nat.mod_lt _ (by omega);have h2:t/2%8388607<8388607:=Nat.mod_lt _ (by omega);generalize t%2=p at h1⊢;generalize t/2%8388607=q at h2⊢;omega
 unfold jf;rw[h];rfl
theorem Ii (x y:Nat) (w:World):∃b w',(Value.float FloatKind.f32<$>choose (Question.nanBits FloatKind.f32 x y)).run Tryz.prog w=.ok (.float .f32 b) w'∧jf b=2143289344∧Below w.heap.size w w':=by
 refine⟨(Question.nanBits FloatKind.f32 x y).cut (w.tape w.drawn (Question.nanBits FloatKind.f32 x y)),w.drew,?_,Ml _ _ _,(Below.refl _ _).drew⟩;have hf:(Question.nanBits FloatKind.f32 x y).forced=false:=rfl;simp[hf]
theorem lH (op:BinOp) (x y:Nat) (w:World) (o:Option Nat) (h:floatBits op .f32 x y=o) (hop:op=.add∨op=.sub∨op=.mul∨op=.quo):
  ∃b w',(binOp op 248 (.float .f32 x) (.float .f32 y)).run Tryz.prog w=.ok (.float .f32 b) w'∧jf b=js o∧Below w.heap.size w w':=by
 rcases hop with rfl|rfl|rfl|rfl
 all_goals cases o with
 |some r=>
  refine⟨r,w,?_,rfl,Below.refl _ _⟩;simp[binOp,run_floatArith w h]
 |none=>
  unfold floatBits at h;simp only[] at h;obtain⟨b,w',h1,h2,h3⟩:=Ii x y w;refine⟨b,w',?_,h2,h3⟩;simp only[binOp,Op.floatArith,pure_bind,h]
  first|exact h1|simpa using h1
end
section
theorem QQ (a b:Int) (w:World):Calls Tryz.prog 212 #[.int .u32 a,.int .u32 b] w fun e w'=>e=.returned (.int .u32 (js (FloatKind.f32.format.add a.toNat b.toNat)))∧Below w.heap.size w w':=by
 have c1:=af (dP a w);have c2:=af (dP b w);obtain⟨x,w1,hrun,hx,hb⟩:=lH .add a.toNat b.toNat w (FloatKind.f32.format.add a.toNat b.toNat) rfl (by simp);have HX:=af (And.intro hx hb);have c3:=af (nZ x w1);clear hx hb;go_enter Tryz.func212,Tryz.ntmps212;go_wp2_with fail
 refine c1.mono ?_;rintro e w2 ⟨rfl,hw⟩;subst w2;clear c1;go_wp2_with fail
 refine c2.mono ?_;rintro e w2 ⟨rfl,hw⟩;subst w2;clear c2;go_wp2_with fail
 refine c3.mono ?_;rintro e w2 ⟨rfl,hw⟩;subst w2;clear c3;go_wp2_with fail
 go_ret;rw[HX.1];exact⟨rfl,HX.2⟩
theorem Mm (a b:Int) (w:World):Calls Tryz.prog 213 #[.int .u32 a,.int .u32 b] w fun e w'=>e=.returned (.int .u32 (js (FloatKind.f32.format.sub a.toNat b.toNat)))∧Below w.heap.size w w':=by
 have c1:=af (dP a w);have c2:=af (dP b w);obtain⟨x,w1,hrun,hx,hb⟩:=lH .sub a.toNat b.toNat w (FloatKind.f32.format.sub a.toNat b.toNat) rfl (by simp);have HX:=af (And.intro hx hb);have c3:=af (nZ x w1);clear hx hb;go_enter Tryz.func213,Tryz.ntmps213;go_wp2_with fail
 refine c1.mono ?_;rintro e w2 ⟨rfl,hw⟩;subst w2;clear c1;go_wp2_with fail
 refine c2.mono ?_;rintro e w2 ⟨rfl,hw⟩;subst w2;clear c2;go_wp2_with fail
 refine c3.mono ?_;rintro e w2 ⟨rfl,hw⟩;subst w2;clear c3;go_wp2_with fail
 go_ret;rw[HX.1];exact⟨rfl,HX.2⟩
theorem AJ (a b:Int) (w:World):Calls Tryz.prog 214 #[.int .u32 a,.int .u32 b] w fun e w'=>e=.returned (.int .u32 (js (FloatKind.f32.format.mul a.toNat b.toNat)))∧Below w.heap.size w w':=by
 have c1:=af (dP a w);have c2:=af (dP b w);obtain⟨x,w1,hrun,hx,hb⟩:=lH .mul a.toNat b.toNat w (FloatKind.f32.format.mul a.toNat b.toNat) rfl (by simp);have HX:=af (And.intro hx hb);have c3:=af (nZ x w1);clear hx hb;go_enter Tryz.func214,Tryz.ntmps214;go_wp2_with fail
 refine c1.mono ?_;rintro e w2 ⟨rfl,hw⟩;subst w2;clear c1;go_wp2_with fail
 refine c2.mono ?_;rintro e w2 ⟨rfl,hw⟩;subst w2;clear c2;go_wp2_with fail
 refine c3.mono ?_;rintro e w2 ⟨rfl,hw⟩;subst w2;clear c3;go_wp2_with fail
 go_ret;rw[HX.1];exact⟨rfl,HX.2⟩
theorem Ij (a b:Int) (w:World):Calls Tryz.prog 215 #[.int .u32 a,.int .u32 b] w fun e w'=>e=.returned (.int .u32 (js (FloatKind.f32.format.div a.toNat b.toNat)))∧Below w.heap.size w w':=by
 have c1:=af (dP a w);have c2:=af (dP b w);obtain⟨x,w1,hrun,hx,hb⟩:=lH .quo a.toNat b.toNat w (FloatKind.f32.format.div a.toNat b.toNat) rfl (by simp);have HX:=af (And.intro hx hb);have c3:=af (nZ x w1);clear hx hb;go_enter Tryz.func215,Tryz.ntmps215;go_wp2_with fail
 refine c1.mono ?_;rintro e w2 ⟨rfl,hw⟩;subst w2;clear c1;go_wp2_with fail
 refine c2.mono ?_;rintro e w2 ⟨rfl,hw⟩;subst w2;clear c2;go_wp2_with fail
 refine c3.mono ?_;rintro e w2 ⟨rfl,hw⟩;subst w2;clear c3;go_wp2_with fail
 go_ret;rw[HX.1];exact⟨rfl,HX.2⟩
def gD (a b:Int):Int:=match FloatKind.f32.format.order a.toNat b.toNat with
 |some .lt=>2
 |some .gt=>4
 |some .eq=>3
 |none=>1
theorem Ik (a b:Int) (w:World):Calls Tryz.prog 175 #[.int .u32 a,.int .u32 b] w fun e w'=>e=.returned (.int .u8 (gD a b))∧w'=w:=by
 have c1:=af (dP a w);have c2:=af (dP b w)
 match ho:FloatKind.f32.format.order a.toNat b.toNat with
 |none=>
  have hh:=af (show gD a b=1 by unfold gD;rw[ho]);have t1:(FloatKind.f32.format.order a.toNat b.toNat==some .lt)=false:=by rw[ho];rfl
  have t2:(FloatKind.f32.format.order a.toNat b.toNat==some .gt)=false:=by rw[ho];rfl
  have t3:(FloatKind.f32.format.order a.toNat b.toNat==some .eq)=false:=by rw[ho];rfl
  clear ho;go_enter Tryz.func175,Tryz.ntmps175;go_wp2_with fail
  refine c1.mono ?_;rintro e w2 ⟨rfl,hw⟩;subst w2;clear c1;go_wp2_with fail
  refine c2.mono ?_;rintro e w2 ⟨rfl,hw⟩;subst w2;clear c2;go_wp2_with fail
  go_ret;rw[hh.out];exact⟨rfl,rfl⟩
 |some .lt=>
  have hh:=af (show gD a b=2 by unfold gD;rw[ho]);have t1:(FloatKind.f32.format.order a.toNat b.toNat==some .lt)=true:=by rw[ho];rfl
  have t2:(FloatKind.f32.format.order a.toNat b.toNat==some .gt)=false:=by rw[ho];rfl
  have t3:(FloatKind.f32.format.order a.toNat b.toNat==some .eq)=false:=by rw[ho];rfl
  clear ho;go_enter Tryz.func175,Tryz.ntmps175;go_wp2_with fail
  refine c1.mono ?_;rintro e w2 ⟨rfl,hw⟩;subst w2;clear c1;go_wp2_with fail
  refine c2.mono ?_;rintro e w2 ⟨rfl,hw⟩;subst w2;clear c2;go_wp2_with fail
  go_ret;rw[hh.out];exact⟨rfl,rfl⟩
 |some .gt=>
  have hh:=af (show gD a b=4 by unfold gD;rw[ho]);have t1:(FloatKind.f32.format.order a.toNat b.toNat==some .lt)=false:=by rw[ho];rfl
  have t2:(FloatKind.f32.format.order a.toNat b.toNat==some .gt)=true:=by rw[ho];rfl
  have t3:(FloatKind.f32.format.order a.toNat b.toNat==some .eq)=false:=by rw[ho];rfl
  clear ho;go_enter Tryz.func175,Tryz.ntmps175;go_wp2_with fail
  refine c1.mono ?_;rintro e w2 ⟨rfl,hw⟩;subst w2;clear c1;go_wp2_with fail
  refine c2.mono ?_;rintro e w2 ⟨rfl,hw⟩;subst w2;clear c2;go_wp2_with fail
  go_ret;rw[hh.out];exact⟨rfl,rfl⟩
 |some .eq=>
  have hh:=af (show gD a b=3 by unfold gD;rw[ho]);have t1:(FloatKind.f32.format.order a.toNat b.toNat==some .lt)=false:=by rw[ho];rfl
  have t2:(FloatKind.f32.format.order a.toNat b.toNat==some .gt)=false:=by rw[ho];rfl
  have t3:(FloatKind.f32.format.order a.toNat b.toNat==some .eq)=true:=by rw[ho];rfl
  clear ho;go_enter Tryz.func175,Tryz.ntmps175;go_wp2_with fail
  refine c1.mono ?_;rintro e w2 ⟨rfl,hw⟩;subst w2;clear c1;go_wp2_with fail
  refine c2.mono ?_;rintro e w2 ⟨rfl,hw⟩;subst w2;clear c2;go_wp2_with fail
  go_ret;rw[hh.out];exact⟨rfl,rfl⟩
end
section
def fx (op a b:Int):Option Int:=
 if op=39 then some ((a+b)%4294967296) else if op=40 then some ((a-b)%4294967296) else if op=41 then some (a*b%4294967296)
 else if op=42 then if wrap32 b=0 then none else some (wrap32 ((wrap32 a).tdiv (wrap32 b))%4294967296)
 else if op=44 then if wrap32 b=0 then none else some ((wrap32 a).tmod (wrap32 b)%4294967296)
 else if op=46 then some (bits .and .u32 a b) else if op=47 then some (bits .or .u32 a b) else if op=48 then some (bits .xor .u32 a b)
 else if op=50 then some (a*2^min (b.tmod 32).toNat 32%4294967296) else if op=51 then some (wrap32 a/2^min (b.tmod 32).toNat 32%4294967296)
 else if op=54 then some (js (FloatKind.f32.format.add a.toNat b.toNat)) else if op=55 then some (js (FloatKind.f32.format.sub a.toNat b.toNat))
 else if op=56 then some (js (FloatKind.f32.format.mul a.toNat b.toNat)) else if op=57 then some (js (FloatKind.f32.format.div a.toNat b.toNat)) else some 0
def opsL:List Int:=[39,40,41,42,44,46,47,48,50,51,54,55,56,57,0]
abbrev divE:Ending:=.panicked [{v:=.iface 10 (strVal "integer divide by zero"),recovered:=false}]
def vW (op:Int):Int:=if op=0 then 61 else 0
def kC (op:Int) (o:Option Int):Ending:=match o with
 |some r=>.returned (.tuple #[.int .u32 r,.int .i64 (vW op)])
 |none=>divE
theorem En (a b:Int) (hb:0≤b.tmod 32) (w:World):Calls Tryz.prog 177 #[.int .u8 39,.int .u32 a,.int .u32 b] w fun e w'=>e=kC 39 (fx 39 a b)∧Below w.heap.size w w':=by
 go_enter Tryz.func177,Tryz.ntmps177;go_wp2_with fail
 go_ret2;exact⟨rfl,Below.refl _ _⟩
theorem Eo (a b:Int) (hb:0≤b.tmod 32) (w:World):Calls Tryz.prog 177 #[.int .u8 40,.int .u32 a,.int .u32 b] w fun e w'=>e=kC 40 (fx 40 a b)∧Below w.heap.size w w':=by
 go_enter Tryz.func177,Tryz.ntmps177;go_wp2_with fail
 go_ret2;exact⟨rfl,Below.refl _ _⟩
theorem Ep (a b:Int) (hb:0≤b.tmod 32) (w:World):Calls Tryz.prog 177 #[.int .u8 41,.int .u32 a,.int .u32 b] w fun e w'=>e=kC 41 (fx 41 a b)∧Below w.heap.size w w':=by
 go_enter Tryz.func177,Tryz.ntmps177;go_wp2_with fail
 go_ret2;exact⟨rfl,Below.refl _ _⟩
theorem Er (a b:Int) (hb:0≤b.tmod 32) (w:World):Calls Tryz.prog 177 #[.int .u8 46,.int .u32 a,.int .u32 b] w fun e w'=>e=kC 46 (fx 46 a b)∧Below w.heap.size w w':=by
 go_enter Tryz.func177,Tryz.ntmps177;go_wp2_with fail
 go_ret2;exact⟨rfl,Below.refl _ _⟩
theorem Es (a b:Int) (hb:0≤b.tmod 32) (w:World):Calls Tryz.prog 177 #[.int .u8 47,.int .u32 a,.int .u32 b] w fun e w'=>e=kC 47 (fx 47 a b)∧Below w.heap.size w w':=by
 go_enter Tryz.func177,Tryz.ntmps177;go_wp2_with fail
 go_ret2;exact⟨rfl,Below.refl _ _⟩
theorem Et (a b:Int) (hb:0≤b.tmod 32) (w:World):Calls Tryz.prog 177 #[.int .u8 48,.int .u32 a,.int .u32 b] w fun e w'=>e=kC 48 (fx 48 a b)∧Below w.heap.size w w':=by
 go_enter Tryz.func177,Tryz.ntmps177;go_wp2_with fail
 go_ret2;exact⟨rfl,Below.refl _ _⟩
theorem Eu (a b:Int) (hb:0≤b.tmod 32) (w:World):Calls Tryz.prog 177 #[.int .u8 50,.int .u32 a,.int .u32 b] w fun e w'=>e=kC 50 (fx 50 a b)∧Below w.heap.size w w':=by
 go_enter Tryz.func177,Tryz.ntmps177;go_wp2_with fail
 go_ret2;exact⟨rfl,Below.refl _ _⟩
theorem Ew (a b:Int) (hb:0≤b.tmod 32) (w:World):Calls Tryz.prog 177 #[.int .u8 51,.int .u32 a,.int .u32 b] w fun e w'=>e=kC 51 (fx 51 a b)∧Below w.heap.size w w':=by
 go_enter Tryz.func177,Tryz.ntmps177;go_wp2_with fail
 go_ret2;exact⟨rfl,Below.refl _ _⟩
theorem Il (a b:Int) (hb:0≤b.tmod 32) (w:World):Calls Tryz.prog 177 #[.int .u8 0,.int .u32 a,.int .u32 b] w fun e w'=>e=kC 0 (fx 0 a b)∧Below w.heap.size w w':=by
 go_enter Tryz.func177,Tryz.ntmps177;go_wp2_with fail
 go_ret2;exact⟨rfl,Below.refl _ _⟩
theorem Ex (a b:Int) (hb:0≤b.tmod 32) (w:World):Calls Tryz.prog 177 #[.int .u8 42,.int .u32 a,.int .u32 b] w fun e w'=>e=kC 42 (fx 42 a b)∧Below w.heap.size w w':=by
 by_cases h0:wrap32 b=0
 ·have hh:=af (show fx 42 a b=none by simp[fx,h0]);go_enter Tryz.func177,Tryz.ntmps177;go_wp2_with fail
  refine ar ?_;rw[hh.out];exact⟨rfl,Below.refl _ _⟩
 ·have hh:=af (show fx 42 a b=some (wrap32 ((wrap32 a).tdiv (wrap32 b))%4294967296) by simp[fx,h0]);go_enter Tryz.func177,Tryz.ntmps177;go_wp2_with fail
  go_ret2;rw[hh.out];exact⟨rfl,Below.refl _ _⟩
theorem Ey (a b:Int) (hb:0≤b.tmod 32) (w:World):Calls Tryz.prog 177 #[.int .u8 44,.int .u32 a,.int .u32 b] w fun e w'=>e=kC 44 (fx 44 a b)∧Below w.heap.size w w':=by
 by_cases h0:wrap32 b=0
 ·have hh:=af (show fx 44 a b=none by simp[fx,h0]);go_enter Tryz.func177,Tryz.ntmps177;go_wp2_with fail
  refine ar ?_;rw[hh.out];exact⟨rfl,Below.refl _ _⟩
 ·have hh:=af (show fx 44 a b=some ((wrap32 a).tmod (wrap32 b)%4294967296) by simp[fx,h0]);go_enter Tryz.func177,Tryz.ntmps177;go_wp2_with fail
  go_ret2;rw[hh.out];exact⟨rfl,Below.refl _ _⟩
theorem Ez (a b:Int) (hb:0≤b.tmod 32) (w:World):Calls Tryz.prog 177 #[.int .u8 54,.int .u32 a,.int .u32 b] w fun e w'=>e=kC 54 (fx 54 a b)∧Below w.heap.size w w':=by
 have c1:=af (QQ a b w);go_enter Tryz.func177,Tryz.ntmps177;go_wp2_with fail
 refine c1.mono ?_;rintro e w2 ⟨rfl,hb2⟩;have hB:=af hb2;clear c1 hb2;go_wp2_with fail
 go_ret2;exact⟨rfl,hB.out⟩
theorem EA (a b:Int) (hb:0≤b.tmod 32) (w:World):Calls Tryz.prog 177 #[.int .u8 55,.int .u32 a,.int .u32 b] w fun e w'=>e=kC 55 (fx 55 a b)∧Below w.heap.size w w':=by
 have c1:=af (Mm a b w);go_enter Tryz.func177,Tryz.ntmps177;go_wp2_with fail
 refine c1.mono ?_;rintro e w2 ⟨rfl,hb2⟩;have hB:=af hb2;clear c1 hb2;go_wp2_with fail
 go_ret2;exact⟨rfl,hB.out⟩
theorem ED (a b:Int) (hb:0≤b.tmod 32) (w:World):Calls Tryz.prog 177 #[.int .u8 56,.int .u32 a,.int .u32 b] w fun e w'=>e=kC 56 (fx 56 a b)∧Below w.heap.size w w':=by
 have c1:=af (AJ a b w);go_enter Tryz.func177,Tryz.ntmps177;go_wp2_with fail
 refine c1.mono ?_;rintro e w2 ⟨rfl,hb2⟩;have hB:=af hb2;clear c1 hb2;go_wp2_with fail
 go_ret2;exact⟨rfl,hB.out⟩
theorem EE (a b:Int) (hb:0≤b.tmod 32) (w:World):Calls Tryz.prog 177 #[.int .u8 57,.int .u32 a,.int .u32 b] w fun e w'=>e=kC 57 (fx 57 a b)∧Below w.heap.size w w':=by
 have c1:=af (Ij a b w);go_enter Tryz.func177,Tryz.ntmps177;go_wp2_with fail
 refine c1.mono ?_;rintro e w2 ⟨rfl,hb2⟩;have hB:=af hb2;clear c1 hb2;go_wp2_with fail
 go_ret2;exact⟨rfl,hB.out⟩
theorem QR (op a b:Int) (ho:op∈opsL) (hb:0≤b.tmod 32) (w:World):Calls Tryz.prog 177 #[.int .u8 op,.int .u32 a,.int .u32 b] w fun e w'=>e=kC op (fx op a b)∧Below w.heap.size w w':=by
 simp only[opsL,List.mem_cons,List.mem_nil_iff,or_false] at ho;rcases ho with rfl|rfl|rfl|rfl|rfl|rfl|rfl|rfl|rfl|rfl|rfl|rfl|rfl|rfl|rfl
 ·exact En a b hb w
 ·exact Eo a b hb w
 ·exact Ep a b hb w
 ·exact Ex a b hb w
 ·exact Ey a b hb w
 ·exact Er a b hb w
 ·exact Es a b hb w
 ·exact Et a b hb w
 ·exact Eu a b hb w
 ·exact Ew a b hb w
 ·exact Ez a b hb w
 ·exact EA a b hb w
 ·exact ED a b hb w
 ·exact EE a b hb w
 ·exact Il a b hb w
theorem ym (n:Nat) (x y:Int) (u:TypeId) (pv:Value) (w:World) (h0:w.cell? ⟨n,0,none⟩=some (.int .u32 x)) (h1:w.cell? ⟨n+1,0,none⟩=some (.int .i64 y)) (f0:w.frozen? ⟨n,0,none⟩=false) (f1:w.frozen? ⟨n+1,0,none⟩=false):
  CallsD Tryz.prog 176 #[.pointer (some ⟨n,0,none⟩),.pointer (some ⟨n+1,0,none⟩)] (.panicking [{v:=.iface u pv,recovered:=false}]) w fun e u' w'=>
   e=.returned (.tuple #[])∧u'=.panicking [{v:=.iface u pv,recovered:=true}]∧w'=(w.setCell ⟨n,0,none⟩ (.int .u32 0)).setCell ⟨n+1,0,none⟩ (.int .i64 60):=by
 refine callsD_of_wpS Tryz.func176 rfl fun c₀ cs hu=>?_
 have hne:∀(w:World),(binOp .neq 20 (.iface u pv) .nilIface).run Tryz.prog w=.ok (.bool true) w:=by
  intro w
  kernel_rfl
 apply wpS_seq;apply wpS_region;simp[wpOpsS,go_sem,recoverD,hu,Tryz.ntmps176,Exit.thenS,hne];refine wpS_of_wp ?_;go_wp2_with fail
 simp[bodyPostS,results,Tryz.results176,go_sem]
theorem yn (p q:Addr) (w:World):CallsD Tryz.prog 176 #[.pointer (some p),.pointer (some q)] .returning w fun e u' w'=>e=.returned (.tuple #[])∧u'=.returning∧w'=w:=by
 refine callsD_of_wpS Tryz.func176 rfl fun c₀ cs hu=>?_
 have hne:(binOp .neq 20 .nilIface .nilIface).run Tryz.prog w=.ok (.bool false) w:=by kernel_rfl
 apply wpS_seq;apply wpS_region;simp[wpOpsS,go_sem,recoverD,hu,Tryz.ntmps176,Exit.thenS,hne];refine wpS_of_wp ?_;go_wp2_with fail
 cases c₀
 simp_all [bodyPostS,results,Tryz.results176,go_sem]
def AK (op:Int) (o:Option Int):Ending:=match o with
 |some r=>.returned (.tuple #[.int .u32 r,.int .i64 (vW op)])
 |none=>.returned (.tuple #[.int .u32 0,.int .i64 60])
theorem ux (op a b:Int) (ho:op∈opsL) (hb:0≤b.tmod 32) (w:World):Calls Tryz.prog 145 #[.int .u8 op,.int .u32 a,.int .u32 b] w fun e w'=>e=AK op (fx op a b)∧Below w.heap.size w w':=by
 have iw:∀(fn:Fn) (first cap:Array Value) (w:World),(Instr.makeFunc fn first cap).run Tryz.prog w=.ok (.func fn first cap) w:=fun _ _ _ _=>rfl
 have c1:=af (QR op a b ho hb ((w.alloc (.cells #[.int .u32 0] 52)).alloc (.cells #[.int .i64 0] 32)));obtain⟨V,hV⟩:∃x,x=fx op a b:=⟨_,rfl⟩;rw[←hV] at c1⊢;obtain⟨er,her⟩:∃x,x=vW op:=⟨_,rfl⟩;have HE:=af her;clear hV ho hb her;have b1:=af ((Bx.new w #[.int .u32 0] 52).al (.cells #[.int .i64 0] 32));have b2:Hid (Bx ((w.alloc (.cells #[.int .u32 0] 52)).alloc (.cells #[.int .i64 0] 32)) (w.heap.size+1) #[.int .i64 0] 32):=af (by simpa using Bx.new (w.alloc (.cells #[.int .u32 0] 52)) #[.int .i64 0] 32);have hB:=af (show Below w.heap.size w ((w.alloc (.cells #[.int .u32 0] 52)).alloc (.cells #[.int .i64 0] 32)) by(repeat(first|exact Below.refl _ _|refine Below.drew ?_ |refine Below.alloc ?_ (by simp<;>omega) _)))
 go_enter_defers Tryz.func145,Tryz.ntmps145
 go_wp2_with fail
 refine c1.mono ?_;rintro e w2 ⟨he,hb2⟩;have B1:=af (b1.on (ah hb2) (by simp));have B2:=af (b2.on (ah hb2) (by simp));have aQ:=af (hB.trans (hb2.mono hB.size));have z0:=B1.cell 0;have z1:=B2.cell 0;have f0:=B1.free 0;have f1:=B2.free 0;simp at z0 z1;clear c1 hb2 b1 b2 hB;cases V with
 |some r=>
  have hres:=af (show AK op (some r)=.returned (.tuple #[.int .u32 r,.int .i64 er]) by rw[HE.out];rfl);unfold kC at he;rw[←HE.out] at he;simp only[] at he;subst he;have S1:=af ((B1.set 0 (.int .u32 r)).on (aj _ ⟨w.heap.size+1,0,none⟩ (.int .i64 er)) (by simp));have S2:=af ((B2.on (aj w2 ⟨w.heap.size,0,none⟩ (.int .u32 r)) (by simp)).set 0 (.int .i64 er));have gQ:=af ((aQ.setCell (p:=⟨w.heap.size,0,none⟩) (Nat.le_refl _) (.int .u32 r)).setCell (p:=⟨w.heap.size+1,0,none⟩) (by simp) (.int .i64 er));go_wp2_with fail
  refine leaves_cons (f:=176) (args:=#[.pointer (some ⟨w.heap.size,0,none⟩),.pointer (some ⟨w.heap.size+1,0,none⟩)]) (by simp) (by simp[go_sem]) ?_;refine(yn ⟨w.heap.size,0,none⟩ ⟨w.heap.size+1,0,none⟩ _).mono ?_;rintro e u' w'' ⟨rfl,rfl,rfl⟩;have q0:=S1.cell 0;have q1:=S2.cell 0;simp at q0 q1;have hr:=hres.out;simp[Leaves,settle,results,Tryz.results145,go_sem,q0,q1,hr];exact gQ.out
 |none=>
  have hres:=af (show AK op none=.returned (.tuple #[.int .u32 0,.int .i64 60]) from rfl);unfold kC at he;simp only[] at he;subst he;have S1:=af ((B1.set 0 (.int .u32 0)).on (aj _ ⟨w.heap.size+1,0,none⟩ (.int .i64 60)) (by simp));have S2:=af ((B2.on (aj w2 ⟨w.heap.size,0,none⟩ (.int .u32 0)) (by simp)).set 0 (.int .i64 60));have gQ:=af ((aQ.setCell (p:=⟨w.heap.size,0,none⟩) (Nat.le_refl _) (.int .u32 0)).setCell (p:=⟨w.heap.size+1,0,none⟩) (by simp) (.int .i64 60));go_wp2_with fail
  refine leaves_cons (f:=176) (args:=#[.pointer (some ⟨w.heap.size,0,none⟩),.pointer (some ⟨w.heap.size+1,0,none⟩)]) (by simp) (by simp[go_sem]) ?_;refine(ym w.heap.size 0 0 _ _ _ z0 z1 f0 f1).mono ?_;rintro e u' w'' ⟨rfl,rfl,rfl⟩;have q0:=S1.cell 0;have q1:=S2.cell 0;simp at q0 q1;have hr:=hres.out;simp[Leaves,settle,results,Tryz.results145,go_sem,q0,q1,hr];exact gQ.out
end
section
def iG (op s:Int):Option Bool:=
 if op=23 then some (s==3) else if op=24 then some (s !=3) else if op=25 then some (s==2) else if op=26 then some (s==2||s==3) else if op=27 then some (s==4) else if op=28 then some (s==4||s==3) else none
def EF (o:Option Bool):Ending:=match o with
 |some r=>.returned (.tuple #[.bool r,.int .i64 0])
 |none=>.returned (.tuple #[.bool false,.int .i64 61])
theorem Im (op s:Int) (w:World):Calls Tryz.prog 174 #[.int .u8 op,.int .u8 s] w fun e w'=>e=EF (iG op s)∧w'=w:=by
 by_cases h23:op=23
 ·subst op;go_enter Tryz.func174,Tryz.ntmps174
  go_wp2
  go_ret2;exact⟨rfl,rfl⟩
 by_cases h24:op=24
 ·subst op;go_enter Tryz.func174,Tryz.ntmps174
  go_wp2
  go_ret2;exact⟨rfl,rfl⟩
 by_cases h25:op=25
 ·subst op;go_enter Tryz.func174,Tryz.ntmps174
  go_wp2
  go_ret2;exact⟨rfl,rfl⟩
 by_cases h27:op=27
 ·subst op;go_enter Tryz.func174,Tryz.ntmps174
  go_wp2
  go_ret2;exact⟨rfl,rfl⟩
 by_cases h26:op=26
 ·subst op;by_cases hs:s=2
  ·subst s;go_enter Tryz.func174,Tryz.ntmps174
   go_wp2
   go_ret2;exact⟨rfl,rfl⟩
  ·have hs2:(s==2)=false:=by simpa using hs
   have hh:=af (show iG 26 s=some (s==3) by simp[iG,hs2]);go_enter Tryz.func174,Tryz.ntmps174
   go_wp2
   go_ret2;rw[hh.out];exact⟨rfl,rfl⟩
 by_cases h28:op=28
 ·subst op;by_cases hs:s=4
  ·subst s;go_enter Tryz.func174,Tryz.ntmps174
   go_wp2
   go_ret2;exact⟨rfl,rfl⟩
  ·have hs2:(s==4)=false:=by simpa using hs
   have hh:=af (show iG 28 s=some (s==3) by simp[iG,hs2]);go_enter Tryz.func174,Tryz.ntmps174
   go_wp2
   go_ret2;rw[hh.out];exact⟨rfl,rfl⟩
 have hh:=af (show iG op s=none by simp[iG,h23,h24,h25,h26,h27,h28]);go_enter Tryz.func174,Tryz.ntmps174
 go_wp2
 go_ret2;rw[hh.out];exact⟨rfl,rfl⟩
def j3 (op a b:Int):Option Bool:=
 if op=13 then some (a==b) else if op=14 then some (a !=b) else if op=15 then some (decide (wrap32 a<wrap32 b)) else if op=16 then some (decide (wrap32 a≤wrap32 b)) else if op=17 then some (decide (wrap32 a>wrap32 b)) else if op=18 then some (decide (wrap32 a≥wrap32 b))
 else if op=19 then some (decide (a<b)) else if op=20 then some (decide (a≤b)) else if op=21 then some (decide (a>b)) else if op=22 then some (decide (a≥b)) else iG op (gD a b)
theorem Io (op a b:Int) (w:World):Calls Tryz.prog 144 #[.int .u8 op,.int .u32 a,.int .u32 b] w fun e w'=>e=EF (j3 op a b)∧w'=w:=by
 by_cases h13:op=13
 ·subst op;go_enter Tryz.func144,Tryz.ntmps144
  go_wp2
  go_ret2;exact⟨rfl,rfl⟩
 by_cases h14:op=14
 ·subst op;go_enter Tryz.func144,Tryz.ntmps144
  go_wp2
  go_ret2;exact⟨rfl,rfl⟩
 by_cases h15:op=15
 ·subst op;go_enter Tryz.func144,Tryz.ntmps144
  go_wp2
  go_ret2;exact⟨rfl,rfl⟩
 by_cases h16:op=16
 ·subst op;go_enter Tryz.func144,Tryz.ntmps144
  go_wp2
  go_ret2;exact⟨rfl,rfl⟩
 by_cases h17:op=17
 ·subst op;go_enter Tryz.func144,Tryz.ntmps144
  go_wp2
  go_ret2;exact⟨rfl,rfl⟩
 by_cases h18:op=18
 ·subst op;go_enter Tryz.func144,Tryz.ntmps144
  go_wp2
  go_ret2;exact⟨rfl,rfl⟩
 by_cases h19:op=19
 ·subst op;go_enter Tryz.func144,Tryz.ntmps144
  go_wp2
  go_ret2;exact⟨rfl,rfl⟩
 by_cases h20:op=20
 ·subst op;go_enter Tryz.func144,Tryz.ntmps144
  go_wp2
  go_ret2;exact⟨rfl,rfl⟩
 by_cases h21:op=21
 ·subst op;go_enter Tryz.func144,Tryz.ntmps144
  go_wp2
  go_ret2;exact⟨rfl,rfl⟩
 by_cases h22:op=22
 ·subst op;go_enter Tryz.func144,Tryz.ntmps144
  go_wp2
  go_ret2;exact⟨rfl,rfl⟩
 have hh:=af (show j3 op a b=iG op (gD a b) by simp[j3,h13,h14,h15,h16,h17,h18,h19,h20,h21,h22]);have c1:=af (Ik a b w);have c2:=af (Im op (gD a b) w);obtain⟨H,hH⟩:∃x,x=iG op (gD a b):=⟨_,rfl⟩;rw[←hH] at c2 hh;clear hH;go_enter Tryz.func144,Tryz.ntmps144;go_wp2_with fail
 refine c1.mono ?_;rintro e w2 ⟨rfl,hw⟩;subst w2;clear c1;go_wp2_with fail
 refine c2.mono ?_;rintro e w2 ⟨he,hw⟩;subst w2;clear c2;cases H with
 |none=>
  obtain rfl:e=.returned (.tuple #[.bool false,.int .i64 61]):=he;go_wp2_with fail
  go_ret2;rw[hh.out];exact⟨rfl,rfl⟩
 |some r=>
  obtain rfl:e=.returned (.tuple #[.bool r,.int .i64 0]):=he;go_wp2_with fail
  go_ret2;rw[hh.out];exact⟨rfl,rfl⟩
end
section
open Ieee
theorem Ip (neg:Bool) (n drop:Nat):Toward.zero.cut neg n drop=n/2^min drop (n.log2+2):=by
 unfold Toward.cut;simp[Nat.shiftLeft_eq]
theorem Iq (neg:Bool) (n drop:Nat) (B:Nat) (h:n<B*2^drop):Toward.zero.cut neg n drop<B:=by
 rw[Ip];by_cases hd:drop≤n.log2+2
 ·rw[Nat.min_eq_left hd];exact Nat.div_lt_of_lt_mul (by rw[Nat.mul_comm];exact h)
 ·rw[Nat.min_eq_right (by omega)];have hB:0<B:=by
   rcases Nat.eq_zero_or_pos B with e|e
   ·subst e;simp at h
   ·exact e
  have h2:n<2^(n.log2+2):=Nat.lt_of_lt_of_le Nat.lt_log2_self (Nat.pow_le_pow_right (by omega) (by omega));rw[Nat.div_eq_of_lt h2];exact hB
theorem vX (s:Bool) (m:Nat) (i:Int):(Datum.number s m i).toInt .zero=some (if s then -(Toward.zero.cut s (m*2^i.toNat) (-i).toNat:Int) else(Toward.zero.cut s (m*2^i.toNat) (-i).toNat:Int)):=by
 unfold Datum.toInt Datum.integral;simp only[signed,Nat.shiftLeft_eq,Nat.pow_zero,Nat.mul_one]
theorem Ir (m:Nat) (i:Int) (h:m*2^(i-min i 8).toNat<8388608*2^(8-min i 8).toNat):m*2^i.toNat<2147483648*2^(-i).toNat:=by
 by_cases h8:8≤i
 ·obtain⟨k,hk⟩:∃k,k=(i-8).toNat:=⟨_,rfl⟩;rw[show min i 8=8 by omega,←hk,show((8:Int) -8).toNat=0 by omega,Nat.pow_zero,Nat.mul_one] at h;rw[show i.toNat=k+8 by omega,show(-i).toNat=0 by omega,Nat.pow_add,←Nat.mul_assoc,Nat.pow_zero,Nat.mul_one];generalize m*2^k=q at h⊢;omega
 ·rw[show min i 8=i by omega,show(i-i).toNat=0 by omega,Nat.pow_zero,Nat.mul_one] at h;by_cases h0:0≤i
  ·obtain⟨k,hk⟩:∃k,k=i.toNat:=⟨_,rfl⟩;rw[←hk,show(-i).toNat=0 by omega,Nat.pow_zero,Nat.mul_one];rw[show(8-i).toNat=8-k by omega] at h;have e:8388608*2^(8-k)*2^k=2147483648:=by
    rw[Nat.mul_assoc,←Nat.pow_add,show 8-k+k=8 by omega]
   rw[←e]
   first|exact Nat.mul_lt_mul_of_pos_right h (Nat.two_pow_pos _)|exact Nat.mul_le_mul_right _ h
  ·obtain⟨k,hk⟩:∃k,k=(-i).toNat:=⟨_,rfl⟩;rw[←hk,show i.toNat=0 by omega,Nat.pow_zero,Nat.mul_one];rw[show(8-i).toNat=8+k by omega,Nat.pow_add] at h;omega
theorem Iu (m:Nat) (i:Int) (h:m*2^(i-min i 8).toNat≤8388608*2^(8-min i 8).toNat):m*2^i.toNat≤2147483648*2^(-i).toNat:=by
 by_cases h8:8≤i
 ·obtain⟨k,hk⟩:∃k,k=(i-8).toNat:=⟨_,rfl⟩;rw[show min i 8=8 by omega,←hk,show((8:Int) -8).toNat=0 by omega,Nat.pow_zero,Nat.mul_one] at h;rw[show i.toNat=k+8 by omega,show(-i).toNat=0 by omega,Nat.pow_add,←Nat.mul_assoc,Nat.pow_zero,Nat.mul_one];generalize m*2^k=q at h⊢;omega
 ·rw[show min i 8=i by omega,show(i-i).toNat=0 by omega,Nat.pow_zero,Nat.mul_one] at h;by_cases h0:0≤i
  ·obtain⟨k,hk⟩:∃k,k=i.toNat:=⟨_,rfl⟩;rw[←hk,show(-i).toNat=0 by omega,Nat.pow_zero,Nat.mul_one];rw[show(8-i).toNat=8-k by omega] at h;have e:8388608*2^(8-k)*2^k=2147483648:=by
    rw[Nat.mul_assoc,←Nat.pow_add,show 8-k+k=8 by omega]
   rw[←e]
   first|exact Nat.mul_lt_mul_of_pos_right h (Nat.two_pow_pos _)|exact Nat.mul_le_mul_right _ h
  ·obtain⟨k,hk⟩:∃k,k=(-i).toNat:=⟨_,rfl⟩;rw[←hk,show i.toNat=0 by omega,Nat.pow_zero,Nat.mul_one];rw[show(8-i).toNat=8+k by omega,Nat.pow_add] at h;omega
theorem Mn:Ieee.single.read 1325400064=.number false 8388608 8:=by decide
theorem Mq:Ieee.single.read 3472883712=.number true 8388608 8:=by decide
theorem yo (x:Nat) (h0:(FloatKind.f32.format.order x x !=some .eq)=false) (h1:(FloatKind.f32.format.order x 1325400064==some .gt||FloatKind.f32.format.order x 1325400064==some .eq)=false)
  (h2:(FloatKind.f32.format.order x 3472883712==some .lt)=false):∃n,floatToIntVal .f32 x .i32=some n:=by
 have e1:FloatKind.f32.format.order x 1325400064=(Ieee.single.read x).order (.number false 8388608 8):=by rw[←Mn];rfl
 have e2:FloatKind.f32.format.order x 3472883712=(Ieee.single.read x).order (.number true 8388608 8):=by rw[←Mq];rfl
 have e0:FloatKind.f32.format.order x x=(Ieee.single.read x).order (Ieee.single.read x):=rfl;rw[e1] at h1;rw[e2] at h2;rw[e0] at h0;unfold floatToIntVal FloatKind.decode
 show∃n,(match (Ieee.single.read x).toInt .zero with|some n=>if IntKind.i32.min≤n∧n≤IntKind.i32.max then some n else none|none=>none)=some n
 cases hd:Ieee.single.read x with
 |nan s f=>rw[hd] at h0;simp[Datum.order] at h0
 |infinity s=>
  rw[hd] at h1 h2;cases s<;>simp[Datum.order] at h1 h2
 | number s m i=>
  rw[hd] at h1 h2;rw[vX];simp only[];have hmin:IntKind.i32.min= -2147483648:=rfl;have hmax:IntKind.i32.max=2147483647:=rfl;rw[hmin,hmax];simp only[Datum.order,signed,Nat.shiftLeft_eq] at h1 h2;cases s with
  | false=>
   have hlt:m*2^(i-min i 8).toNat<8388608*2^(8-min i 8).toNat:=by
    simp only[Bool.false_eq_true,if_false,Bool.or_eq_false_iff] at h1;rcases Nat.lt_trichotomy (m*2^(i-min i 8).toNat) (8388608*2^(8-min i 8).toNat) with q|q|q
    ·exact q
    ·exfalso
     have:compare ((m*2^(i-min i 8).toNat:Nat):Int) ((8388608*2^(8-min i 8).toNat:Nat):Int)=.eq:=by rw[q];exact Int.compare_eq_eq.2 rfl
     rw[this] at h1;simp at h1
    ·exfalso
     have:compare ((m*2^(i-min i 8).toNat:Nat):Int) ((8388608*2^(8-min i 8).toNat:Nat):Int)=.gt:=Int.compare_eq_gt.2 (by omega);rw[this] at h1;simp at h1
   have hc:=Iq false _ (-i).toNat _ (Ir m i hlt);exact⟨_,if_pos (by simp only[Bool.false_eq_true,if_false];omega)⟩
  | true=>
   have hle:m*2^(i-min i 8).toNat≤8388608*2^(8-min i 8).toNat:=by
    simp only[if_true] at h2;rcases Nat.lt_or_ge (8388608*2^(8-min i 8).toNat) (m*2^(i-min i 8).toNat) with q|q
    ·exfalso
     have:compare (-((m*2^(i-min i 8).toNat:Nat):Int)) (-((8388608*2^(8-min i 8).toNat:Nat):Int))=.lt:=Int.compare_eq_lt.2 (by omega);rw[this] at h2;simp at h2
    ·exact q
   have hc:=Iq true (m*2^i.toNat) (-i).toNat 2147483649 (Nat.lt_of_le_of_lt (Iu m i hle) (Nat.mul_lt_mul_of_pos_right (by omega) (Nat.two_pow_pos _)));exact⟨_,if_pos (by simp only[if_true];omega)⟩
end
section
def Iw (a:Int):Int:=bits .xor .u32 a 2147483648
theorem EG (a:Int) (w:World):Calls Tryz.prog 120 #[.int .u32 a] w fun e w'=>e=.returned (.int .u32 (Iw a))∧w'=w:=by
 go_enter Tryz.func120,Tryz.ntmps120
 go_wp2
 go_ret;exact⟨rfl,rfl⟩
theorem VJ (a:Int) (w:World):Calls Tryz.prog 121 #[.int .i32 a] w fun e w'=>e=.returned (.int .u32 (jf (floatOfInt .f32 a)))∧w'=w:=by
 have hc:=fun w=>run_convert_int_float (P:=Tryz.prog) w 21 248 .i32 .f32 a (by kernel_rfl) Tryz.underlying248
 have c1:=af (nZ (floatOfInt .f32 a) w);go_enter Tryz.func121,Tryz.ntmps121;go_wp2_with fail
 refine c1.mono ?_;rintro e w2 ⟨rfl,hw⟩;subst w2;clear c1;go_wp2_with fail
 go_ret;exact⟨rfl,rfl⟩
def qP (a:Int):Int:=
 if (FloatKind.f32.format.order a.toNat a.toNat !=some .eq)=true then 0
 else if (FloatKind.f32.format.order a.toNat 1325400064==some .gt||FloatKind.f32.format.order a.toNat 1325400064==some .eq)=true then 2147483647
 else if (FloatKind.f32.format.order a.toNat 3472883712==some .lt)=true then -2147483648
 else(floatToIntVal .f32 a.toNat .i32).getD 0
theorem EI (a:Int) (w:World):Calls Tryz.prog 122 #[.int .u32 a] w fun e w'=>e=.returned (.int .i32 (qP a))∧w'=w:=by
 have c1:=af (dP a w);obtain⟨T,hT⟩:∃x,x=qP a:=⟨_,rfl⟩;rw[←hT];unfold qP at hT;have hsome:=yo a.toNat;have hcv:=fun w n h=>run_convert_float_int (P:=Tryz.prog) w 248 21 .f32 .i32 a.toNat n (by kernel_rfl) Tryz.underlying21 h
 cases h0:(FloatKind.f32.format.order a.toNat a.toNat !=some .eq)
 case true=>
  rw[h0,if_pos rfl] at hT;have hh:=af hT;clear hT hsome hcv;go_enter Tryz.func122,Tryz.ntmps122;go_wp2_with fail
  refine c1.mono ?_;rintro e w2 ⟨rfl,hw⟩;subst w2;clear c1;go_wp2_with fail
  go_ret;rw[hh.out];exact⟨rfl,rfl⟩
 case false=>
  rw[h0,if_neg (by simp)] at hT;cases h1:(FloatKind.f32.format.order a.toNat 1325400064==some .gt||FloatKind.f32.format.order a.toNat 1325400064==some .eq)
  case true=>
   rw[h1,if_pos rfl] at hT;have hh:=af hT;clear hT hsome hcv;go_enter Tryz.func122,Tryz.ntmps122;go_wp2_with fail
   refine c1.mono ?_;rintro e w2 ⟨rfl,hw⟩;subst w2;clear c1;go_wp2_with fail
   go_ret;rw[hh.out];exact⟨rfl,rfl⟩
  case false=>
   rw[h1,if_neg (by simp)] at hT;cases h2:(FloatKind.f32.format.order a.toNat 3472883712==some .lt)
   case true=>
    rw[h2,if_pos rfl] at hT;have hh:=af hT;clear hT hsome hcv;go_enter Tryz.func122,Tryz.ntmps122;go_wp2_with fail
    refine c1.mono ?_;rintro e w2 ⟨rfl,hw⟩;subst w2;clear c1;go_wp2_with fail
    go_ret;rw[hh.out];exact⟨rfl,rfl⟩
   case false=>
    rw[h2,if_neg (by simp)] at hT;obtain⟨n,hn⟩:=hsome h0 h1 h2;have hc:=fun w=>hcv w n hn
    rw[hn] at hT;have hh:=af hT;clear hT hsome hcv hn;go_enter Tryz.func122,Tryz.ntmps122;go_wp2_with fail
    refine c1.mono ?_;rintro e w2 ⟨rfl,hw⟩;subst w2;clear c1;go_wp2_with fail
    go_ret;rw[hh.out];exact⟨rfl,rfl⟩
def bS (op a:Int):Int:=
 if op=49 then bits .xor .u32 IntKind.u32.max a
 else if op=53 then Iw a
 else if op=58 then jf (floatOfInt .f32 (wrap32 a))
 else if op=59 then IntKind.u32.wrap (qP a)
 else IntKind.u32.wrap (-a)
theorem AO (a:Int) (w:World):Calls Tryz.prog 86 #[.int .u8 38,.int .u32 a] w fun e w'=>e=.returned (.tuple #[.int .u32 (bS 38 a),.int .i64 0])∧w'=w:=by
 go_enter Tryz.func86,Tryz.ntmps86;go_wp2_with fail
 go_ret2;exact⟨rfl,rfl⟩
theorem AP (a:Int) (w:World):Calls Tryz.prog 86 #[.int .u8 49,.int .u32 a] w fun e w'=>e=.returned (.tuple #[.int .u32 (bS 49 a),.int .i64 0])∧w'=w:=by
 go_enter Tryz.func86,Tryz.ntmps86;go_wp2_with fail
 go_ret2;exact⟨rfl,rfl⟩
theorem AQ (a:Int) (w:World):Calls Tryz.prog 86 #[.int .u8 53,.int .u32 a] w fun e w'=>e=.returned (.tuple #[.int .u32 (bS 53 a),.int .i64 0])∧w'=w:=by
 have c1:=af (EG a w);go_enter Tryz.func86,Tryz.ntmps86;go_wp2_with fail
 refine c1.mono ?_;rintro e w2 ⟨rfl,hw⟩;subst w2;clear c1;go_wp2_with fail
 go_ret2;exact⟨rfl,rfl⟩
theorem AU (a:Int) (w:World):Calls Tryz.prog 86 #[.int .u8 58,.int .u32 a] w fun e w'=>e=.returned (.tuple #[.int .u32 (bS 58 a),.int .i64 0])∧w'=w:=by
 have c1:=af (VJ (wrap32 a) w);go_enter Tryz.func86,Tryz.ntmps86;go_wp2_with fail
 refine c1.mono ?_;rintro e w2 ⟨rfl,hw⟩;subst w2;clear c1;go_wp2_with fail
 go_ret2;exact⟨rfl,rfl⟩
theorem AV (a:Int) (w:World):Calls Tryz.prog 86 #[.int .u8 59,.int .u32 a] w fun e w'=>e=.returned (.tuple #[.int .u32 (bS 59 a),.int .i64 0])∧w'=w:=by
 have c1:=af (EI a w);go_enter Tryz.func86,Tryz.ntmps86;go_wp2_with fail
 refine c1.mono ?_;rintro e w2 ⟨rfl,hw⟩;subst w2;clear c1;go_wp2_with fail
 go_ret2;exact⟨rfl,rfl⟩
end
end Go.Proofs.YtlabadkfkbenoaaGreatDoor
