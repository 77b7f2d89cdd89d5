/- Walks and plain laws, merged: Kit Tk KitG KitH SenM TreeP TreeA TreeG TreeH SenB SenC TokC. No condition. -/
import Derived.WalkKit
import Derived.WalkSpells
import Derived.WalkLawsBesides
import Derived.Deep.QuietTactic
import Derived.BigQuiet
import Derived.Deep.RegionHeld3
import Derived.Deep.RegionLaw
import Derived.Deep.RegionWith
import Derived.Laws.CopyOwn
import Derived.MapKept
import Derived.Carry
import Derived.OwnWalk
import Derived.RegionCalls
import Derived.Test.YtlabadkfkbenoaaGreatDoorProg
import Derived.Laws.ResultCell
namespace Go.Proofs.YtlabadkfkbenoaaGreatDoor
open Go.RowKit
set_option linter.unusedVariables false
set_option linter.unusedSimpArgs false
set_option maxRecDepth 100000
set_option maxHeartbeats 64000000
section
theorem af {p:Prop} (h:p):Hid p:=h
structure Ints (k:IntKind) (w:World) (ao:Option Addr) (l:List Int):Prop where
 wf:∀x∈l,(Lit.int k x).wf=true
 cell:l.length≤0∨∃b off,ao=some ⟨b,off,none⟩∧∀i,i<l.length→w.cell? ⟨b,off+i,none⟩=some (.int k (l.getD i 0))
theorem Ints.at {k:IntKind} {w:World} {ao:Option Addr} {l:List Int} (h:Ints k w ao l):
  ∃b off,(l.length≤0∨ao=some ⟨b,off,none⟩)∧Hid (∀i,i<l.length→w.cell? ⟨b,off+i,none⟩=some (.int k (l.getD i 0))):=by
 rcases h.cell with h0|⟨b,off,rfl,hc⟩
 ·exact⟨0,0,.inl h0,fun i hi=>by omega⟩
 ·exact⟨b,off,.inr rfl,hc⟩
theorem Ints.nil (k:IntKind) (w:World) (ao:Option Addr):Ints k w ao []:=⟨by simp,.inl (by simp)⟩
theorem Ints.mono {k:IntKind} {w w':World} {ao:Option Addr} {l:List Int} (h:Ints k w ao l) (hb:Below w.heap.size w w'):Ints k w' ao l:=by
 refine⟨h.wf,?_⟩;rcases h.cell with h0|⟨b,off,rfl,hc⟩
 ·exact .inl h0
 ·exact .inr ⟨b,off,rfl,fun i hi=>(hb.cell (World.block_lt_of_cell? w _ (hc i hi))).trans (hc i hi)⟩
theorem Ints.take {k:IntKind} {w:World} {ao:Option Addr} {l:List Int} (h:Ints k w ao l) (n:Nat):Ints k w ao (l.take n):=by
 refine⟨fun x hx=>h.wf x (List.mem_of_mem_take hx),?_⟩;rcases h.cell with h0|⟨b,off,rfl,hc⟩
 ·exact .inl (by rw[List.length_take];omega)
 ·refine .inr ⟨b,off,rfl,fun i hi=>?_⟩;rw[List.length_take] at hi;rw[hc i (by omega)];simp[List.getD,List.getElem?_take,show i<n by omega]
theorem Ints.news {k:IntKind} {w:World} {ad:Addr} {l:List Int} (h:Ints k w (some ad) l):∀j u,(l.map (Value.int k))[j]? =some u→w.cell? (ad.add j)=some u:=by
 intro j u hj;have hlt:j<l.length:=by
  have:=(List.getElem?_eq_some_iff.1 hj).1;simpa using this
 rcases h.cell with h0|⟨b,off,h1,h2⟩
 ·omega
 ·cases h1;have hadd:(⟨b,off,none⟩:Addr).add j=⟨b,off+j,none⟩:=by
   unfold Addr.add;split<;>simp_all
  rw[hadd,h2 j hlt,←hj];simp[List.getD,hlt]
theorem FZ {w w':World} {base B:Nat} {e:TypeId} {size:Nat} {v:Value} {n:Nat} {xs:List Value} (h:w.ownsRow base e size v n xs) (hb:Below B w w') (hB:w.heap.size≤B):w'.ownsRow base e size v n xs:=by
 obtain⟨h1,h2⟩:=h;refine⟨h1,?_⟩;rcases h2 with h2|⟨g,cap,cur,hv,hg,hh,r⟩
 ·exact .inl h2
 ·exact .inr ⟨g,cap,cur,hv,hg,by rw[hb.block g (Nat.lt_of_lt_of_le (Array.getElem?_eq_some_iff.1 hh).1 hB)];exact hh,r⟩
theorem F0 {w:World} {base base':Nat} {e:TypeId} {size:Nat} {v:Value} {n:Nat} {xs:List Value} (h:w.ownsRow base e size v n xs) (hb:base'≤base):w.ownsRow base' e size v n xs:=by
 obtain⟨h1,h2⟩:=h;refine⟨h1,?_⟩;rcases h2 with h2|⟨g,cap,cur,hv,hg,r⟩
 ·exact .inl h2
 ·exact .inr ⟨g,cap,cur,hv,by omega,r⟩
theorem wf_u32 {x:Int}:(Lit.int .u32 x).wf=true↔0≤x∧x≤4294967295:=by
 simp[Lit.wf,IntKind.min,IntKind.max,IntKind.signed,IntKind.bits]
theorem wf_i64 {x:Int}:(Lit.int .i64 x).wf=true↔ -9223372036854775808≤x∧x≤9223372036854775807:=by
 simp[Lit.wf,IntKind.min,IntKind.max,IntKind.signed,IntKind.bits]
theorem zC {α:Type} (f:Nat→α) (j:Nat):(List.range (j+1)).map f=(List.range j).map f++[f j]:=by simp[List.range_succ]
theorem Po {α:Type} (f:Nat→α) (xs:List α) (k:Nat) (h:k<xs.length):((List.range k).map f++xs.drop k).set k (f k)=(List.range (k+1)).map f++xs.drop (k+1):=by
 rw[List.set_append_right _ _ (by simp),List.drop_eq_getElem_cons h,zC];simp only[List.length_map,List.length_range,Nat.sub_self,List.set_cons_zero,List.append_assoc,List.cons_append,List.nil_append]
theorem bR (w:World) (row:Option Nat):w.grownBy w row:=⟨rfl,rfl,rfl,Nat.le_refl _,fun _ _ _=>rfl⟩
theorem aO {a b c:World} {row:Option Nat} (h:a.grownBy b row) (k:b.grownBy c row):a.grownBy c row:=
 ⟨k.os.trans h.os,k.tape.trans h.tape,k.output.trans h.output,Nat.le_trans h.size k.size,fun i hi hn=>(k.block i (Nat.lt_of_lt_of_le hi h.size) hn).trans (h.block i hi hn)⟩
theorem fy {k:IntKind} {a b:Int} (h:a=b):Ending.returned (.int k a)=.returned (.int k b):=by rw[h]
theorem aq {a b:Bool} (h:a=b):Ending.returned (.bool a)=.returned (.bool b):=by rw[h]
end
section
theorem bK (a:Act) (d:Tmp) (v:Value):a.put (some d) v={a with tmps:=a.tmps.setIfInBounds d v}:=rfl
theorem bL (a:Act) (v:Value):a.put none v=a:=rfl
theorem bM {α:Type} (l:List α) (i:Nat) (a:α):l.toArray.setIfInBounds i a=(l.set i a).toArray:=by simp
theorem bN {α:Type} (l:List α) (x a:α):(x::l).set 0 a=a::l:=rfl
theorem bO {α:Type} (l:List α) (x a:α) (i:Nat):(x::l).set (i+1) a=x::l.set i a:=rfl
section
variable {P:Program} {ops:Array Oper} {Q:Exit→Act→World→Prop} {md:Region.Mode} {S:World→Prop} {oi:Oper} {fuel:Nat} {listed:Array Bool} {a a':Act} {w:World} {v:Value}
theorem tk (i:Nat) (h:wpAnyH P md ops Q S fuel (listed.setIfInBounds i true) a' w)
  (hi:ops[i]? =some oi:=by simp only[List.getElem?_toArray,List.getElem?_cons_succ,List.getElem?_cons_zero];rfl)
  (hs:Region.noSelect ops=true:=by kernel_rfl) (hf:Region.free md ops listed i=true:=by kernel_rfl) (hr:(Region.ready md ops listed).contains i=true:=by kernel_rfl)
  (hQ:∀c a w,Q (.panic c) (a.put oi.dst v) w→Q (.panic c) a w:=by intro _ _ _ h;exact h) (hw:Region.wanted oi (yielded ops a.tmps)=true:=by rfl)
  (hy:∀w,S w→(execOp a.eval oi).run P w=.ok (.value v) w:=by intro w' hSw;go_simp;(try with_reducible rfl)) (hS:S w:=by assumption) (ha:a.put oi.dst v=a':=by(try simp only[bK,bL,bM,bN,bO]);rfl):
  wpAnyH P md ops Q S (fuel+1) listed a w:=
 wpAnyH_take hi hs hf hr hQ (.inl ⟨hw,hy⟩) hS (ha▸h)
theorem tn (i:Nat) (h:wpAnyH P md ops Q S fuel (listed.setIfInBounds i true) a' w)
  (hi:ops[i]? =some oi:=by simp only[List.getElem?_toArray,List.getElem?_cons_succ,List.getElem?_cons_zero];rfl)
  (hs:Region.noSelect ops=true:=by kernel_rfl) (hf:Region.free md ops listed i=true:=by kernel_rfl) (hr:(Region.ready md ops listed).contains i=true:=by kernel_rfl)
  (hQ:∀c a w,Q (.panic c) (a.put oi.dst undef) w→Q (.panic c) a w:=by intro _ _ _ h;exact h) (hw:Region.wanted oi (yielded ops a.tmps)=false:=by rfl)
  (hS:S w:=by assumption) (ha:a.put oi.dst undef=a':=by(try simp only[bK,bL,bM,bN,bO]);rfl):wpAnyH P md ops Q S (fuel+1) listed a w:=
 wpAnyH_take hi hs hf hr hQ (.inr ⟨hw,rfl⟩) hS (ha▸h)
theorem tr (i:Nat) {o:Oper}
  (h:∀K':Act→World→Prop,Shut (∀a w,S w→(S w→wpAnyH P md ops Q S fuel (listed.setIfInBounds i true) a w)→K' a w)→if Region.wanted o (yielded ops a.tmps)=true then Oper.wp P o a w K' Q else K' (a.put o.dst undef) w)
  (hr:Region.ready md ops listed=[i]:=by kernel_rfl) (ho:ops[i]? =some o:=by simp only[List.getElem?_toArray,List.getElem?_cons_succ,List.getElem?_cons_zero];rfl):
  wpAnyH P md ops Q S (fuel+1) listed a w:=
 wpAnyH_ready hr (by simp) (AllReadyH.cons ho h AllReadyH.nil)
theorem td (h:Q .normal a w) (hr:Region.ready md ops listed=[]:=by kernel_rfl):wpAnyH P md ops Q S fuel listed a w:=wpAnyH_done hr h fuel
end
end
section
structure aV (w w':World) (base:Nat) (e:TypeId) (size:Nat) (v v':Value) (n m:Nat) (xs news:List Value):Prop where
 own:w'.ownsRow base e size v' (n+m) (xs++news)
 old:w'.ownsRow base e size v n xs
 grown:w.grownBy w' v.ownBlock
 place:v'.ownBlock=v.ownBlock∨∃g,v'.ownBlock=some g∧w.heap.size≤g∧g<w'.heap.size
 nil:v'=.slice none 0 0↔v=.slice none 0 0∧m=0
theorem lZ {w:World} {base:Nat} {e:TypeId} {g n m cap size:Nat} {xs:List Value} (h:w.ownsRow base e size (.slice (some ⟨g,0,none⟩) n cap) n xs) (hm:m≤n):
  w.ownsRow base e size (.slice (some ⟨g,0,none⟩) m cap) m (xs.take (m*size)):=by
 obtain⟨h1,h2⟩:=h;have hms:m*size≤n*size:=Nat.mul_le_mul_right _ hm;refine⟨by rw[List.length_take,h1];omega,?_⟩;rcases h2 with⟨hv,_⟩|⟨g',cap',cur,hv,hg,hh,a,b,c,d⟩
 ·simp at hv
 ·simp only[Value.slice.injEq,Option.some.injEq,Addr.mk.injEq,and_true,true_and] at hv;obtain⟨rfl,rfl⟩:=hv;refine .inr ⟨g,cap,cur,rfl,hg,hh,by omega,b,c,?_⟩;rw[←d,List.take_take,Nat.min_eq_left hms]
theorem gI {P:Program} (w:World) (base:Nat) (t ty e:TypeId) (i:TypeInfo) (z:Value) (ht:P.underlying t=some (.slice e)) (hi:P.info? e=some i) (hz:i.zero=some z)
  (hzs:z.cells.size=i.size) (hsz:0<i.size) (v:Value) (n:Nat) (xs:List Value) (hown:w.ownsRow base e i.size v n xs)
  (a:Addr) (m c:Nat) (news:List Value) (hl:news.length=m*i.size) (hnews:∀j u,news[j]? =some u→w.cell? (a.add j)=some u) (h1:∀u∈news,u.oneCell'=true)
  (h63:n+m≤maxLen) (hbytes:(n+m)*i.bytes≤140737488355328) (hbase:base≤w.heap.size):
  ∃v' w',(Builtin.append_ #[t,t] ty #[v,.slice (some a) m c]).run P w=.ok v' w'∧aV w w' base e i.size v v' n m xs news:=by
 have ZE:n+m≤9223372036854775807:=by simp only[maxLen] at h63;omega
 have zD:=hown.1;have hlen:(xs++news).length=(n+m)*i.size:=by rw[List.length_append,zD,hl,Nat.add_mul]
 have fresh:∀old:Nat,∀(row:Option Nat),
   let cap:=grownCap w (n+m) old e
   let w':=w.drew.alloc (.cells (xs.toArray++news.toArray++Builtin.zeroCells z.cells (cap- (n+m))) e)
   w'.ownsRow base e i.size (.slice (some ⟨w.heap.size,0,none⟩) (n+m) cap) (n+m) (xs++news)∧w.grownBy w' row:=by
  intro old row cap w';have Fu:n+m≤cap:=grownCap_ge w (n+m) old e;have hcm:cap≤maxLen:=grownCap_le_maxLen w (n+m) old e h63;refine⟨⟨hlen,.inr ⟨w.heap.size,_,_,rfl,hbase,heap_alloc_new w.drew _,Fu,hcm,?_,?_⟩⟩,⟨rfl,rfl,rfl,by simp[w'],fun k hk _=>heap_alloc_old w.drew _ hk⟩⟩
  ·simp only[Array.size_append,List.size_toArray,size_zeroCells,hzs,zD,hl,←Nat.add_mul]
   congr 1
   omega
  ·simp only[Array.toList_append,List.append_assoc];rw[←List.append_assoc,←hlen];exact List.take_left
 rcases hown.2 with⟨rfl,rfl⟩|⟨g,cap,cur,rfl,hbg,hg,hnc,hcm,hcs,J7⟩
 ·have hx:xs=[]:=List.eq_nil_of_length_eq_zero (by simpa using zD);subst hx;by_cases hm:m=0
  ·subst hm;have hn:news=[]:=List.eq_nil_of_length_eq_zero (by simpa using hl);subst hn;refine⟨.slice none 0 0,w,?_,⟨World.ownsRow_nil w base e i.size,World.ownsRow_nil w base e i.size,bR _ _,.inl rfl,by simp⟩⟩;simp[Builtin.append_,run_underlying ht,sizeOf,typeInfo,hi,Builtin.lenOf,Builtin.firstCells,loadCells,loadCellsFrom]
  ·have hb2:m*i.bytes≤140737488355328:=by simpa using hbytes
   have hr:=run_append_nil (P:=P) w t ty e i z ht hi hz a m c news hl hnews (by omega) (by omega) (by omega);have hf:=fresh 0 (Value.ownBlock (.slice none 0 0));simp only[Nat.zero_add,List.nil_append,Array.empty_append] at hf⊢;refine⟨_,_,hr,⟨by simpa using hf.1,World.ownsRow_nil _ _ _ _,hf.2,.inr ⟨w.heap.size,rfl,Nat.le_refl _,by simp⟩,by simp[hm]⟩⟩
 ·by_cases hroom:n+m≤cap
  ·have mE:n*i.size+news.length≤cur.size:=by rw[hl,hcs,←Nat.add_mul];exact Nat.mul_le_mul_right _ hroom
   have hr:=run_append_room (P:=P) w t ty e i ht hi g n cap cur hg a m c news hl hnews h1 hroom mE;have hown':(w.setRow g (cur.toList.take (n*i.size)++news++cur.toList.drop (n*i.size+news.length)).toArray).ownsRow base e i.size (.slice (some ⟨g,0,none⟩) (n+m) cap) (n+m) (xs++news):=by
    refine⟨hlen,.inr ⟨g,cap,_,rfl,hbg,setRow_heap w g cur _ e _ hg,hroom,hcm,?_,?_⟩⟩
    ·simp only[List.size_toArray,List.length_append,List.length_take,List.length_drop,Array.length_toList];omega
    ·rw[J7,←hlen];exact List.take_left
   refine⟨_,_,hr,⟨hown',?_,⟨rfl,rfl,rfl,by simp,fun k _ hk=>setRow_other w g k _ (fun e=>hk (by simp[Value.ownBlock,e]))⟩,.inl rfl,by simp⟩⟩;have h2:=lZ hown' (show n≤n+m by omega);have h3:(xs++news).take (n*i.size)=xs:=by rw[←zD];exact List.take_left
   rw[h3] at h2;exact h2
  ·have holds:∀j u,xs[j]? =some u→w.cell? ((⟨g,0,none⟩:Addr).add j)=some u:=hown.cells (g:=g) rfl;have hr:=run_append_grow (P:=P) w t ty e i z ht hi hz ⟨g,0,none⟩ n cap xs zD holds a m c news hl hnews (by omega) (by omega) (growslice_fits (by omega) hbytes);have hf:=fresh cap (Value.ownBlock (.slice (some ⟨g,0,none⟩) n cap));have hf2:=(fresh cap none).2;refine⟨_,_,hr,⟨hf.1,?_,hf.2,.inr ⟨w.heap.size,rfl,Nat.le_refl _,by simp⟩,by simp⟩⟩;exact hown.kept hf2 (.inr (by simp[Value.ownBlock]))
theorem aG {P:Program} {w:World} {ops:Array Oper} {rest:List Oper} {o:Oper} {a:Act} {Q:Exit→Act→World→Prop} (hgd:o.guard=none) (s x:Operand) (t:TypeId)
  (ho:o.op=.call {callee:=.builtin .append,args:=#[s,x],argTypes:=#[t,t]})
  (base:Nat) (e e':TypeId) (z:Value) (size bytes m:Nat) (ht:P.underlying t=some (.slice e)) (nj:(P.info? e).map (fun i=>(i.zero,i.size,i.bytes))=some (some z,size,bytes))
  (hzs:z.cells.size=size) (hsz:0<size)
  (v:Value) (n:Nat) (xs news:List Value) (fr:Nat×Nat) (hown:w.ownsRow base e size v n xs) (hl:news.length=m*size) (h1:∀u∈news,u.oneCell'=true)
  (h63:n+m≤maxLen) (hbytes:(n+m)*bytes≤140737488355328) (hbase:base≤w.heap.size)
  (hs:a.eval s=v) (hx:a.eval x=.slice (some ⟨w.heap.size,0,none⟩) m m)
  (h:∀v' w',aV w w' base e size v v' n m xs news→wpList P ops Q rest (a.put o.dst v') w'):
  wpList P ops Q (o::rest) a (w.alloc (.cells news.toArray e' fr)):=by
 obtain⟨i,hi,hz0,hz1,hz2⟩:=info_parts nj;subst hz1;subst hz2;refine wpList_plain hgd fun K hK=>?_
 obtain⟨v',w',hr,hA⟩:=gI (P:=P) (w.alloc (.cells news.toArray e' fr)) base t o.type e i z ht hi hz0 hzs hsz v n xs (hown.alloc _) ⟨w.heap.size,0,none⟩ m m news hl (by
  intro j u hj;have hadd:(⟨w.heap.size,0,none⟩:Addr).add j=⟨w.heap.size,j,none⟩:=by unfold Addr.add;split<;>simp_all
  rw[hadd,World.cell?_alloc_mark];simpa using hj) h1 h63 hbytes (by simp;omega)
 unfold Oper.wp execOp;simp only[ho,resolve,invoke,builtin,Sem.run_bind,Sem.run_pure,Result.andThen_ok,List.map_toArray,List.map_cons,List.map_nil,hs,hx,hr];refine hK _ _ (h v' w' ⟨hA.own,hA.old,aO (World.grownBy_alloc w _ _) hA.grown,?_,hA.nil⟩);rcases hA.place with h|⟨g,h1,h2,h3⟩
 ·exact .inl h
 ·exact .inr ⟨g,h1,by simp at h2;omega,h3⟩
theorem aV.other {w w':World} {base base':Nat} {e e':TypeId} {size size':Nat} {v v' u:Value} {n m k:Nat} {xs news ys:List Value} (hA:aV w w' base e size v v' n m xs news)
  (h:w.ownsRow base' e' size' u k ys) (hne:u.ownBlock=none∨u.ownBlock≠v.ownBlock):w'.ownsRow base' e' size' u k ys∧(u.ownBlock=none∨u.ownBlock≠v'.ownBlock):=by
 refine⟨h.kept hA.grown hne,?_⟩;rcases hne with h0|h0
 ·exact .inl h0
 ·rcases hA.place with hp|⟨g,hp,hg,_⟩
  ·exact .inr (by rw[hp];exact h0)
  ·cases hu:u.ownBlock with
   |none=>exact .inl rfl
   |some q=>
    right
    rw[hp];intro hq;simp only[Option.some.injEq] at hq;have:=(h.lt q hu).2;omega
theorem aV.below {w w':World} {base:Nat} {e:TypeId} {size:Nat} {v v':Value} {n m:Nat} {xs news:List Value} (hA:aV w w' base e size v v' n m xs news) (h:w.ownsRow base e size v n xs) (hB:base≤w.heap.size):Below base w w':=
 (Below.refl base w).grown hA.grown hB (fun k hk=>(h.lt k hk).1)
/-! Rows that lie apart from one another. -/
structure dr where
 v:Value
 e:TypeId
 size:Nat
 n:Nat
 xs:List Value
def dr.apart (a b:dr):Prop:=a.v.ownBlock=none∨a.v.ownBlock≠b.v.ownBlock
theorem dr.ra {a b:dr} (h:a.apart b):b.apart a:=by
 rcases h with h|h
 ·cases hb:b.v.ownBlock with
  |none=>exact .inl hb
  |some q=>exact .inr (by rw[hb,h];simp)
 ·exact .inr (fun e=>h e.symm)
structure Sep (w:World) (B:Nat) (L:List dr):Prop where
 own:∀i (h:i<L.length),w.ownsRow B L[i].e L[i].size L[i].v L[i].n L[i].xs
 apart:∀i j (hi:i<L.length) (hj:j<L.length),i≠j→L[i].apart L[j]
theorem Sep.nil (w:World) (B:Nat):Sep w B []:=⟨fun i h=>by simp at h,fun i j h=>by simp at h⟩
theorem Sep.turn {w w':World} {B:Nat} {L:List dr} (h:Sep w B L) (k:Nat) (hk:k<L.length) (r:dr) (hg:w.grownBy w' L[k].v.ownBlock) (hr:w'.ownsRow B r.e r.size r.v r.n r.xs)
  (hp:r.v.ownBlock=L[k].v.ownBlock∨∃g,r.v.ownBlock=some g∧w.heap.size≤g):Sep w' B (L.set k r):=by
 refine⟨fun i hi=>?_,fun i j hi hj J8=>?_⟩
 ·rw[List.length_set] at hi;by_cases hik:k=i
  ·subst hik;simpa using hr
  ·rw[List.getElem_set_ne hik];exact(h.own i hi).kept hg (h.apart i k hi hk (fun e=>hik e.symm))
 ·rw [List.length_set] at hi hj;have key:∀i (hi:i<L.length),i≠k→L[i].apart r:=by
   intro i hi hik;rcases hp with hp|⟨g,hp,hg2⟩
   ·rcases h.apart i k hi hk hik with h1|h1
    ·exact .inl h1
    ·exact .inr (by rw[hp];exact h1)
   ·cases hb:L[i].v.ownBlock with
    |none=>exact .inl hb
    |some q=>
     refine .inr ?_;rw[hb,hp];intro e;simp only[Option.some.injEq] at e;have:=((h.own i hi).lt q hb).2;omega
  by_cases hik:k=i
  ·subst hik;rw[List.getElem_set_self,List.getElem_set_ne J8];exact dr.ra (key j hj (fun e=>J8 e.symm))
  ·by_cases hjk:k=j
   ·subst hjk;rw[List.getElem_set_self,List.getElem_set_ne hik];exact key i hi (fun e=>hik e.symm)
   ·rw[List.getElem_set_ne hik,List.getElem_set_ne hjk];exact h.apart i j hi hj J8
theorem Sep.kept {w w':World} {B:Nat} {L:List dr} (h:Sep w B L) {row:Option Nat} (hg:w.grownBy w' row) (hn:∀i (hi:i<L.length),L[i].v.ownBlock=none∨L[i].v.ownBlock≠row):Sep w' B L:=
 ⟨fun i hi=>(h.own i hi).kept hg (hn i hi),h.apart⟩
theorem Sep.alloc {w:World} {B:Nat} {L:List dr} (h:Sep w B L) (o:Obj):Sep (w.alloc o) B L:=
 h.kept (World.grownBy_alloc w o none) (fun i hi=>by cases hq:L[i].v.ownBlock<;>simp)
theorem Sep.drew {w:World} {B:Nat} {L:List dr} (h:Sep w B L):Sep w.drew B L:=⟨fun i hi=>(h.own i hi).drew,h.apart⟩
theorem Sep.below {w w':World} {B C:Nat} {L:List dr} (h:Sep w B L) (hb:Below C w w') (hC:w.heap.size≤C):Sep w' B L:=⟨fun i hi=>FZ (h.own i hi) hb hC,h.apart⟩
theorem Sep.base {w:World} {B B':Nat} {L:List dr} (h:Sep w B L) (hB:B'≤B):Sep w B' L:=⟨fun i hi=>F0 (h.own i hi) hB,h.apart⟩
theorem Sep.push {w:World} {B:Nat} {L:List dr} (h:Sep w B L) (r:dr) (hr:w.ownsRow B r.e r.size r.v r.n r.xs) (ha:∀i (hi:i<L.length),L[i].apart r):Sep w B (L++[r]):=by
 refine⟨fun i hi=>?_,fun i j hi hj J8=>?_⟩
 ·by_cases h1:i<L.length
  ·rw[List.getElem_append_left h1];exact h.own i h1
  ·rw[List.getElem_append_right (by omega)];simpa using hr
 ·simp only[List.length_append,List.length_singleton] at hi hj;by_cases h1:i<L.length<;>by_cases h2:j<L.length
  ·rw[List.getElem_append_left h1,List.getElem_append_left h2];exact h.apart i j h1 h2 J8
  ·rw[List.getElem_append_left h1,List.getElem_append_right (by omega)];simpa using ha i h1
  ·rw[List.getElem_append_left h2,List.getElem_append_right (by omega)];simpa using dr.ra (ha j h2)
  ·omega
end
section
/-! What the Apart functions do to lists that were handed out (elements of one cell). -/
def dr.head (r:dr):Value×TypeId×Nat×Nat:=(r.v,r.e,r.size,r.n)
structure Ap (w:World) (B lb lo:Nat) (L0 L:List dr):Prop where
 sep:Sep w B L
 shape:L.map dr.head=L0.map dr.head
 cells:∀k (h:k<L0.length),w.cell? ⟨lb,lo+k,none⟩=some L0[k].v
 far:∀k (h:k<L0.length),L0[k].v.ownBlock≠some lb
theorem Ap.len {w:World} {B lb lo:Nat} {L0 L:List dr} (h:Ap w B lb lo L0 L):L.length=L0.length:=by
 have:=congrArg List.length h.shape;simpa using this
theorem Ap.at {w:World} {B lb lo:Nat} {L0 L:List dr} (h:Ap w B lb lo L0 L) (k:Nat) (h1:k<L.length) (h2:k<L0.length):L[k].v=L0[k].v∧L[k].e=L0[k].e∧L[k].size=L0[k].size∧L[k].n=L0[k].n:=by
 have e:(L.map dr.head)[k]? =(L0.map dr.head)[k]? :=by rw[h.shape]
 simp only[List.getElem?_map,List.getElem?_eq_getElem h1,List.getElem?_eq_getElem h2,Option.map_some,Option.some.injEq,dr.head,Prod.mk.injEq] at e;exact e
theorem Ap.store {w:World} {B lb lo:Nat} {L0 L:List dr} (h:Ap w B lb lo L0 L) (k:Nat) (hk:k<L.length) {g n cap:Nat} (hv:L[k].v=.slice (some ⟨g,0,none⟩) n cap) (hn:L[k].n=n) (hs:L[k].size=1) (j:Nat) (u:Value):
  Ap (w.setCell ⟨g,j,none⟩ u) B lb lo L0 (L.set k {L[k] with xs:=L[k].xs.set j u}):=by
 have hown:=h.sep.own k hk;rw[hv,hn,hs] at hown;have hst:=hown.stored j u;refine⟨h.sep.turn k hk _ (by rw[hv];exact hst.2) (by rw[hv,hn,hs];exact hst.1) (.inl rfl),?_,fun i hi=>?_,h.far⟩
 ·rw[List.map_set];have e:dr.head {L[k] with xs:=L[k].xs.set j u}=(L.map dr.head)[k]'(by simpa using hk):=by simp[dr.head]
  rw[e,List.set_getElem_self];exact h.shape
 ·have hlen:=h.len;have hne:g≠lb:=by
   have:=h.far k (by omega);have h2:=(h.at k hk (by omega)).1;rw[←h2,hv] at this;intro e;exact this (by simp[Value.ownBlock,e])
  exact hst.2.cell (h.cells i hi) (by simp;omega)
def Marks (mk:Nat→Nat→Value) (k n:Nat):List Value:=(List.range n).map (mk k)
theorem Dm (mk:Nat→Nat→Value) (k j:Nat) (xs:List Value) (h:j<xs.length):(Marks mk k j++xs.drop j).set j (mk k j)=Marks mk k (j+1)++xs.drop (j+1):=Po (mk k) xs j h
structure zF (w:World) (B lb lo:Nat) (L0:List dr) (mk:Nat→Nat→Value) (k j:Nat):Prop where
 ex:∃L,Ap w B lb lo L0 L∧(∀i (h:i<L.length),i<k→L[i].xs=Marks mk i L[i].n)∧(∀(h:k<L.length) (h0:k<L0.length),L[k].xs=Marks mk k j++L0[k].xs.drop j)
  ∧(∀i (h:i<L.length) (h0:i<L0.length),k<i→L[i].xs=L0[i].xs)
theorem zF.start {w:World} {B lb lo:Nat} {L0:List dr} (mk:Nat→Nat→Value) (h:Ap w B lb lo L0 L0):zF w B lb lo L0 mk 0 0:=
 ⟨L0,h,fun i _ hi=>by omega,fun _ _=>by simp[Marks],fun _ _ _ _=>rfl⟩
theorem zF.store {w:World} {B lb lo:Nat} {L0:List dr} {mk:Nat→Nat→Value} {k j:Nat} (h:zF w B lb lo L0 mk k j) (hk:k<L0.length) {g n cap:Nat} (hv:L0[k].v=.slice (some ⟨g,0,none⟩) n cap) (hn:L0[k].n=n) (hs:L0[k].size=1)
  (hx:L0[k].xs.length=n) (hj:j<n):zF (w.setCell ⟨g,j,none⟩ (mk k j)) B lb lo L0 mk k (j+1):=by
 obtain⟨L,hA,h1,h2,h3⟩:=h.ex;have hl:=hA.len;have SF:k<L.length:=by omega
 obtain⟨e1,e2,e3,e4⟩:=hA.at k SF hk;refine⟨L.set k {L[k] with xs:=L[k].xs.set j (mk k j)},hA.store k SF (e1.trans hv) (e4.trans hn) (e3.trans hs) j (mk k j),fun i hi hik=>?_,fun oB h0=>?_,fun i hi h0 hik=>?_⟩
 ·rw[List.length_set] at hi;simp only[List.getElem_set_ne (show k≠i by omega)];exact h1 i hi hik
 ·simp only[List.getElem_set_self];rw[h2 SF hk];exact Dm mk k j _ (by omega)
 ·rw[List.length_set] at hi;simp only[List.getElem_set_ne (show k≠i by omega)];exact h3 i hi h0 hik
theorem zF.next {w:World} {B lb lo:Nat} {L0:List dr} {mk:Nat→Nat→Value} {k j:Nat} (h:zF w B lb lo L0 mk k j) (hx:∀i (h:i<L0.length),L0[i].xs.length=L0[i].n) (hk:k<L0.length) (hj:j=L0[k].n):zF w B lb lo L0 mk (k+1) 0:=by
 obtain⟨L,hA,h1,h2,h3⟩:=h.ex;have hl:=hA.len;refine⟨L,hA,fun i hi hik=>?_,fun oB h0=>?_,fun i hi h0 hik=>h3 i hi h0 (by omega)⟩
 ·by_cases hlt:i<k
  ·exact h1 i hi hlt
  ·obtain rfl:i=k:=by omega
   rw[h2 hi hk,List.drop_eq_nil_of_le (by rw[hx i hk];omega),List.append_nil,hj,(hA.at i hi hk).2.2.2]
 ·rw[h3 (k+1) oB h0 (by omega)];simp[Marks]
theorem zF.cell {w:World} {B lb lo:Nat} {L0:List dr} {mk:Nat→Nat→Value} {k j:Nat} (h:zF w B lb lo L0 mk k j) (i:Nat) (hi:i<L0.length):w.cell? ⟨lb,lo+i,none⟩=some L0[i].v:=by
 obtain⟨L,hA,_⟩:=h.ex;exact hA.cells i hi
theorem zF.old {w:World} {B lb lo:Nat} {L0:List dr} {mk:Nat→Nat→Value} {k j:Nat} (h:zF w B lb lo L0 mk k j) (hk:k<L0.length) {g n cap:Nat} (hv:L0[k].v=.slice (some ⟨g,0,none⟩) n cap) (hn:L0[k].n=n) (hs:L0[k].size=1) (hj:j<n):
  (∃u,w.cell? ⟨g,j,none⟩=some u)∧w.frozen? ⟨g,j,none⟩=false∧B≤g:=by
 obtain⟨L,hA,h1,h2,h3⟩:=h.ex;have hl:=hA.len;have SF:k<L.length:=by omega
 obtain⟨e1,e2,e3,e4⟩:=hA.at k SF hk;have hown:=hA.sep.own k SF;rw[e1.trans hv,e4.trans hn,e3.trans hs] at hown;refine⟨?_,hown.frozenAt j,(hown.lt g rfl).1⟩;rw[hown.cellAt j (by omega)];have:=hown.1;exact⟨_,List.getElem?_eq_getElem (by omega)⟩
structure KD (w:World) (B lb lo H:Nat) (L0:List dr) (mk:Nat→Nat→Value) (e eo:TypeId) (gs:Value) (G:List dr):Prop where
 sep:Sep w B (⟨gs,eo,1,G.length,G.map (·.v)⟩::G)
 le:G.length≤L0.length
 each:∀i (h:i<G.length) (h0:i<L0.length),G[i].e=e∧G[i].size=1∧G[i].n=L0[i].n+64∧G[i].xs=Marks mk i (L0[i].n+64)∧(G[i].v.ownBlock=L0[i].v.ownBlock∨∃g,G[i].v.ownBlock=some g∧H≤g)
 gsb:∀g,gs.ownBlock=some g→H≤g
 reads:∀i (h:i<L0.length),w.ownsRow B e 1 L0[i].v L0[i].n (Marks mk i L0[i].n)
 cells:∀k (h:k<L0.length),w.cell? ⟨lb,lo+k,none⟩=some L0[k].v
 far:∀k (h:k<L0.length),L0[k].v.ownBlock≠some lb
 lbH:lb<H
 old:∀k (h:k<L0.length) g,L0[k].v.ownBlock=some g→g<H
 F3:∀i j (hi:i<L0.length) (hj:j<L0.length),i≠j→L0[i].apart L0[j]
 heap:H≤w.heap.size
 base:B≤H
structure KF (w:World) (B lb lo H:Nat) (L0:List dr) (mk:Nat→Nat→Value) (e eo:TypeId) (gs:Value) (G:List dr) (cur:Value) (j:Nat):Prop where
 main:KD w B lb lo H L0 mk e eo gs G
 lt:G.length<L0.length
 own:w.ownsRow B e 1 cur (L0[G.length].n+j) (Marks mk G.length (L0[G.length].n+j))
 place:cur.ownBlock=L0[G.length].v.ownBlock∨∃g,cur.ownBlock=some g∧H≤g
 apG:∀i (h:i<G.length),G[i].v.ownBlock=none∨G[i].v.ownBlock≠cur.ownBlock
 apS:gs.ownBlock=none∨gs.ownBlock≠cur.ownBlock
theorem KD.open {w:World} {B lb lo H:Nat} {L0:List dr} {mk:Nat→Nat→Value} {e eo:TypeId} {gs:Value} {G:List dr} (h:KD w B lb lo H L0 mk e eo gs G) (hlt:G.length<L0.length):KF w B lb lo H L0 mk e eo gs G L0[G.length].v 0:=by
 refine⟨h,hlt,by simpa using h.reads G.length hlt,.inl rfl,fun i hi=>?_,?_⟩
 ·rcases(h.each i hi (by omega)).2.2.2.2 with hp|⟨g,hp,hg⟩
  ·rw[hp];exact h.F3 i G.length (by omega) hlt (by omega)
  ·cases hq:L0[G.length].v.ownBlock with
   |none=>exact .inr (by rw[hp];simp)
   |some q=>
    have:=h.old _ hlt q hq;refine .inr ?_;rw[hp];intro e;simp only[Option.some.injEq] at e;omega
 ·cases hq:gs.ownBlock with
  |none=>exact .inl rfl
  |some q=>
   have h1:=h.gsb q hq;refine .inr ?_;intro e;have:=h.old _ hlt q e.symm;omega
theorem KD.move {w w':World} {B lb lo H:Nat} {L0:List dr} {mk:Nat→Nat→Value} {e eo:TypeId} {gs:Value} {G:List dr} (h:KD w B lb lo H L0 mk e eo gs G) {row:Option Nat} (hg:w.grownBy w' row)
  (h1:∀i (hi:i<G.length),G[i].v.ownBlock=none∨G[i].v.ownBlock≠row) (h2:gs.ownBlock=none∨gs.ownBlock≠row) (h3:row≠some lb) (hr:∀i (h:i<L0.length),w'.ownsRow B e 1 L0[i].v L0[i].n (Marks mk i L0[i].n)):
  KD w' B lb lo H L0 mk e eo gs G:=by
 refine⟨h.sep.kept hg (fun i hi=>?_),h.le,h.each,h.gsb,hr,fun k hk=>hg.cell (h.cells k hk) (fun e=>h3 e.symm),h.far,h.lbH,h.old,h.F3,Nat.le_trans h.heap hg.size,h.base⟩;cases i with
 |zero=>exact h2
 |succ i=>exact h1 i (by simpa using hi)
theorem zF.kept {w w':World} {B lb lo:Nat} {L0:List dr} {mk:Nat→Nat→Value} {k j:Nat} (h:zF w B lb lo L0 mk k j) (hg:w.grownBy w' none):zF w' B lb lo L0 mk k j:=by
 obtain⟨L,hA,r⟩:=h.ex;exact⟨L,⟨hA.sep.kept hg (fun i hi=>by cases L[i].v.ownBlock<;>simp),hA.shape,fun k hk=>hg.cell (hA.cells k hk) (by simp),hA.far⟩,r⟩
theorem KD.kept {w w':World} {B lb lo H:Nat} {L0:List dr} {mk:Nat→Nat→Value} {e eo:TypeId} {gs:Value} {G:List dr} (h:KD w B lb lo H L0 mk e eo gs G) (hg:w.grownBy w' none):KD w' B lb lo H L0 mk e eo gs G:=
 h.move hg (fun i hi=>by cases G[i].v.ownBlock<;>simp) (by cases gs.ownBlock<;>simp) (by simp) (fun i hi=>(h.reads i hi).kept hg (by cases L0[i].v.ownBlock<;>simp))
theorem KF.kept {w w':World} {B lb lo H:Nat} {L0:List dr} {mk:Nat→Nat→Value} {e eo:TypeId} {gs:Value} {G:List dr} {cur:Value} {j:Nat} (h:KF w B lb lo H L0 mk e eo gs G cur j) (hg:w.grownBy w' none):KF w' B lb lo H L0 mk e eo gs G cur j:=
 ⟨h.main.kept hg,h.lt,h.own.kept hg (by cases cur.ownBlock<;>simp),h.place,h.apG,h.apS⟩
theorem aJ (w:World) (row:Option Nat):w.grownBy w.drew row:=⟨rfl,rfl,rfl,Nat.le_refl _,fun _ _ _=>rfl⟩
end
section
open Go.MapKept (run_checkKey run_findKey run_setObj_map IsKey bytes_beq run_keyThatStays heap_set)
def fe {α:Type} (s:ByteArray):List (ByteArray×α)→Nat→Option (Nat×α)
 |[],_=>none
 |x::r,i=>if s==x.1 then some (i,x.2) else fe s r (i+1)
def getM {α:Type} (s:ByteArray) (l:List (ByteArray×α)):Option α:=(fe s l 0).map (·.2)
def aY {α:Type} (s:ByteArray) (v:α):List (ByteArray×α)→List (ByteArray×α)
 |[]=>[(s,v)]
 |x::r=>if s==x.1 then(s,v)::r else x::aY s v r
theorem fF {α:Type} (s:ByteArray):∀(l:List (ByteArray×α)) (i:Nat),fe s l i=(fe s l 0).map fun x=>(x.1+i,x.2)
 |[],i=>rfl
 | x::r,i=>by
  simp only[fe];split
  ·simp
  ·rw[fF s r (i+1),fF s r (0+1)];cases fe s r 0<;>simp<;>omega
theorem cO {α:Type} (s:ByteArray) (x:ByteArray×α) (r:List (ByteArray×α)):getM s (x::r)=if s==x.1 then some x.2 else getM s r:=by
 unfold getM;simp only[fe];split
 ·rfl
 ·rw[fF s r (0+1)];cases fe s r 0<;>rfl
def Mp (w:World) (b:Nat) (l:List (ByteArray×Value)):Prop:=
 ∃(es:Array MapEntry) (clock:Nat),w.heap[b]? =some (.map es clock)∧es.toList.map (fun e=>(e.key,e.val))=l.map fun x=>(Value.string x.1,x.2)
theorem Mp.new (w:World):Mp (w.alloc (.map #[] 0)) w.heap.size []:=⟨#[],0,heap_alloc_new w _,rfl⟩
theorem Mp.lt {w:World} {b:Nat} {l:List (ByteArray×Value)} (h:Mp w b l):b<w.heap.size:=by
 obtain⟨es,c,h,_⟩:=h;exact lt_of_block h
theorem Mp.on {w w':World} {b:Nat} {l:List (ByteArray×Value)} (h:Mp w b l) {row:Option Nat} (hg:w.grownBy w' row) (hn:some b≠row):Mp w' b l:=by
 obtain⟨es,c,h,h2⟩:=h;exact⟨es,c,(hg.block b (lt_of_block h) hn).trans h,h2⟩
theorem kH (s:ByteArray):∀(es:List MapEntry) (l:List (ByteArray×Value)) (i:Nat),es.map (fun e=>(e.key,e.val))=l.map (fun x=>(Value.string x.1,x.2))→Instr.findNow .string (.string s) es i=some (fe s l i)
 |[],[],i,_=>rfl
 |[],x::l,i,h=>by cases h
 |e::es,[],i,h=>by cases h
 | e::es,x::l,i,h=>by
  simp only[List.map_cons,List.cons.injEq,Prod.mk.injEq] at h;obtain⟨⟨h1,h2⟩,h3⟩:=h;simp only[Instr.findNow,h1,Instr.sameNow,fe];cases hq:s==x.1
  ·simp only[Bool.false_eq_true,if_false];exact kH s es l (i+1) h3
  ·simp only[if_true,h2]
theorem jV {α:Type} (s:ByteArray) (v:α):∀(l:List (ByteArray×α)),fe s l 0=none→aY s v l=l++[(s,v)]
 |[],_=>rfl
 | x::r,h=>by
  simp only[fe] at h;cases hq:s==x.1
  ·rw[hq,fF] at h;simp only[Bool.false_eq_true,if_false,Option.map_eq_none_iff] at h;simp only[aY,hq,Bool.false_eq_true,if_false,jV s v r h,List.cons_append]
  ·rw[hq] at h;cases h
theorem mF {α:Type} (s:ByteArray) (v:α):∀(l:List (ByteArray×α)) (j:Nat) (y:α),fe s l 0=some (j,y)→j<l.length∧aY s v l=l.set j (s,v)∧l[j]? =some (s,y)
 |[],j,y,h=>by cases h
 | x::r,j,y,h=>by
  simp only[fe] at h;cases hq:s==x.1
  ·rw[hq,fF] at h;simp only[Bool.false_eq_true,if_false] at h;cases hr:fe s r 0 with
   |none=>rw[hr] at h;cases h
   |some a=>
    obtain⟨a1,a2⟩:=a;rw[hr] at h;simp only[Option.map_some,Option.some.injEq,Prod.mk.injEq] at h;obtain⟨rfl,rfl⟩:=h;obtain⟨h1,h2,h3⟩:=mF s v r a1 a2 hr;refine⟨by simp;omega,?_,by simpa using h3⟩;simp only[aY,hq,Bool.false_eq_true,if_false,h2,List.set_cons_succ,Nat.zero_add]
  ·rw[hq] at h;simp only[if_true,Option.some.injEq,Prod.mk.injEq] at h;obtain⟨rfl,rfl⟩:=h;have:x.1=s:=((bytes_beq s x.1).1 hq).symm;refine⟨by simp,by simp[aY,hq],?_⟩;rw[←this];rfl
section
variable {P:Program} {w:World} {b:Nat} {l:List (ByteArray×Value)} {T K E:TypeId}
theorem Mp.lookup (h:Mp w b l) (hT:P.underlying T=some (.map K E)) (hK:P.underlying K=some .string) (s:ByteArray) (z:Value) (hz:(zeroValue E).run P w=.ok z w) (c:Bool):
  (Instr.lookup T (.map (some b)) (.string s) c).run P w=.ok (if c then .tuple #[(getM s l).getD z,.bool (getM s l).isSome] else(getM s l).getD z) w:=by
 obtain⟨es,k,h1,h2⟩:=h;have hf:=kH s es.toList l 0 h2;have kq:(Instr.checkKey es.isEmpty 10000 K (.string s)).run P w=.ok () w:=run_checkKey hK (k:=.string s) (by simp[IsKey]) es.isEmpty 9999;cases hl:fe s l 0 with
 |none=>
  rw[hl] at hf;have hg:getM s l=none:=by unfold getM;rw[hl];rfl
  rw[hg];simp[Instr.lookup,run_underlying hT,MapKept.run_getObj_map h1,kq,run_findKey hK hf,hz,Result.andThen]
 |some a=>
  obtain⟨j,y⟩:=a;rw[hl] at hf;have hg:getM s l=some y:=by unfold getM;rw[hl];rfl
  rw[hg];simp[Instr.lookup,run_underlying hT,MapKept.run_getObj_map h1,kq,run_findKey hK hf,Result.andThen]
theorem Mp.update (h:Mp w b l) (hT:P.underlying T=some (.map K E)) (hK:P.underlying K=some .string) (s:ByteArray) (v:Value):
  ∃w',(Instr.mapUpdate T (.map (some b)) (.string s) v).run P w=.ok () w'∧w.grownBy w' (some b)∧w'.heap.size=w.heap.size∧Mp w' b (aY s v l):=by
 obtain⟨es,k,h1,h2⟩:=h;have hf:=kH s es.toList l 0 h2;have kq:(Instr.checkKey false 10000 K (.string s)).run P w=.ok () w:=run_checkKey hK (k:=.string s) (by simp[IsKey]) false 9999;have hgr:∀o,w.grownBy {w with heap:=w.heap.setIfInBounds b o} (some b):=fun o=>⟨rfl,rfl,rfl,by simp,fun i hi hn=>by
  have:b≠i:=fun q=>hn (by rw[q])
  simp[this]⟩
 cases hl:fe s l 0 with
 |none=>
  rw[hl] at hf;refine⟨_,by simp[Instr.mapUpdate,run_underlying hT,MapKept.run_getObj_map h1,kq,run_findKey hK hf,run_setObj_map _ h1,Result.andThen];rfl,hgr _,by simp,?_⟩;refine⟨_,_,(heap_set h1).1,?_⟩;rw[jV s v l hl];simp[h2]
 | some a=>
  obtain⟨j,y⟩:=a;rw[hl] at hf;obtain⟨hj,hp,hat⟩:=mF s v l j y hl;have hlen:es.toList.length=l.length:=by simpa using congrArg List.length h2
  have qC:j<es.size:=by have:es.toList.length=es.size:=rfl;omega
  have hkey:(es[j]'qC).key=.string s:=by
   have:=congrArg (fun q=>q[j]?) h2;simp only[List.getElem?_map,hat,Option.map_some] at this;rw[Array.getElem?_toList,Array.getElem?_eq_getElem qC] at this;simp only[Option.map_some,Option.some.injEq,Prod.mk.injEq] at this;exact this.1
  refine⟨_,by simp[Instr.mapUpdate,run_underlying hT,MapKept.run_getObj_map h1,kq,run_findKey hK hf,Array.getElem?_eq_getElem qC,hkey,run_keyThatStays (d:=.string) (k:=.string s) (by simp[IsKey]),run_setObj_map _ h1,Result.andThen];rfl,hgr _,by simp,?_⟩;refine⟨_,_,(heap_set h1).1,?_⟩;rw[hp];simp only[List.map_set,←h2];apply List.ext_getElem?;intro i;have ha:(es.modify j fun e=>({key:=Value.string s,val:=v,born:=e.born}:MapEntry)).toList[i]? =if j=i then(es[i]?).map (fun e=>({key:=Value.string s,val:=v,born:=e.born}:MapEntry)) else es[i]? :=by
   rw[Array.getElem?_toList,Array.getElem?_modify]
  rw[List.getElem?_map,ha,List.getElem?_set];by_cases hi:j=i
  ·subst i;simp[qC,Array.getElem?_eq_getElem qC]
  ·simp[hi,List.getElem?_map,Array.getElem?_toList]
end
end
section
structure EH where
 at_:Int
 kind:Int
 word:Int
 type:Int
 name:ByteArray
 sign:ByteArray
inductive az where
 |nil:az
 |cons (h:EH) (kids rest:az):az
structure SH where
 at_:Int
 kind:Int
 name:ByteArray
 type:Int
 sign:ByteArray
inductive aH where
 |nil:aH
 |cons (h:SH) (exprs:az) (body els rest:aH):aH
def az.len:az→Nat
 | .nil=>0
 | .cons _ _ r=>r.len+1
def aH.len:aH→Nat
 | .nil=>0
 | .cons _ _ _ _ r=>r.len+1
def az.sz:az→Nat
 | .nil=>0
 | .cons _ k r=>k.sz+r.sz+1
def aH.sz:aH→Nat
 | .nil=>0
 | .cons _ x b e r=>x.sz+b.sz+e.sz+r.sz+1
theorem az.bU:∀l:az,l.len≤l.sz
 | .nil=>Nat.le_refl _
 | .cons _ k r=>by have:=az.bU r;simp only[az.len,az.sz];omega
theorem aH.bU:∀l:aH,l.len≤l.sz
 | .nil=>Nat.le_refl _
 | .cons _ x b e r=>by have:=aH.bU r;simp only[aH.len,aH.sz];omega
def ub (t:TypeId):Value:=if t=46 then .string ⟨#[109,97,114,107]⟩ else .int .i64 (-7)
def eP (w:World) (o:Option (Nat→Prop)) (t:TypeId) (b off n len cap:Nat):Prop:=
 ∀Z,o=some Z→Z b∧off=0∧(∃cs:Array Value,w.heap[b]? =some (.cells cs t (0,0)))∧len<cap∧w.cell? ⟨b,len*n,none⟩=some (ub t)
theorem eP.mono {w w':World} {o:Option (Nat→Prop)} {t:TypeId} {b off n len cap:Nat} (h:eP w o t b off n len cap) (hb:Below w.heap.size w w'):eP w' o t b off n len cap:=fun B hB=>by
 obtain⟨h1,h2,⟨cs,h3⟩,h4,h5⟩:=h B hB;have hlt:b<w.heap.size:=by
  rcases Nat.lt_or_ge b w.heap.size with q|q
  ·exact q
  ·rw[Array.getElem?_eq_none q] at h3;cases h3
 exact⟨h1,h2,⟨cs,(hb.block b hlt).trans h3⟩,h4,(hb.cell hlt).trans h5⟩
structure gZ (w:World) (p:Bool) (h:EH) (b q:Nat):Prop where
 c0:∃t,w.cell? ⟨b,q,none⟩=some (.int .i64 t)∧(p=true→t=h.at_)
 c1:w.cell? ⟨b,q+1,none⟩=some (.int .u8 h.kind)
 c2:w.cell? ⟨b,q+2,none⟩=some (.int .u32 h.word)
 c3:w.cell? ⟨b,q+3,none⟩=some (.int .u8 h.type)
 c4:w.cell? ⟨b,q+4,none⟩=some (.string h.name)
 c5:w.cell? ⟨b,q+5,none⟩=some (.string h.sign)
theorem ag {w w':World} {a:Addr} {v:Value} (h:w.cell? a=some v) (hb:Below w.heap.size w w'):w'.cell? a=some v:=(hb.cell (World.block_lt_of_cell? w _ h)).trans h
theorem gZ.mono {w w':World} {p:Bool} {h:EH} {b q:Nat} (x:gZ w p h b q) (hb:Below w.heap.size w w'):gZ w' p h b q:=by
 obtain⟨⟨t,y0,jQ⟩,y1,y2,y3,y4,y5⟩:=x;exact⟨⟨t,ag y0 hb,jQ⟩,ag y1 hb,ag y2 hb,ag y3 hb,ag y4 hb,ag y5 hb⟩
structure ia (w:World) (p:Bool) (h:SH) (b q:Nat):Prop where
 c0:∃t,w.cell? ⟨b,q,none⟩=some (.int .i64 t)∧(p=true→t=h.at_)
 c1:w.cell? ⟨b,q+1,none⟩=some (.int .u8 h.kind)
 c2:w.cell? ⟨b,q+2,none⟩=some (.string h.name)
 c3:w.cell? ⟨b,q+3,none⟩=some (.int .u8 h.type)
 c4:w.cell? ⟨b,q+4,none⟩=some (.string h.sign)
theorem ia.mono {w w':World} {p:Bool} {h:SH} {b q:Nat} (x:ia w p h b q) (hb:Below w.heap.size w w'):ia w' p h b q:=by
 obtain⟨⟨t,y0,jQ⟩,y1,y2,y3,y4⟩:=x;exact⟨⟨t,ag y0 hb,jQ⟩,ag y1 hb,ag y2 hb,ag y3 hb,ag y4 hb⟩
def bw (w:World) (p:Bool) (o:Option (Nat→Prop)):az→Nat→Nat→Nat→Prop
 | .nil,_,_,_=>True
 | .cons h kids rest,b,off,k=>
  gZ w p h b (off+k*7)∧
  (∃ka kb aD aK,w.cell? ⟨b,off+k*7+6,none⟩=some (.slice ka kids.len aK)∧((kids.len=0∧o=none)∨(ka=some ⟨kb,aD,none⟩∧eP w o 134 kb aD 7 kids.len aK))∧bw w p o kids kb aD 0)∧
  bw w p o rest b off (k+1)
def dI (w:World) (p:Bool) (o:Option (Nat→Prop)) (l:az) (v:Value):Prop:=
 ∃ka kb aD aK,v=.slice ka l.len aK∧((l.len=0∧o=none)∨(ka=some ⟨kb,aD,none⟩∧eP w o 134 kb aD 7 l.len aK))∧bw w p o l kb aD 0
theorem bw.cons {w:World} {p:Bool} {o:Option (Nat→Prop)} {h:EH} {kids rest:az} {b off k:Nat} (x:bw w p o (.cons h kids rest) b off k):
  gZ w p h b (off+k*7)∧(∃v,w.cell? ⟨b,off+k*7+6,none⟩=some v∧dI w p o kids v)∧bw w p o rest b off (k+1):=by
 obtain⟨x1,⟨ka,kb,aD,aK,y1,y2,y3⟩,x3⟩:=x;exact⟨x1,⟨_,y1,ka,kb,aD,aK,rfl,y2,y3⟩,x3⟩
theorem bw.mk {w:World} {p:Bool} {o:Option (Nat→Prop)} {h:EH} {kids rest:az} {b off k:Nat} {v:Value} (h1:gZ w p h b (off+k*7)) (h2:w.cell? ⟨b,off+k*7+6,none⟩=some v) (h3:dI w p o kids v) (h4:bw w p o rest b off (k+1)):
  bw w p o (.cons h kids rest) b off k:=by
 obtain⟨ka,kb,aD,aK,rfl,y2,y3⟩:=h3;exact⟨h1,⟨ka,kb,aD,aK,h2,y2,y3⟩,h4⟩
theorem bw.mono {w w':World} {p:Bool} {o:Option (Nat→Prop)} (hb:Below w.heap.size w w'):∀{l:az} {b off k:Nat},bw w p o l b off k→bw w' p o l b off k
 | .nil,_,_,_,_=>trivial
 | .cons h kids rest,b,off,k,⟨x1,⟨ka,kb,aD,aK,y1,y2,y3⟩,x3⟩=>
  ⟨x1.mono hb,⟨ka,kb,aD,aK,ag y1 hb,y2.imp id (fun z=>⟨z.1,z.2.mono hb⟩),bw.mono hb y3⟩,bw.mono hb x3⟩
theorem dI.mono {w w':World} {p:Bool} {o:Option (Nat→Prop)} {l:az} {v:Value} (h:dI w p o l v) (hb:Below w.heap.size w w'):dI w' p o l v:=by
 obtain⟨ka,kb,aD,aK,rfl,y2,y3⟩:=h;exact⟨ka,kb,aD,aK,rfl,y2.imp id (fun z=>⟨z.1,z.2.mono hb⟩),y3.mono hb⟩
theorem gZ.any {w:World} {p:Bool} {h:EH} {b q:Nat} (x:gZ w p h b q):gZ w false h b q:=by
 obtain⟨⟨t,y0,jQ⟩,y1,y2,y3,y4,y5⟩:=x;exact⟨⟨t,y0,fun e=>by cases e⟩,y1,y2,y3,y4,y5⟩
theorem eP.any {w:World} {t:TypeId} {b off n len cap:Nat}:eP w none t b off n len cap:=fun _ h=>by cases h
theorem bw.any {w:World} {p:Bool} {o:Option (Nat→Prop)}:∀{l:az} {b off k:Nat},bw w p o l b off k→bw w false o l b off k
 | .nil,_,_,_,_=>trivial
 | .cons h kids rest,b,off,k,⟨x1,⟨ka,kb,aD,aK,y1,y2,y3⟩,x3⟩=>⟨x1.any,⟨ka,kb,aD,aK,y1,y2,y3.any⟩,x3.any⟩
theorem bw.free {w:World} {p:Bool} {o:Option (Nat→Prop)}:∀{l:az} {b off k:Nat},bw w p o l b off k→bw w p none l b off k
 | .nil,_,_,_,_=>trivial
 | .cons h kids rest,b,off,k,⟨x1,⟨ka,kb,aD,aK,y1,y2,y3⟩,x3⟩=>⟨x1,⟨ka,kb,aD,aK,y1,y2.imp (fun z=>⟨z.1,rfl⟩) (fun z=>⟨z.1,eP.any⟩),y3.free⟩,x3.free⟩
theorem dI.any {w:World} {p:Bool} {o:Option (Nat→Prop)} {l:az} {v:Value} (h:dI w p o l v):dI w false o l v:=by
 obtain⟨ka,kb,aD,aK,rfl,y2,y3⟩:=h;exact⟨ka,kb,aD,aK,rfl,y2,y3.any⟩
theorem dI.free {w:World} {p:Bool} {o:Option (Nat→Prop)} {l:az} {v:Value} (h:dI w p o l v):dI w p none l v:=by
 obtain⟨ka,kb,aD,aK,rfl,y2,y3⟩:=h;exact⟨ka,kb,aD,aK,rfl,y2.imp (fun z=>⟨z.1,rfl⟩) (fun z=>⟨z.1,eP.any⟩),y3.free⟩
def bC (w:World) (p:Bool) (o:Option (Nat→Prop)):aH→Nat→Nat→Nat→Prop
 | .nil,_,_,_=>True
 | .cons h x body els rest,b,off,k=>
  ia w p h b (off+k*8)∧
  (∃v,w.cell? ⟨b,off+k*8+5,none⟩=some v∧dI w p o x v)∧
  (∃ka kb aD aK,w.cell? ⟨b,off+k*8+6,none⟩=some (.slice ka body.len aK)∧((body.len=0∧o=none)∨(ka=some ⟨kb,aD,none⟩∧eP w o 109 kb aD 8 body.len aK))∧bC w p o body kb aD 0)∧
  (∃ka kb aD aK,w.cell? ⟨b,off+k*8+7,none⟩=some (.slice ka els.len aK)∧((els.len=0∧o=none)∨(ka=some ⟨kb,aD,none⟩∧eP w o 109 kb aD 8 els.len aK))∧bC w p o els kb aD 0)∧
  bC w p o rest b off (k+1)
def dR (w:World) (p:Bool) (o:Option (Nat→Prop)) (l:aH) (v:Value):Prop:=
 ∃ka kb aD aK,v=.slice ka l.len aK∧((l.len=0∧o=none)∨(ka=some ⟨kb,aD,none⟩∧eP w o 109 kb aD 8 l.len aK))∧bC w p o l kb aD 0
theorem bC.cons {w:World} {p:Bool} {o:Option (Nat→Prop)} {h:SH} {x:az} {body els rest:aH} {b off k:Nat} (y:bC w p o (.cons h x body els rest) b off k):
  ia w p h b (off+k*8)∧(∃v,w.cell? ⟨b,off+k*8+5,none⟩=some v∧dI w p o x v)∧(∃v,w.cell? ⟨b,off+k*8+6,none⟩=some v∧dR w p o body v)∧(∃v,w.cell? ⟨b,off+k*8+7,none⟩=some v∧dR w p o els v)∧bC w p o rest b off (k+1):=by
 obtain⟨x1,x2,⟨ka,kb,aD,aK,y1,y2,y3⟩,⟨ja,jb,rf,rh,z1,z2,z3⟩,x4⟩:=y;exact⟨x1,x2,⟨_,y1,ka,kb,aD,aK,rfl,y2,y3⟩,⟨_,z1,ja,jb,rf,rh,rfl,z2,z3⟩,x4⟩
theorem bC.mk {w:World} {p:Bool} {o:Option (Nat→Prop)} {h:SH} {x:az} {body els rest:aH} {b off k:Nat} {v5 v6 v7:Value} (h1:ia w p h b (off+k*8)) (h2:w.cell? ⟨b,off+k*8+5,none⟩=some v5) (h3:dI w p o x v5)
  (h4:w.cell? ⟨b,off+k*8+6,none⟩=some v6) (h5:dR w p o body v6) (h6:w.cell? ⟨b,off+k*8+7,none⟩=some v7) (h7:dR w p o els v7) (h8:bC w p o rest b off (k+1)):
  bC w p o (.cons h x body els rest) b off k:=by
 obtain⟨ka,kb,aD,aK,rfl,y2,y3⟩:=h5;obtain⟨ja,jb,rf,rh,rfl,z2,z3⟩:=h7;exact⟨h1,⟨v5,h2,h3⟩,⟨ka,kb,aD,aK,h4,y2,y3⟩,⟨ja,jb,rf,rh,h6,z2,z3⟩,h8⟩
theorem bC.mono {w w':World} {p:Bool} {o:Option (Nat→Prop)} (hb:Below w.heap.size w w'):∀{l:aH} {b off k:Nat},bC w p o l b off k→bC w' p o l b off k
 | .nil,_,_,_,_=>trivial
 | .cons h x body els rest,b,off,k,⟨x1,⟨v,x2,x3⟩,⟨ka,kb,aD,aK,y1,y2,y3⟩,⟨ja,jb,rf,rh,z1,z2,z3⟩,x4⟩=>
  ⟨x1.mono hb,⟨v,ag x2 hb,x3.mono hb⟩,⟨ka,kb,aD,aK,ag y1 hb,y2.imp id (fun z=>⟨z.1,z.2.mono hb⟩),bC.mono hb y3⟩,⟨ja,jb,rf,rh,ag z1 hb,z2.imp id (fun z=>⟨z.1,z.2.mono hb⟩),bC.mono hb z3⟩,bC.mono hb x4⟩
theorem dR.mono {w w':World} {p:Bool} {o:Option (Nat→Prop)} {l:aH} {v:Value} (h:dR w p o l v) (hb:Below w.heap.size w w'):dR w' p o l v:=by
 obtain⟨ka,kb,aD,aK,rfl,y2,y3⟩:=h;exact⟨ka,kb,aD,aK,rfl,y2.imp id (fun z=>⟨z.1,z.2.mono hb⟩),y3.mono hb⟩
theorem ia.any {w:World} {p:Bool} {h:SH} {b q:Nat} (x:ia w p h b q):ia w false h b q:=by
 obtain⟨⟨t,y0,jQ⟩,y1,y2,y3,y4⟩:=x;exact⟨⟨t,y0,fun e=>by cases e⟩,y1,y2,y3,y4⟩
theorem bC.any {w:World} {p:Bool} {o:Option (Nat→Prop)}:∀{l:aH} {b off k:Nat},bC w p o l b off k→bC w false o l b off k
 | .nil,_,_,_,_=>trivial
 | .cons h x body els rest,b,off,k,⟨x1,⟨v,x2,x3⟩,⟨ka,kb,aD,aK,y1,y2,y3⟩,⟨ja,jb,rf,rh,z1,z2,z3⟩,x4⟩=>
  ⟨x1.any,⟨v,x2,x3.any⟩,⟨ka,kb,aD,aK,y1,y2,y3.any⟩,⟨ja,jb,rf,rh,z1,z2,z3.any⟩,x4.any⟩
theorem bC.free {w:World} {p:Bool} {o:Option (Nat→Prop)}:∀{l:aH} {b off k:Nat},bC w p o l b off k→bC w p none l b off k
 | .nil,_,_,_,_=>trivial
 | .cons h x body els rest,b,off,k,⟨x1,⟨v,x2,x3⟩,⟨ka,kb,aD,aK,y1,y2,y3⟩,⟨ja,jb,rf,rh,z1,z2,z3⟩,x4⟩=>
  ⟨x1,⟨v,x2,x3.free⟩,⟨ka,kb,aD,aK,y1,y2.imp (fun z=>⟨z.1,rfl⟩) (fun z=>⟨z.1,eP.any⟩),y3.free⟩,⟨ja,jb,rf,rh,z1,z2.imp (fun z=>⟨z.1,rfl⟩) (fun z=>⟨z.1,eP.any⟩),z3.free⟩,x4.free⟩
theorem dR.any {w:World} {p:Bool} {o:Option (Nat→Prop)} {l:aH} {v:Value} (h:dR w p o l v):dR w false o l v:=by
 obtain⟨ka,kb,aD,aK,rfl,y2,y3⟩:=h;exact⟨ka,kb,aD,aK,rfl,y2,y3.any⟩
theorem dR.free {w:World} {p:Bool} {o:Option (Nat→Prop)} {l:aH} {v:Value} (h:dR w p o l v):dR w p none l v:=by
 obtain⟨ka,kb,aD,aK,rfl,y2,y3⟩:=h;exact⟨ka,kb,aD,aK,rfl,y2.imp (fun z=>⟨z.1,rfl⟩) (fun z=>⟨z.1,eP.any⟩),y3.free⟩
/-! ### the same -/
end
section
abbrev qq (t:Int) (h:EH) (v:Value):Value:=.agg #[.int .i64 t,.int .u8 h.kind,.int .u32 h.word,.int .u8 h.type,.string h.name,.string h.sign,v]
theorem ri (w:World) (o o':Obj):Below w.heap.size w ((w.alloc o).alloc o'):=((Below.refl _ _).alloc (Nat.le_refl _) o).alloc (by simp) o'
theorem dR.shape {w:World} {p:Bool} {o:Option (Nat→Prop)} {l:aH} {v:Value} (h:dR w p o l v):∃a n c,v=.slice a n c:=by
 obtain⟨ka,kb,aD,aK,rfl,-⟩:=h;exact⟨_,_,_,rfl⟩
theorem zG {wr w2:World} {c1 c2:Array Value} {t1 t2:TypeId} (h:Below ((wr.alloc (.cells c1 t1)).alloc (.cells c2 t2)).heap.size ((wr.alloc (.cells c1 t1)).alloc (.cells c2 t2)) w2):
  (∀i,w2.cell? ⟨wr.heap.size,i,none⟩=c1[i]?)∧(∀i,w2.cell? ⟨wr.heap.size+1,i,none⟩=c2[i]?):=by
 refine⟨fun i=>?_,fun i=>?_⟩
 ·rw[h.cell (by simp;omega),World.cell?_alloc_past _ _ _ (by simp),World.cell?_alloc_at _ _ _ _ rfl]
 ·rw[h.cell (by simp),World.cell?_alloc_at _ _ _ _ (by simp)]
end
section
abbrev PW:=ByteArray×Int
def KG (w:World) (l:List PW) (b off:Nat):Prop:=∀i (h:i<l.length),w.cell? ⟨b,off+i*2,none⟩=some (.string l[i].1)∧w.cell? ⟨b,off+i*2+1,none⟩=some (.int .u8 l[i].2)
def wW (w:World) (l:List PW) (v:Value):Prop:=∃ka kb aD aK,v=.slice ka l.length aK∧(l.length=0∨ka=some ⟨kb,aD,none⟩)∧KG w l kb aD
theorem KG.mono {w w':World} {l:List PW} {b off:Nat} (h:KG w l b off) (hb:Below w.heap.size w w'):KG w' l b off:=fun i hi=>⟨ag (h i hi).1 hb,ag (h i hi).2 hb⟩
theorem wW.mono {w w':World} {l:List PW} {v:Value} (h:wW w l v) (hb:Below w.heap.size w w'):wW w' l v:=by
 obtain⟨ka,kb,aD,aK,rfl,y2,y3⟩:=h;exact⟨ka,kb,aD,aK,rfl,y2,y3.mono hb⟩
theorem wW.shape {w:World} {l:List PW} {v:Value} (h:wW w l v):∃a n c,v=.slice a n c:=by
 obtain⟨ka,kb,aD,aK,rfl,-⟩:=h;exact⟨_,_,_,rfl⟩
end
section
def ei {α:Type} (w:World) (o:Option (Nat→Prop)) (t:TypeId) (n:Nat) (R:α→Nat→Nat→Prop) (l:List α) (v:Value):Prop:=
 ∃ka kb aD aK,v=.slice ka l.length aK∧((l.length=0∧o=none)∨(ka=some ⟨kb,aD,none⟩∧eP w o t kb aD n l.length aK))∧∀i (h:i<l.length),R l[i] kb (aD+i*n)
theorem ei.mono {α:Type} {w w':World} {o:Option (Nat→Prop)} {t:TypeId} {n:Nat} {R R':α→Nat→Nat→Prop} {l:List α} {v:Value} (h:ei w o t n R l v) (hb:Below w.heap.size w w') (hR:∀a b q,R a b q→R' a b q):ei w' o t n R' l v:=by
 obtain⟨ka,kb,aD,aK,rfl,y2,y3⟩:=h;exact⟨ka,kb,aD,aK,rfl,y2.imp id (fun z=>⟨z.1,z.2.mono hb⟩),fun i hi=>hR _ _ _ (y3 i hi)⟩
theorem ei.free {α:Type} {w:World} {o:Option (Nat→Prop)} {t:TypeId} {n:Nat} {R R':α→Nat→Nat→Prop} {l:List α} {v:Value} (h:ei w o t n R l v) (hR:∀a b q,R a b q→R' a b q):ei w none t n R' l v:=by
 obtain⟨ka,kb,aD,aK,rfl,y2,y3⟩:=h;exact⟨ka,kb,aD,aK,rfl,y2.imp (fun z=>⟨z.1,rfl⟩) (fun z=>⟨z.1,eP.any⟩),fun i hi=>hR _ _ _ (y3 i hi)⟩
theorem ei.same {α:Type} {w:World} {o:Option (Nat→Prop)} {t:TypeId} {n:Nat} {R R':α→Nat→Nat→Prop} {l:List α} {v:Value} (h:ei w o t n R l v) (hR:∀a b q,R a b q→R' a b q):ei w o t n R' l v:=by
 obtain⟨ka,kb,aD,aK,rfl,y2,y3⟩:=h;exact⟨ka,kb,aD,aK,rfl,y2,fun i hi=>hR _ _ _ (y3 i hi)⟩
theorem ei.shape {α:Type} {w:World} {o:Option (Nat→Prop)} {t:TypeId} {n:Nat} {R:α→Nat→Nat→Prop} {l:List α} {v:Value} (h:ei w o t n R l v):∃a c,v=.slice a l.length c:=by
 obtain⟨ka,kb,aD,aK,rfl,-⟩:=h;exact⟨_,_,rfl⟩
structure lO (w:World) (a:PW) (b q:Nat):Prop where
 c0:w.cell? ⟨b,q,none⟩=some (.string a.1)
 c1:w.cell? ⟨b,q+1,none⟩=some (.int .u8 a.2)
theorem lO.mono {w w':World} {a:PW} {b q:Nat} (h:lO w a b q) (hb:Below w.heap.size w w'):lO w' a b q:=⟨ag h.c0 hb,ag h.c1 hb⟩
abbrev dE (w:World) (o:Option (Nat→Prop)) (l:List PW) (v:Value):Prop:=ei w o 46 2 (lO w) l v
theorem dE.plain {w:World} {o:Option (Nat→Prop)} {l:List PW} {v:Value} (h:dE w o l v):wW w l v:=by
 obtain⟨ka,kb,aD,aK,rfl,y2,y3⟩:=h;exact⟨ka,kb,aD,aK,rfl,y2.imp And.left (fun z=>z.1),fun i hi=>⟨(y3 i hi).c0,(y3 i hi).c1⟩⟩
structure GH where
 at_:Int
 name:ByteArray
 type:Int
 len:Int
 word:Int
structure ji (w:World) (p:Bool) (a:GH) (b q:Nat):Prop where
 c0:∃t,w.cell? ⟨b,q,none⟩=some (.int .i64 t)∧(p=true→t=a.at_)
 c1:w.cell? ⟨b,q+1,none⟩=some (.string a.name)
 c2:w.cell? ⟨b,q+2,none⟩=some (.int .u8 a.type)
 c3:w.cell? ⟨b,q+3,none⟩=some (.int .u32 a.len)
 c4:w.cell? ⟨b,q+4,none⟩=some (.int .u32 a.word)
theorem ji.mono {w w':World} {p:Bool} {a:GH} {b q:Nat} (h:ji w p a b q) (hb:Below w.heap.size w w'):ji w' p a b q:=by
 obtain⟨⟨t,y0,jQ⟩,y1,y2,y3,y4⟩:=h;exact⟨⟨t,ag y0 hb,jQ⟩,ag y1 hb,ag y2 hb,ag y3 hb,ag y4 hb⟩
theorem ji.any {w:World} {p:Bool} {a:GH} {b q:Nat} (h:ji w p a b q):ji w false a b q:=by
 obtain⟨⟨t,y0,jQ⟩,y1,y2,y3,y4⟩:=h;exact⟨⟨t,y0,fun e=>by cases e⟩,y1,y2,y3,y4⟩
structure HH where
 at_:Int
 name:ByteArray
 params:List PW
 type:Int
 number:Int
structure gM (w:World) (p:Bool) (o:Option (Nat→Prop)) (a:HH) (b q:Nat):Prop where
 c0:∃t,w.cell? ⟨b,q,none⟩=some (.int .i64 t)∧(p=true→t=a.at_)
 c1:w.cell? ⟨b,q+1,none⟩=some (.string a.name)
 c2:∃v,w.cell? ⟨b,q+2,none⟩=some v∧dE w o a.params v
 c3:w.cell? ⟨b,q+3,none⟩=some (.int .u8 a.type)
 c4:w.cell? ⟨b,q+4,none⟩=some (.int .u32 a.number)
theorem gM.mono {w w':World} {p:Bool} {o:Option (Nat→Prop)} {a:HH} {b q:Nat} (h:gM w p o a b q) (hb:Below w.heap.size w w'):gM w' p o a b q:=by
 obtain⟨⟨t,y0,jQ⟩,y1,⟨v,y2,lj⟩,y3,y4⟩:=h;exact⟨⟨t,ag y0 hb,jQ⟩,ag y1 hb,⟨v,ag y2 hb,lj.mono hb (fun _ _ _ h=>h.mono hb)⟩,ag y3 hb,ag y4 hb⟩
theorem gM.any {w:World} {p:Bool} {o:Option (Nat→Prop)} {a:HH} {b q:Nat} (h:gM w p o a b q):gM w false o a b q:=by
 obtain⟨⟨t,y0,jQ⟩,y1,y2,y3,y4⟩:=h;exact⟨⟨t,y0,fun e=>by cases e⟩,y1,y2,y3,y4⟩
theorem gM.free {w:World} {p:Bool} {o:Option (Nat→Prop)} {a:HH} {b q:Nat} (h:gM w p o a b q):gM w p none a b q:=by
 obtain⟨y0,y1,⟨v,y2,lj⟩,y3,y4⟩:=h;exact⟨y0,y1,⟨v,y2,lj.free (fun _ _ _ h=>h)⟩,y3,y4⟩
structure FH where
 at_:Int
 name:ByteArray
 params:List PW
 type:Int
 opn:Bool
 body:aH
structure gN (w:World) (p:Bool) (o:Option (Nat→Prop)) (a:FH) (b q:Nat):Prop where
 c0:∃t,w.cell? ⟨b,q,none⟩=some (.int .i64 t)∧(p=true→t=a.at_)
 c1:w.cell? ⟨b,q+1,none⟩=some (.string a.name)
 c2:∃v,w.cell? ⟨b,q+2,none⟩=some v∧dE w o a.params v
 c3:w.cell? ⟨b,q+3,none⟩=some (.int .u8 a.type)
 c4:w.cell? ⟨b,q+4,none⟩=some (.bool a.opn)
 c5:∃v,w.cell? ⟨b,q+5,none⟩=some v∧dR w p o a.body v
theorem gN.mono {w w':World} {p:Bool} {o:Option (Nat→Prop)} {a:FH} {b q:Nat} (h:gN w p o a b q) (hb:Below w.heap.size w w'):gN w' p o a b q:=by
 obtain⟨⟨t,y0,jQ⟩,y1,⟨v,y2,lj⟩,y3,y4,⟨x,y5,rj⟩⟩:=h;exact⟨⟨t,ag y0 hb,jQ⟩,ag y1 hb,⟨v,ag y2 hb,lj.mono hb (fun _ _ _ h=>h.mono hb)⟩,ag y3 hb,ag y4 hb,⟨x,ag y5 hb,rj.mono hb⟩⟩
theorem gN.any {w:World} {p:Bool} {o:Option (Nat→Prop)} {a:FH} {b q:Nat} (h:gN w p o a b q):gN w false o a b q:=by
 obtain⟨⟨t,y0,jQ⟩,y1,y2,y3,y4,⟨x,y5,rj⟩⟩:=h;exact⟨⟨t,y0,fun e=>by cases e⟩,y1,y2,y3,y4,⟨x,y5,rj.any⟩⟩
theorem gN.free {w:World} {p:Bool} {o:Option (Nat→Prop)} {a:FH} {b q:Nat} (h:gN w p o a b q):gN w p none a b q:=by
 obtain⟨y0,y1,⟨v,y2,lj⟩,y3,y4,⟨x,y5,rj⟩⟩:=h;exact⟨y0,y1,⟨v,y2,lj.free (fun _ _ _ h=>h)⟩,y3,y4,⟨x,y5,rj.free⟩⟩
structure UT where
 gs:List GH
 hs:List HH
 fs:List FH
abbrev N5 (w:World) (p:Bool) (o:Option (Nat→Prop)) (l:List GH) (v:Value):Prop:=ei w o 105 5 (ji w p) l v
abbrev N6 (w:World) (p:Bool) (o:Option (Nat→Prop)) (l:List HH) (v:Value):Prop:=ei w o 101 5 (gM w p o) l v
abbrev SG (w:World) (p:Bool) (o:Option (Nat→Prop)) (l:List FH) (v:Value):Prop:=ei w o 43 6 (gN w p o) l v
def jR (w:World) (p:Bool) (o:Option (Nat→Prop)) (u:UT) (v:Value):Prop:=
 ∃vg vh vf,v=.agg #[vg,vh,vf]∧N5 w p o u.gs vg∧N6 w p o u.hs vh∧SG w p o u.fs vf
theorem jR.mono {w w':World} {p:Bool} {o:Option (Nat→Prop)} {u:UT} {v:Value} (h:jR w p o u v) (hb:Below w.heap.size w w'):jR w' p o u v:=by
 obtain⟨vg,vh,vf,rfl,h1,h2,h3⟩:=h;exact⟨vg,vh,vf,rfl,h1.mono hb (fun _ _ _ h=>h.mono hb),h2.mono hb (fun _ _ _ h=>h.mono hb),h3.mono hb (fun _ _ _ h=>h.mono hb)⟩
theorem jR.any {w:World} {p:Bool} {o:Option (Nat→Prop)} {u:UT} {v:Value} (h:jR w p o u v):jR w false o u v:=by
 obtain⟨vg,vh,vf,rfl,h1,h2,h3⟩:=h;exact⟨vg,vh,vf,rfl,h1.same (fun _ _ _ h=>h.any),h2.same (fun _ _ _ h=>h.any),h3.same (fun _ _ _ h=>h.any)⟩
theorem jR.free {w:World} {p:Bool} {o:Option (Nat→Prop)} {u:UT} {v:Value} (h:jR w p o u v):jR w p none u v:=by
 obtain⟨vg,vh,vf,rfl,h1,h2,h3⟩:=h;exact⟨vg,vh,vf,rfl,h1.free (fun _ _ _ h=>h),h2.free (fun _ _ _ h=>h.free),h3.free (fun _ _ _ h=>h.free)⟩
structure UT.Ok (u:UT):Prop where
 g:u.gs.length≤100000000
 h:u.hs.length≤100000000
 f:u.fs.length≤100000000
 hp:∀x∈u.hs,x.params.length≤100000000
 fp:∀x∈u.fs,x.params.length≤100000000
 fb:∀x∈u.fs,x.body.sz≤100000000
/-! ### the same -/
/-! ### two units boxed -/
structure wX (w wr:World) (c c':Array Value):Prop where
 below:Below w.heap.size w wr
 a:∀i,wr.cell? ⟨w.heap.size,i,none⟩=c[i]?
 b:∀i,wr.cell? ⟨w.heap.size+1,i,none⟩=c'[i]?
 size:w.heap.size+2≤wr.heap.size
theorem wX.start (w:World) (c c':Array Value) (t t':TypeId):wX w ((w.alloc (.cells c t)).alloc (.cells c' t')) c c' where
 below:=ri _ _ _
 a:=(zG (Below.refl _ _)).1
 b:=(zG (Below.refl _ _)).2
 size:=by simp
theorem wX.step {w wr w':World} {c c':Array Value} (h:wX w wr c c') (hb:Below wr.heap.size wr w'):wX w w' c c' where
 below:=h.below.trans (hb.mono h.below.size)
 a:=fun i=>by rw[hb.cell (by have:=h.size;simp;omega)];exact h.a i
 b:=fun i=>by rw[hb.cell (by have:=h.size;simp;omega)];exact h.b i
 size:=by have:=h.size;have:=hb.size;omega
theorem wX.drew {w wr:World} {c c':Array Value} (h:wX w wr c c'):wX w wr.drew c c':=h.step (Below.refl _ _).drew
end
section
abbrev Scope:=List (ByteArray×Int)
def Dp (sc:Scope):List (ByteArray×Value):=sc.map fun x=>(x.1,Value.int .u8 x.2)
theorem di {α β:Type} (f:α→β) (s:ByteArray):∀l:List (ByteArray×α),getM s (l.map fun x=>(x.1,f x.2))=(getM s l).map f
 |[]=>rfl
 |x::r=>by
  rw[List.map_cons,cO,cO,di f s r];split<;>rfl
theorem dA {α β:Type} (f:α→β) (s:ByteArray) (v:α):∀l:List (ByteArray×α),aY s (f v) (l.map fun x=>(x.1,f x.2))=(aY s v l).map fun x=>(x.1,f x.2)
 |[]=>rfl
 |x::r=>by
  simp only[List.map_cons,aY,dA f s v r];split<;>simp
def ez (s:ByteArray) (ss:List Scope):Option Int:=ss.foldl (fun a sc=>match getM s sc with|some t=>some t|none=>a) none
theorem zH {s:ByteArray} {ss:List Scope} {k:Nat} (h:k<ss.length):ez s (ss.take (k+1))=match getM s ss[k] with|some t=>some t|none=>ez s (ss.take k):=by
 unfold ez;rw[List.take_add_one,List.getElem?_eq_getElem h];simp only[Option.toList_some,List.foldl_append,List.foldl_cons,List.foldl_nil]
structure TI (w:World) (g:Nat) (ms:List Nat) (ss:List Scope):Prop where
 cells:∀i (h:i<ms.length),w.cell? ⟨g,i,none⟩=some (.map (some ms[i]))
 len:ms.length=ss.length
 maps:∀i (h:i<ms.length) (h2:i<ss.length),Mp w ms[i] (Dp ss[i])
theorem nk:Tryz.prog.underlying 194=some (.map 9 40):=by kernel_rfl
theorem bm:Tryz.prog.underlying 9=some .string:=by kernel_rfl
theorem F4 (w:World):(zeroValue 40).run Tryz.prog w=.ok (.int .u8 0) w:=by kernel_rfl
theorem uU (s:ByteArray) (g cap:Nat) (ms:List Nat) (ss:List Scope) (w:World) (h:TI w g ms ss) (hlen:ss.length≤100000000):
  Calls Tryz.prog 170 #[.slice (some ⟨g,0,none⟩) ss.length cap,.string s] w fun e w'=>e=.returned (.tuple #[.int .u8 ((ez s ss).getD 0),.bool (ez s ss).isSome])∧w'=w:=by
 have hH:=af h;obtain⟨n,hn⟩:∃n,n=ss.length:=⟨_,rfl⟩;have hN:=af hn;rw[←hn] at hlen⊢;clear h hn;go_enter Tryz.func170,Tryz.ntmps170;go_wp2_with fail
 go_loopw [6] (fun y wr=>∃k:Nat,y=.int .i64 ((k:Int) -1)∧k≤n∧ez s (ss.take k)=ez s ss∧wr=w) (fun y _=>(intOf y+1).toNat)
 case atStart=>exact⟨n,rfl,Nat.le_refl _,by rw[hN.out,List.take_length],rfl⟩
 case round=>
  obtain⟨k,rfl,hk,Ga,hw⟩:=hrel;subst wr;have hS:=af Ga;clear Ga;by_cases gJ:k=0
  ·subst k;have hz:=af (show ez s ss=none by rw[←hS.out];rfl);clear hS;go_wp2_with fail
   go_ret2;rw[hz.out];exact⟨rfl,rfl⟩
  ·obtain⟨k,rfl⟩:∃j,k=j+1:=⟨k-1,by omega⟩;have kt:k<ss.length:=by have:=hN.out;omega
   have hl2:k<ms.length:=by have:=hH.len;omega
   have hc:=hH.cells k hl2;have hlk:=(hH.maps k hl2 kt).lookup nk bm s (.int .u8 0) (F4 w) true;have hst:=af (zH (s:=s) kt);rw[Dp,di (Value.int .u8)] at hlk;generalize ms[k]=m at hc hlk;cases hg:getM s ss[k] with
   |none=>
    rw[hg] at hst hlk;simp only[Option.map_none,Option.getD_none,Option.isSome_none,if_true] at hlk;go_wp2_with fail
    exact⟨⟨k,rfl,by omega,by rw[←hS.out,hst.out],trivial⟩,by simp only[intOf];omega⟩
   |some t=>
    rw[hg] at hst hlk;simp only[Option.map_some,Option.getD_some,Option.isSome_some,if_true] at hlk;go_wp2_with fail
    go_ret2;rw[←hS.out,hst.out];exact⟨rfl,rfl⟩
/-! ### the names of a unit -/
structure eE where
 params:List PW
 type:Int
 host:Int
 fn:Int
def eQ (vs:List (ByteArray×(Int×Int))) (cs:List (ByteArray×eE)) (s:ByteArray):Bool:=(getM s vs).isSome||(getM s cs).isSome
def qs (w:World) (g:eE) (v:Value):Prop:=∃pv,v=.agg #[pv,.int .u8 g.type,.int .i64 g.host,.int .i64 g.fn]∧wW w g.params pv
theorem qs.mono {w w':World} {g:eE} {v:Value} (h:qs w g v) (hb:Below w.heap.size w w'):qs w' g v:=by
 obtain⟨pv,rfl,h2⟩:=h;exact⟨pv,rfl,h2.mono hb⟩
abbrev tG (x:Int×Int):Value:=.agg #[.int .u8 x.1,.int .u32 x.2]
inductive ie (w:World):List (ByteArray×eE)→List (ByteArray×Value)→Prop where
 |nil:ie w [] []
 |cons {s:ByteArray} {g:eE} {v:Value} {r:List (ByteArray×eE)} {l:List (ByteArray×Value)} (h:qs w g v) (t:ie w r l):ie w ((s,g)::r) ((s,v)::l)
theorem ie.mono {w w':World} {r:List (ByteArray×eE)} {l:List (ByteArray×Value)} (h:ie w r l) (hb:Below w.heap.size w w'):ie w' r l:=by
 induction h with
 |nil=>exact .nil
 |cons h _ ih=>exact .cons (h.mono hb) ih
theorem ie.get {w:World} {r:List (ByteArray×eE)} {l:List (ByteArray×Value)} (h:ie w r l) (s:ByteArray):(getM s r=none∧getM s l=none)∨∃g v,getM s r=some g∧getM s l=some v∧qs w g v:=by
 induction h with
 |nil=>exact .inl ⟨rfl,rfl⟩
 | @cons s0 g v r l h1 _ ih=>
  rw[cO,cO];split
  ·exact .inr ⟨g,v,rfl,rfl,h1⟩
  ·exact ih
theorem ie.put {w:World} {r:List (ByteArray×eE)} {l:List (ByteArray×Value)} (h:ie w r l) (s:ByteArray) {g:eE} {v:Value} (hg:qs w g v):ie w (aY s g r) (aY s v l):=by
 induction h with
 |nil=>exact .cons hg .nil
 | @cons s0 g0 v0 r l h1 ht ih=>
  simp only[aY];split
  ·exact .cons hg ht
  ·exact .cons h1 ih
structure pH (w:World) (vs:List (ByteArray×(Int×Int))) (cs:List (ByteArray×eE)) (vb cb:Nat):Prop where
 vars:Mp w vb (vs.map fun x=>(x.1,tG x.2))
 calls:∃l,Mp w cb l∧ie w cs l
theorem Mp.mono {w w':World} {b:Nat} {l:List (ByteArray×Value)} (h:Mp w b l) (hb:Below w.heap.size w w'):Mp w' b l:=by
 obtain⟨es,c,h1,h2⟩:=h;exact⟨es,c,(hb.block b (lt_of_block h1)).trans h1,h2⟩
theorem pH.mono {w w':World} {vs:List (ByteArray×(Int×Int))} {cs:List (ByteArray×eE)} {vb cb:Nat} (h:pH w vs cs vb cb) (hb:Below w.heap.size w w'):pH w' vs cs vb cb:=by
 obtain⟨h1,l,h2,h3⟩:=h;exact⟨h1.mono hb,l,h2.mono hb,h3.mono hb⟩
theorem nt:Tryz.prog.underlying 88=some (.map 9 155):=by kernel_rfl
theorem jW:Tryz.prog.underlying 89=some (.map 9 114):=by kernel_rfl
theorem qD (w:World):(zeroValue 155).run Tryz.prog w=.ok (.agg #[.int .u8 0,.int .u32 0]) w:=by kernel_rfl
theorem nv (w:World):(zeroValue 114).run Tryz.prog w=.ok (.agg #[.slice none 0 0,.int .u8 0,.int .i64 0,.int .i64 0]) w:=by kernel_rfl
theorem pH.var {w:World} {vs:List (ByteArray×(Int×Int))} {cs:List (ByteArray×eE)} {vb cb:Nat} (h:pH w vs cs vb cb) (s:ByteArray):
  (getM s vs=none∧(Instr.lookup 88 (.map (some vb)) (.string s) true).run Tryz.prog w=.ok (.tuple #[.agg #[.int .u8 0,.int .u32 0],.bool false]) w)∨
  ∃t n,getM s vs=some (t,n)∧(Instr.lookup 88 (.map (some vb)) (.string s) true).run Tryz.prog w=.ok (.tuple #[.agg #[.int .u8 t,.int .u32 n],.bool true]) w:=by
 have hl:=h.vars.lookup nt bm s _ (qD w) true;rw[di tG] at hl;cases hg:getM s vs with
 |none=>rw[hg] at hl;exact .inl ⟨rfl,hl⟩
 |some x=>rw[hg] at hl;obtain⟨t,n⟩:=x;exact .inr ⟨t,n,rfl,hl⟩
theorem pH.call {w:World} {vs:List (ByteArray×(Int×Int))} {cs:List (ByteArray×eE)} {vb cb:Nat} (h:pH w vs cs vb cb) (s:ByteArray):
  (getM s cs=none∧(Instr.lookup 89 (.map (some cb)) (.string s) true).run Tryz.prog w=.ok (.tuple #[.agg #[.slice none 0 0,.int .u8 0,.int .i64 0,.int .i64 0],.bool false]) w)∨
  ∃g ka kc,getM s cs=some g∧wW w g.params (.slice ka g.params.length kc)∧(Instr.lookup 89 (.map (some cb)) (.string s) true).run Tryz.prog w=.ok (.tuple #[.agg #[.slice ka g.params.length kc,.int .u8 g.type,.int .i64 g.host,.int .i64 g.fn],.bool true]) w:=by
 obtain⟨l,h2,h3⟩:=h.calls;have hl:=h2.lookup jW bm s _ (nv w) true;rcases h3.get s with⟨e1,e2⟩|⟨g,v,e1,e2,pv,rfl,h5⟩
 ·rw[e2] at hl;exact .inl ⟨e1,hl⟩
 ·rw[e2] at hl;have h6:=h5;obtain⟨ka,kb,aD,kc,rfl,-⟩:=h6;exact .inr ⟨g,ka,kc,e1,h5,hl⟩
end
section
theorem pH.ZF {w:World} {vs:List (ByteArray×(Int×Int))} {cs:List (ByteArray×eE)} {vb cb:Nat} (h:pH w vs cs vb cb) (o:Obj):pH (w.alloc o) vs cs vb cb:=h.mono ((Below.refl w.heap.size w).alloc (Nat.le_refl _) o)
abbrev nw (e:Int):Ending:=.panicked [{v:=.iface 238 (.agg #[.int .i64 e]),recovered:=false}]
def TJ {α:Type} (f:α→Value):Except Int α→Ending
 | .ok a=>.returned (f a)
 | .error e=>nw e
abbrev outT:Except Int Int→Ending:=TJ fun t=>.int .u8 t
abbrev ZG:Except Int Unit→Ending:=TJ fun _=>.tuple #[]
theorem ar {P:Program} {f:Func} {R:Ending→World→Prop} {ch:List PanicEntry} {t:Array Value} {w:World} (h:R (.panicked ch) w):bodyPost P f R (.panic ch) {tmps:=t,defers:=[]} w:=⟨rfl,h⟩
theorem fG (e:Int) (w:World):Calls Tryz.prog 146 #[.bool true,.int .i64 e] w fun x w'=>x=.returned (.tuple #[])∧w'=w:=by
 go_enter Tryz.func146,Tryz.ntmps146
 go_wp2
 go_end0;exact⟨rfl,rfl⟩
theorem eA (e:Int) (w:World):Calls Tryz.prog 146 #[.bool false,.int .i64 e] w fun x w'=>x=nw e∧w'=w:=by
 go_enter Tryz.func146,Tryz.ntmps146
 go_wp2
 exact⟨rfl,rfl,rfl⟩
theorem wY (s:ByteArray) (vs:List (ByteArray×(Int×Int))) (cs:List (ByteArray×eE)) (vb cb:Nat) (w:World) (h:pH w vs cs vb cb):
  Calls Tryz.prog 73 #[.agg #[.map (some vb),.map (some cb)],.string s] w fun e w'=>e=.returned (.bool (eQ vs cs s))∧Below w.heap.size w w':=by
 have h1:=h.ZF (.cells #[.map (some vb),.map (some cb)] 91);rcases h1.var s with⟨e1,l1⟩|⟨t,n,e1,l1⟩
 ·have h2:=h1.ZF (.cells #[.int .u8 0,.int .u32 0] 155);rcases h2.call s with⟨e2,l2⟩|⟨g,ka,kc,e2,-,l2⟩
  ·have hh:=af (show eQ vs cs s=false by unfold eQ;rw[e1,e2];rfl);clear h h1 h2 e1 e2;go_enter Tryz.func73,Tryz.ntmps73;go_wp2_with fail
   go_ret;rw[hh.out];exact⟨rfl,by(repeat(first|exact Below.refl _ _|refine Below.drew ?_ |refine Below.alloc ?_ (by simp<;>omega) _))⟩
  ·have hh:=af (show eQ vs cs s=true by unfold eQ;rw[e1,e2];rfl);clear h h1 h2 e1 e2;go_enter Tryz.func73,Tryz.ntmps73;go_wp2_with fail
   go_ret;rw[hh.out];exact⟨rfl,by(repeat(first|exact Below.refl _ _|refine Below.drew ?_ |refine Below.alloc ?_ (by simp<;>omega) _))⟩
 ·have h2:=h1.ZF (.cells #[.int .u8 t,.int .u32 n] 155);rcases h2.call s with⟨e2,l2⟩|⟨g,ka,kc,e2,-,l2⟩
  ·have hh:=af (show eQ vs cs s=true by unfold eQ;rw[e1,e2];rfl);clear h h1 h2 e1 e2;go_enter Tryz.func73,Tryz.ntmps73;go_wp2_with fail
   go_ret;rw[hh.out];exact⟨rfl,by(repeat(first|exact Below.refl _ _|refine Below.drew ?_ |refine Below.alloc ?_ (by simp<;>omega) _))⟩
  ·have hh:=af (show eQ vs cs s=true by unfold eQ;rw[e1,e2];rfl);clear h h1 h2 e1 e2;go_enter Tryz.func73,Tryz.ntmps73;go_wp2_with fail
   go_ret;rw[hh.out];exact⟨rfl,by(repeat(first|exact Below.refl _ _|refine Below.drew ?_ |refine Below.alloc ?_ (by simp<;>omega) _))⟩
structure N7 (w:World) (vs:List (ByteArray×(Int×Int))) (cs:List (ByteArray×eE)) (C:Nat) (ss:List Scope) (vb cb g cap:Nat) (ms:List Nat):Prop where
 c0:w.cell? ⟨C,0,none⟩=some (.map (some vb))
 c1:w.cell? ⟨C,1,none⟩=some (.map (some cb))
 c2:w.cell? ⟨C,2,none⟩=some (.slice (some ⟨g,0,none⟩) ss.length cap)
 nm:pH w vs cs vb cb
 sc:TI w g ms ss
 le:ss.length≤100000000
theorem TI.mono {w w':World} {g:Nat} {ms:List Nat} {ss:List Scope} (h:TI w g ms ss) (hb:Below w.heap.size w w'):TI w' g ms ss:=
 ⟨fun i hi=>ag (h.cells i hi) hb,h.len,fun i h1 h2=>(h.maps i h1 h2).mono hb⟩
theorem N7.mono {w w':World} {vs:List (ByteArray×(Int×Int))} {cs:List (ByteArray×eE)} {C:Nat} {ss:List Scope} {vb cb g cap:Nat} {ms:List Nat} (h:N7 w vs cs C ss vb cb g cap ms) (hb:Below w.heap.size w w'):N7 w' vs cs C ss vb cb g cap ms:=
 ⟨ag h.c0 hb,ag h.c1 hb,ag h.c2 hb,h.nm.mono hb,h.sc.mono hb,h.le⟩
def gi (vs:List (ByteArray×(Int×Int))) (ss:List Scope) (s:ByteArray):Except Int Int:=
 match ez s ss with
 |some t=>.ok t
 |none=>match getM s vs with
  |some (t,n)=>if n=0 then .ok t else .error 291
  |none=>.error 291
def gj (vs:List (ByteArray×(Int×Int))) (ss:List Scope) (s:ByteArray):Except Int Int:=
 match getM s vs with
 |some (t,n)=>if ez s ss=none∧0<n then .ok t else .error 291
 |none=>.error 291
theorem kI (s:ByteArray) (vs:List (ByteArray×(Int×Int))) (cs:List (ByteArray×eE)) (C:Nat) (ss:List Scope) (vb cb g cap:Nat) (ms:List Nat) (w:World) (h:N7 w vs cs C ss vb cb g cap ms):
  Calls Tryz.prog 171 #[.pointer (some ⟨C,0,none⟩),.string s] w fun e w'=>e=outT (gi vs ss s)∧Below w.heap.size w w':=by
 have c0:=h.c0;have c2:=h.c2;have lq:=af (uU s g cap ms ss w h.sc h.le);have HV:=af (h.nm.var s);have HH:=af h;clear h;cases hs:ez s ss with
 |some t=>
  have hh:=af (show gi vs ss s=.ok t by unfold gi;rw[hs]);rw[hs] at lq;go_enter Tryz.func171,Tryz.ntmps171;go_wp2_with fail
  refine lq.mono ?_;rintro e w2 ⟨rfl,hw⟩;subst w2;clear lq;go_wp2_with fail
  go_ret;rw[hh.out];exact⟨rfl,Below.refl _ _⟩
 | none=>
  rw[hs] at lq;have c0':=af c0;rcases HV.out with⟨e1,l1⟩|⟨t,n,e1,l1⟩
  ·have hh:=af (show gi vs ss s=.error 291 by unfold gi;rw[hs,e1]);have c5:=af (eA 291 (w.alloc (.cells #[.int .u8 0,.int .u32 0] 155)));clear HV e1;go_enter Tryz.func171,Tryz.ntmps171;go_wp2_with fail
   refine lq.mono ?_;rintro e w2 ⟨rfl,hw⟩;subst w2;clear lq;go_wp2_with fail
   (try(first|rw[show(n==0)=false by simpa using hn]|rw[show decide (n>0)=true by simpa using hn]|rw[show decide (n>0)=false by simpa using hn]));refine c5.mono ?_
   rintro e w2 ⟨rfl,hw⟩;subst w2;clear c5;go_wp2_with fail
   refine ar ?_;rw[hh.out];exact⟨rfl,by(repeat(first|exact Below.refl _ _|refine Below.drew ?_ |refine Below.alloc ?_ (by simp<;>omega) _))⟩
  ·by_cases hn:n=0
   ·subst n;have hh:=af (show gi vs ss s=.ok t by unfold gi;rw[hs,e1];simp);have c5:=af (fG 291 (w.alloc (.cells #[.int .u8 t,.int .u32 0] 155)));clear HV e1;go_enter Tryz.func171,Tryz.ntmps171;go_wp2_with fail
    refine lq.mono ?_;rintro e w2 ⟨rfl,hw⟩;subst w2;clear lq;go_wp2_with fail
    (try(first|rw[show(n==0)=false by simpa using hn]|rw[show decide (n>0)=true by simpa using hn]|rw[show decide (n>0)=false by simpa using hn]));refine c5.mono ?_
    rintro e w2 ⟨rfl,hw⟩;subst w2;clear c5;go_wp2_with fail
    go_ret;rw[hh.out];exact⟨rfl,by(repeat(first|exact Below.refl _ _|refine Below.drew ?_ |refine Below.alloc ?_ (by simp<;>omega) _))⟩
   ·have hh:=af (show gi vs ss s=.error 291 by unfold gi;rw[hs,e1];simp[hn]);have c5:=af (eA 291 (w.alloc (.cells #[.int .u8 t,.int .u32 n] 155)));clear HV e1;go_enter Tryz.func171,Tryz.ntmps171;go_wp2_with fail
    refine lq.mono ?_;rintro e w2 ⟨rfl,hw⟩;subst w2;clear lq;go_wp2_with fail
    (try(first|rw[show(n==0)=false by simpa using hn]|rw[show decide (n>0)=true by simpa using hn]|rw[show decide (n>0)=false by simpa using hn]));refine c5.mono ?_
    rintro e w2 ⟨rfl,hw⟩;subst w2;clear c5;go_wp2_with fail
    refine ar ?_;rw[hh.out];exact⟨rfl,by(repeat(first|exact Below.refl _ _|refine Below.drew ?_ |refine Below.alloc ?_ (by simp<;>omega) _))⟩
theorem rk (s:ByteArray) (vs:List (ByteArray×(Int×Int))) (cs:List (ByteArray×eE)) (C:Nat) (ss:List Scope) (vb cb g cap:Nat) (ms:List Nat) (w:World) (h:N7 w vs cs C ss vb cb g cap ms):
  Calls Tryz.prog 173 #[.pointer (some ⟨C,0,none⟩),.string s] w fun e w'=>e=outT (gj vs ss s)∧Below w.heap.size w w':=by
 have c0:=h.c0;have c2:=h.c2;have lq:=af (uU s g cap ms ss w h.sc h.le);have HV:=af (h.nm.var s);clear h;rcases HV.out with⟨e1,l1⟩|⟨t,n,e1,l1⟩
 ·cases hs:ez s ss with
  |none=>
   rw[hs] at lq;have hh:=af (show gj vs ss s=.error 291 by simp[gj,e1,hs]);have c5:=af (eA 291 (w.alloc (.cells #[.int .u8 0,.int .u32 0] 155)));clear HV e1;go_enter Tryz.func173,Tryz.ntmps173;go_wp2_with fail
   refine lq.mono ?_;rintro e w2 ⟨rfl,hw⟩;subst w2;clear lq;go_wp2_with fail
   (try(first|rw[show(n==0)=false by simpa using hn]|rw[show decide (n>0)=true by simpa using hn]|rw[show decide (n>0)=false by simpa using hn]));refine c5.mono ?_
   rintro e w2 ⟨rfl,hw⟩;subst w2;clear c5;go_wp2_with fail
   refine ar ?_;rw[hh.out];exact⟨rfl,by(repeat(first|exact Below.refl _ _|refine Below.drew ?_ |refine Below.alloc ?_ (by simp<;>omega) _))⟩
  |some t0=>
   rw[hs] at lq;have hh:=af (show gj vs ss s=.error 291 by simp[gj,e1,hs]);have c5:=af (eA 291 (w.alloc (.cells #[.int .u8 0,.int .u32 0] 155)));clear HV e1;go_enter Tryz.func173,Tryz.ntmps173;go_wp2_with fail
   refine lq.mono ?_;rintro e w2 ⟨rfl,hw⟩;subst w2;clear lq;go_wp2_with fail
   (try(first|rw[show(n==0)=false by simpa using hn]|rw[show decide (n>0)=true by simpa using hn]|rw[show decide (n>0)=false by simpa using hn]));refine c5.mono ?_
   rintro e w2 ⟨rfl,hw⟩;subst w2;clear c5;go_wp2_with fail
   refine ar ?_;rw[hh.out];exact⟨rfl,by(repeat(first|exact Below.refl _ _|refine Below.drew ?_ |refine Below.alloc ?_ (by simp<;>omega) _))⟩
 ·cases hs:ez s ss with
  | none=>
   rw[hs] at lq;by_cases hn:0<n
   ·have hh:=af (show gj vs ss s=.ok t by simp[gj,e1,hs,hn]);have c5:=af (fG 291 (w.alloc (.cells #[.int .u8 t,.int .u32 n] 155)));clear HV e1;go_enter Tryz.func173,Tryz.ntmps173;go_wp2_with fail
    refine lq.mono ?_;rintro e w2 ⟨rfl,hw⟩;subst w2;clear lq;go_wp2_with fail
    (try(first|rw[show(n==0)=false by simpa using hn]|rw[show decide (n>0)=true by simpa using hn]|rw[show decide (n>0)=false by simpa using hn]));refine c5.mono ?_
    rintro e w2 ⟨rfl,hw⟩;subst w2;clear c5;go_wp2_with fail
    go_ret;rw[hh.out];exact⟨rfl,by(repeat(first|exact Below.refl _ _|refine Below.drew ?_ |refine Below.alloc ?_ (by simp<;>omega) _))⟩
   ·have hh:=af (show gj vs ss s=.error 291 by simp[gj,e1,hs,hn]);have c5:=af (eA 291 (w.alloc (.cells #[.int .u8 t,.int .u32 n] 155)));clear HV e1;go_enter Tryz.func173,Tryz.ntmps173;go_wp2_with fail
    refine lq.mono ?_;rintro e w2 ⟨rfl,hw⟩;subst w2;clear lq;go_wp2_with fail
    (try(first|rw[show(n==0)=false by simpa using hn]|rw[show decide (n>0)=true by simpa using hn]|rw[show decide (n>0)=false by simpa using hn]));refine c5.mono ?_
    rintro e w2 ⟨rfl,hw⟩;subst w2;clear c5;go_wp2_with fail
    refine ar ?_;rw[hh.out];exact⟨rfl,by(repeat(first|exact Below.refl _ _|refine Below.drew ?_ |refine Below.alloc ?_ (by simp<;>omega) _))⟩
  |some t0=>
   rw[hs] at lq;have hh:=af (show gj vs ss s=.error 291 by simp[gj,e1,hs]);have c5:=af (eA 291 (w.alloc (.cells #[.int .u8 t,.int .u32 n] 155)));clear HV e1;go_enter Tryz.func173,Tryz.ntmps173;go_wp2_with fail
   refine lq.mono ?_;rintro e w2 ⟨rfl,hw⟩;subst w2;clear lq;go_wp2_with fail
   (try(first|rw[show(n==0)=false by simpa using hn]|rw[show decide (n>0)=true by simpa using hn]|rw[show decide (n>0)=false by simpa using hn]));refine c5.mono ?_
   rintro e w2 ⟨rfl,hw⟩;subst w2;clear c5;go_wp2_with fail
   refine ar ?_;rw[hh.out];exact⟨rfl,by(repeat(first|exact Below.refl _ _|refine Below.drew ?_ |refine Below.alloc ?_ (by simp<;>omega) _))⟩
end
section
theorem Pp (c:Nat) (hc:c<256) (w:World):Calls Tryz.prog 329 #[.int .u8 c] w fun e w'=>(∃d:Int,e=.returned (.int .i32 d))∧w'=w:=by
 go_enter Tryz.func329,Tryz.ntmps329;go_wp2_with fail
 all_goals
  go_ret;exact⟨⟨_,rfl⟩,rfl⟩
def Num (s:ByteArray) (n:Nat) (w:World) (e:Ending) (w':World):Prop:=(∃(x:Int) (b:Bool),e=.returned (.tuple #[.int .i32 x,.bool b])∧(b=true→n≤s.size))∧w'=w
theorem Dq (s:ByteArray) (n:Nat) (w:World) (hs:s.size≤1048576) (hn:n≤8):Calls Tryz.prog 322 #[.string s,.int .i64 n] w (Num s n w):=by
 go_enter Tryz.func322,Tryz.ntmps322;by_cases hl:s.size<n
 ·go_wp2_with fail
  go_ret2;exact⟨⟨_,_,rfl,fun h=>by cases h⟩,rfl⟩
 ·go_wp2_with fail
  go_loopw [6,14] (fun x i wr=>∃(k:Nat) (y:Int),x=.int .i32 y∧k≤n∧i=.int .i64 k∧wr=w) (fun _ i _=>n- (intOf i).toNat)
  case atStart=>exact⟨0,0,rfl,Nat.zero_le _,rfl,rfl⟩
  case round=>
   obtain⟨k,y,rfl,hk,rfl,rfl⟩:=hrel;by_cases Ym:k<n
   ·have bT:=Pp (s[k]'(by omega)).toNat (s[k]'(by omega)).toNat_lt wr;go_wp2_with fail
    refine bT.mono ?_;rintro e w2 ⟨⟨d,rfl⟩,rfl⟩;go_wp2_with fail
    ·go_ret2;exact⟨⟨_,_,rfl,fun h=>by cases h⟩,rfl⟩
    ·go_roundw
     case rel=>exact⟨k+1,_,rfl,by omega,by go_num,trivial⟩
     case measure=>simp[intOf];omega
   ·obtain rfl:k=n:=by omega
    go_wp2_with fail
    go_ret2;exact⟨⟨_,_,rfl,fun _=>by omega⟩,rfl⟩
theorem zI (s:ByteArray) (x:Int) (w:World) (hs:s.size≤1048576) (hx:0≤x∧x≤8):Calls Tryz.prog 322 #[.string s,.int .i64 x] w (Num s x.toNat w):=by
 obtain⟨n,rfl⟩:∃n:Nat,x=n:=⟨x.toNat,by omega⟩;exact Dq s n w hs (by omega)
def iT (r:Int):Int:=if r<0 then -1 else if r≤127 then 1 else if r≤2047 then 2 else if 55296≤r∧r≤57343 then -1 else if r≤65535 then 3 else if r≤1114111 then 4 else -1
theorem zJ (r:Int) (w:World):Calls Tryz.prog 298 #[.int .i32 r] w fun e w'=>e=.returned (.int .i64 (iT r))∧w'=w:=by
 go_enter Tryz.func298,Tryz.ntmps298;go_wp2_with fail
 all_goals
  go_ret;exact⟨fy (by unfold iT;repeat' split;all_goals omega),rfl⟩
def Esc (s:ByteArray) (w:World) (e:Ending) (w':World):Prop:=
 (∃(c:Int) (b:Bool) (sz:Int) (ok:Bool),e=.returned (.tuple #[.agg #[.int .i32 c,.bool b,.int .i64 sz],.bool ok])∧(ok=true→2≤sz∧sz≤s.size∧sz≤6))∧Below w.heap.size w w'
theorem Dr (s:ByteArray) (w:World) (hs:s.size≤1048576):Calls Tryz.prog 297 #[.string s] w (Esc s w):=by
  have hB:∀o,Below w.heap.size w (w.alloc o):=fun o=>(Below.refl _ _).alloc (Nat.le_refl _) o
  by_cases hl:s.size<2
  · go_enter Tryz.func297,Tryz.ntmps297
    go_wp2_with fail
    refine⟨rfl,?_⟩;simp[results,Tryz.results297,go_sem];exact⟨⟨_,_,_,_,rfl,fun h=>by cases h⟩,hB _⟩
  · go_enter Tryz.func297,Tryz.ntmps297
    go_wp2_with (go_at_call 322;refine(zI _ _ _ (by simp;omega) (by omega)).mono ?_;rintro e w2 ⟨⟨x,b,rfl,hb⟩,rfl⟩)
    all_goals
      refine⟨rfl,?_⟩;simp[results,Tryz.results297,go_sem];refine⟨⟨_,_,_,_,rfl,fun hh=>?_⟩,hB _⟩
      first
        |omega
        |(simp at hh;done)
        | (have oO:=hb rfl
           simp at oO;omega)
        | (have oO:=hb (by assumption)
           simp at oO;omega)
end
end Go.Proofs.YtlabadkfkbenoaaGreatDoor
