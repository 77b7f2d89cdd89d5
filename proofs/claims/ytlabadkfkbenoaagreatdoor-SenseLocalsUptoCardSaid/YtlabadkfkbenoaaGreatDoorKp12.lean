/- Walks and plain laws, merged: AluG EvlI IntA IntB IntM IntC EvlR WorA IntD IntE IntF. No condition. -/
import Derived.Test.YtlabadkfkbenoaaGreatDoorKp11
import Derived.Test.YtlabadkfkbenoaaGreatDoorKp08
import Derived.Test.YtlabadkfkbenoaaGreatDoorKp10
import Derived.Test.YtlabadkfkbenoaaGreatDoorKp01
import Derived.Laws.FloatBits
namespace Go.Proofs.YtlabadkfkbenoaaGreatDoor
open Go.RowKit
set_option linter.unusedVariables false
set_option linter.unusedSimpArgs false
set_option maxRecDepth 100000
set_option maxHeartbeats 64000000
section
abbrev cX (x:Int×Int):Value:=.agg #[.int .u8 x.1,.int .u8 x.2]
theorem cU:Tryz.prog.underlying 270=some (.map 9 269):=by kernel_rfl
theorem yq {α:Type} (s:ByteArray):∀(l:List (ByteArray×α)) (v:α),getM s l=some v→∃k,(k,v)∈l
 |[],v,h=>by cases h
 | x::l,v,h=>by
  rw[cO] at h;split at h
  ·cases h;exact⟨x.1,by simp⟩
  ·obtain⟨k,hk⟩:=yq s l v h;exact⟨k,by simp[hk]⟩
theorem Mr (w:World):(zeroValue 269).run Tryz.prog w=.ok (.agg #[.int .u8 0,.int .u8 0]) w:=by kernel_rfl
theorem QS:(aY ⟨#[62,61]⟩ (cX (18,28)) (aY ⟨#[62]⟩ (cX (17,27)) (aY ⟨#[60,61]⟩ (cX (16,26)) (aY ⟨#[60]⟩ (cX (15,25)) (aY ⟨#[33,61]⟩ (cX (14,24)) (aY ⟨#[61,61]⟩ (cX (13,23)) (aY ⟨#[62,62]⟩ (cX (51,0)) (aY ⟨#[60,60]⟩ (cX (50,0)) (aY ⟨#[94]⟩ (cX (48,0)) (aY ⟨#[124]⟩ (cX (47,0)) (aY ⟨#[38]⟩ (cX (46,0)) (aY ⟨#[37]⟩ (cX (44,0)) (aY ⟨#[47]⟩ (cX (42,57)) (aY ⟨#[42]⟩ (cX (41,56)) (aY ⟨#[45]⟩ (cX (40,55)) (aY ⟨#[43]⟩ (cX (39,54)) ([]:List (ByteArray×Value))))))))))))))))))=Qn.map (fun x=>(x.1,cX x.2)):=by rfl
theorem QT (s:ByteArray) (w:World):Calls Tryz.prog 143 #[.string s] w fun e w'=>e=.returned (.tuple #[.int .u8 (opsOf s).1,.int .u8 (opsOf s).2])∧Below w.heap.size w w':=by
 obtain⟨w0,hw0⟩:∃x:World,x=w.alloc (.map #[] 0):=⟨_,rfl⟩;have D6:(Instr.makeMap 270 none).run Tryz.prog w=.ok (.map (some w.heap.size)) w0:=by rw[hw0];exact run_makeMap 270 w
 have m0:Mp w0 w.heap.size []:=by rw[hw0];exact Mp.new w
 have b0:Below w.heap.size w w0:=by rw[hw0];exact(Below.refl _ w).alloc (Nat.le_refl _) _
 obtain⟨w1,r1,g1,z1,m1⟩:=m0.update cU bm ⟨#[43]⟩ (cX (39,54));have b1:=b0.grown g1 b0.size (fun k e=>by cases e;exact Nat.le_refl _);obtain⟨w2,r2,g2,z2,m2⟩:=m1.update cU bm ⟨#[45]⟩ (cX (40,55));have b2:=b1.grown g2 b1.size (fun k e=>by cases e;exact Nat.le_refl _);obtain⟨w3,r3,g3,z3,m3⟩:=m2.update cU bm ⟨#[42]⟩ (cX (41,56));have b3:=b2.grown g3 b2.size (fun k e=>by cases e;exact Nat.le_refl _);obtain⟨w4,r4,g4,z4,m4⟩:=m3.update cU bm ⟨#[47]⟩ (cX (42,57));have b4:=b3.grown g4 b3.size (fun k e=>by cases e;exact Nat.le_refl _);obtain⟨w5,r5,g5,z5,m5⟩:=m4.update cU bm ⟨#[37]⟩ (cX (44,0));have b5:=b4.grown g5 b4.size (fun k e=>by cases e;exact Nat.le_refl _);obtain⟨w6,r6,g6,z6,m6⟩:=m5.update cU bm ⟨#[38]⟩ (cX (46,0));have b6:=b5.grown g6 b5.size (fun k e=>by cases e;exact Nat.le_refl _);obtain⟨w7,r7,g7,z7,m7⟩:=m6.update cU bm ⟨#[124]⟩ (cX (47,0));have b7:=b6.grown g7 b6.size (fun k e=>by cases e;exact Nat.le_refl _);obtain⟨w8,r8,g8,z8,m8⟩:=m7.update cU bm ⟨#[94]⟩ (cX (48,0));have b8:=b7.grown g8 b7.size (fun k e=>by cases e;exact Nat.le_refl _);obtain⟨w9,r9,g9,z9,m9⟩:=m8.update cU bm ⟨#[60,60]⟩ (cX (50,0));have b9:=b8.grown g9 b8.size (fun k e=>by cases e;exact Nat.le_refl _);obtain⟨zw,r10,g10,YQ,m10⟩:=m9.update cU bm ⟨#[62,62]⟩ (cX (51,0));have pw:=b9.grown g10 b9.size (fun k e=>by cases e;exact Nat.le_refl _);obtain⟨w11,r11,g11,z11,m11⟩:=m10.update cU bm ⟨#[61,61]⟩ (cX (13,23));have b11:=pw.grown g11 pw.size (fun k e=>by cases e;exact Nat.le_refl _);obtain⟨Kv,r12,g12,z12,m12⟩:=m11.update cU bm ⟨#[33,61]⟩ (cX (14,24));have YR:=b11.grown g12 b11.size (fun k e=>by cases e;exact Nat.le_refl _);obtain⟨w13,r13,g13,z13,m13⟩:=m12.update cU bm ⟨#[60]⟩ (cX (15,25));have b13:=YR.grown g13 YR.size (fun k e=>by cases e;exact Nat.le_refl _);obtain⟨VK,r14,g14,z14,m14⟩:=m13.update cU bm ⟨#[60,61]⟩ (cX (16,26));have b14:=b13.grown g14 b13.size (fun k e=>by cases e;exact Nat.le_refl _);obtain⟨w15,r15,g15,z15,m15⟩:=m14.update cU bm ⟨#[62]⟩ (cX (17,27));have b15:=b14.grown g15 b14.size (fun k e=>by cases e;exact Nat.le_refl _);obtain⟨QU,r16,g16,z16,m16⟩:=m15.update cU bm ⟨#[62,61]⟩ (cX (18,28));have b16:=b15.grown g16 b15.size (fun k e=>by cases e;exact Nat.le_refl _);rw[QS] at m16;have hl:=m16.lookup cU bm s _ (Mr QU) false;rw[di] at hl;have hv:((getM s Qn).map cX).getD (.agg #[.int .u8 0,.int .u8 0])=.agg #[.int .u8 (opsOf s).1,.int .u8 (opsOf s).2]:=by unfold opsOf;cases getM s Qn<;>rfl
 simp only[Bool.false_eq_true,if_false,hv] at hl;have HB:=af (b16.alloc b16.size (.cells #[.int .u8 (opsOf s).1,.int .u8 (opsOf s).2] 269));generalize opsOf s=o at hl HB⊢;obtain⟨o1,o2⟩:=o;clear hw0 hv m1 g1 z1 b1 m2 g2 z2 b2 m3 g3 z3 b3 m4 g4 z4 b4 m5 g5 z5 b5 m6 g6 z6 b6 m7 g7 z7 b7 m8 g8 z8 b8 m9 g9 z9 b9 m10 g10 YQ pw m11 g11 z11 b11 m12 g12 z12 YR m13 g13 z13 b13 m14 g14 z14 b14 m15 g15 z15 b15 m16 g16 z16 b16 m0 b0;go_enter Tryz.func143,Tryz.ntmps143;go_wp2_with fail
 have hx:=Bx.new QU #[.int .u8 o1,.int .u8 o2] 269;generalize QU.alloc (.cells #[.int .u8 o1,.int .u8 o2] 269)=wn at hx HB⊢;have q0:wn.drew.cell? ⟨QU.heap.size,0,none⟩=some (.int .u8 o1):=by simpa using hx.cell 0
 have q1:wn.drew.cell? ⟨QU.heap.size,1,none⟩=some (.int .u8 o2):=by simpa using hx.cell 1
 go_region
 go_wp2_with fail
 go_ret2;exact⟨rfl,HB.drew⟩
theorem k8 (b:Bool) (w:World):Calls Tryz.prog 117 #[.bool b] w fun e w'=>e=.returned (.int .u32 (if b then 1 else 0))∧w'=w:=by
 cases b
 ·go_enter Tryz.func117,Tryz.ntmps117
  go_wp2
  go_ret;exact⟨rfl,rfl⟩
 ·go_enter Tryz.func117,Tryz.ntmps117
  go_wp2
  go_ret;exact⟨rfl,rfl⟩
theorem Ix (a p:Int) (w:World):Calls Tryz.prog 85 #[.int .u32 a,.int .i64 p] w fun e w'=>e=.returned (.int .u32 a)∧w'=w:=by
 go_enter Tryz.func85,Tryz.ntmps85
 go_wp2
 go_ret;exact⟨rfl,rfl⟩
def AW (s:ByteArray) (t:Int):Int:=if t=2 then(opsOf s).2 else(opsOf s).1
theorem AY (s:ByteArray) (t:Int):AW s t∈opsL∨∀a b,j3 (AW s t) a b≠none:=by
 unfold AW opsOf;cases h:getM s Qn with
 |none=>left;simp[opsL]
 |some v=>
  obtain⟨k,hk⟩:=yq s Qn v h;simp only[Qn,List.mem_cons,List.mem_nil_iff,or_false,Prod.mk.injEq] at hk;simp only[Option.getD_some];rcases hk with⟨rfl,rfl⟩|⟨rfl,rfl⟩|⟨rfl,rfl⟩|⟨rfl,rfl⟩|⟨rfl,rfl⟩|⟨rfl,rfl⟩|⟨rfl,rfl⟩|⟨rfl,rfl⟩|⟨rfl,rfl⟩|⟨rfl,rfl⟩|⟨rfl,rfl⟩|⟨rfl,rfl⟩|⟨rfl,rfl⟩|⟨rfl,rfl⟩|⟨rfl,rfl⟩|⟨rfl,rfl⟩<;>split<;>first|(left;simp[opsL];done)|(right;intro a b;simp[j3,iG])
abbrev gm:Vy:=⟨bS,j3,fx⟩
abbrev dy (k f:Int):Ending:=.panicked [{v:=.iface 168 (.agg #[.int .u8 k,.int .u8 f]),recovered:=false}]
def AZ (o:Option Int):Ending:=match o with
 |some r=>.returned (.int .u32 r)
 |none=>dy 2 2
theorem px (s:ByteArray) (t a b:Int) (hb:0≤b) (w:World):Calls Tryz.prog 118 #[.string s,.int .u8 t,.int .u32 a,.int .u32 b] w fun e w'=>e=AZ (cD gm s t a b)∧Below w.heap.size w w':=by
 have hk:=af (AY s t);have c1:=af (QT s w);have hV:=af (show cD gm s t a b=(match j3 (AW s t) a b with|some r=>some (if r then 1 else 0)|none=>fx (AW s t) a b) from rfl);have tail:∀(w2:World),Below w.heap.size w w2→True:=fun _ _=>trivial
 obtain⟨o,ho⟩:∃x,x=AW s t:=⟨_,rfl⟩;have hT:=af ho;rw[←ho] at hk hV;clear ho tail;have oO:=af (show 0≤b.tmod 32 from Int.tmod_nonneg _ hb);clear hb;go_enter Tryz.func118,Tryz.ntmps118;go_wp2_with fail
 refine c1.mono ?_;rintro e w2 ⟨rfl,hb2⟩;have hB:=af hb2;clear c1 hb2;have ch:=af (Io o a b w2);by_cases ht:t=2
 ·subst t;have hq:(opsOf s).2=o:=by rw[hT.out];rfl
  rw[hq];clear hT;go_wp2_with fail
  refine ch.mono ?_;rintro e w3 ⟨rfl,hw⟩;subst w3;clear ch;cases hh:j3 o a b with
  |some r=>
   rw[hh] at hV;have hW:=af (show AZ (cD gm s _ a b)=.returned (.int .u32 (if r then 1 else 0)) by rw[hV.out];rfl);have ct:=af (k8 r w2);generalize (if r then(1:Int) else 0)=z at ct hW;clear hh hV hk;unfold EF;go_wp2_with fail
   refine ct.mono ?_;rintro e w3 ⟨rfl,hw⟩;subst w3;clear ct;go_wp2_with fail
   go_ret;exact⟨hW.symm,hB.out⟩
  | none=>
   rw[hh] at hV;have ho:=af (hk.resolve_right (fun q=>q a b hh));have cb:=af (ux o a b ho.out oO.out w2);clear hh hk ho oO;unfold EF;go_wp2_with fail
   refine cb.mono ?_;rintro e w3 ⟨he,hb3⟩;have gQ:=af (hB.trans (hb3.mono hB.size));clear cb hb3;cases hv:fx o a b with
   |some r=>
    rw[hv] at he hV;have hW:=af (show AZ (cD gm s _ a b)=.returned (.int .u32 r) by rw[hV.out];rfl);unfold AK at he;simp only[] at he;have he2:vW o≠60:=by unfold vW;split<;>omega
    generalize vW o=eb at he he2;subst he;clear hv hV;go_wp2_with fail
    go_ret;exact⟨hW.symm,gQ.out⟩
   |none=>
    rw[hv] at he hV;have hW:=af (show AZ (cD gm s _ a b)=dy 2 2 by rw[hV.out];rfl);unfold AK at he;simp only[] at he;subst he;clear hv hV;go_wp2_with fail
    refine ar ?_;exact⟨hW.symm,gQ.out⟩
 ·have hq:(opsOf s).1=o:=by rw[hT.out];simp[AW,ht]
  rw[hq];clear hT;go_wp2_with fail
  refine ch.mono ?_;rintro e w3 ⟨rfl,hw⟩;subst w3;clear ch;cases hh:j3 o a b with
  |some r=>
   rw[hh] at hV;have hW:=af (show AZ (cD gm s _ a b)=.returned (.int .u32 (if r then 1 else 0)) by rw[hV.out];rfl);have ct:=af (k8 r w2);generalize (if r then(1:Int) else 0)=z at ct hW;clear hh hV hk;unfold EF;go_wp2_with fail
   refine ct.mono ?_;rintro e w3 ⟨rfl,hw⟩;subst w3;clear ct;go_wp2_with fail
   go_ret;exact⟨hW.symm,hB.out⟩
  | none=>
   rw[hh] at hV;have ho:=af (hk.resolve_right (fun q=>q a b hh));have cb:=af (ux o a b ho.out oO.out w2);clear hh hk ho oO;unfold EF;go_wp2_with fail
   refine cb.mono ?_;rintro e w3 ⟨he,hb3⟩;have gQ:=af (hB.trans (hb3.mono hB.size));clear cb hb3;cases hv:fx o a b with
   |some r=>
    rw[hv] at he hV;have hW:=af (show AZ (cD gm s _ a b)=.returned (.int .u32 r) by rw[hV.out];rfl);unfold AK at he;simp only[] at he;have he2:vW o≠60:=by unfold vW;split<;>omega
    generalize vW o=eb at he he2;subst he;clear hv hV;go_wp2_with fail
    go_ret;exact⟨hW.symm,gQ.out⟩
   |none=>
    rw[hv] at he hV;have hW:=af (show AZ (cD gm s _ a b)=dy 2 2 by rw[hV.out];rfl);unfold AK at he;simp only[] at he;subst he;clear hv hV;go_wp2_with fail
    refine ar ?_;exact⟨hW.symm,gQ.out⟩
end
section
structure Inv (cf:Cf) (aN:List Nat) (m:MS):Prop where
 steps:m.steps≤cf.allowed
 reps:m.reps≤cf.values.length
 evs:m.reps=m.evs.length
 shape:m.held.map List.length=aN
def Out.Ok {α:Type} (cf:Cf) (aN:List Nat):Out α→Prop
 | .ok _ m=>Inv cf aN m
 | .stop k x m=>Inv cf aN m∧((k=2∧(x=1∨x=2))∨(x=0∧((k=3∧m.steps=cf.allowed)∨(k=4∧m.reps=cf.values.length)∨k=5)))
 | .lost=>True
theorem Out.bZ {α β:Type} {cf:Cf} {aN:List Nat} {o:Out α} {f:α→MS→Out β} (h:o.Ok cf aN) (hf:∀a m',Inv cf aN m'→(f a m').Ok cf aN):(o.bind f).Ok cf aN:=by
 cases o with
 |ok a m'=>exact hf a m' h
 |stop k x m'=>exact h
 |lost=>trivial
theorem lI {cf:Cf} {aN:List Nat} (m:MS) (hm:Inv cf aN m):(tick cf m).Ok cf aN:=by
 unfold tick;split
 ·refine⟨hm,.inr ⟨rfl,.inl ⟨rfl,?_⟩⟩⟩;have:=hm.steps;omega
 ·exact⟨by show m.steps+1≤_;omega,hm.reps,hm.evs,hm.shape⟩
theorem EJ (l:List (List Int)) (p i:Nat) (v:Int):(l.set p ((l.getD p []).set i v)).map List.length=l.map List.length:=by
 rw[List.map_set];apply List.ext_getElem?;intro j;rw[List.getElem?_set];split
 ·rename_i e;subst e;split
  ·rename_i h;rw[List.length_map] at h;rw[List.getElem?_map,List.getElem?_eq_getElem h];simp[List.getD,List.getElem?_eq_getElem h]
  ·rename_i h;rw[List.getElem?_eq_none (by omega)]
 ·rfl
theorem oa {cf:Cf} {aN:List Nat} (m:MS) (s:ByteArray) (i:Nat) (v:Int) (hm:Inv cf aN m):Inv cf aN (fM cf m s i v):=
 ⟨hm.steps,hm.reps,hm.evs,by unfold fM bI;rw[EJ];exact hm.shape⟩
theorem sk {cf:Cf} {aN:List Nat} (fr:Fr) (m:MS) (s:ByteArray) (v:Int) (hm:Inv cf aN m):Inv cf aN (cE cf fr m s v).2:=by
 unfold cE;split
 ·exact hm
 ·exact oa _ _ _ _ hm
structure ic.OO (cf:Cf) (aN:List Nat) (ev:ic):Prop where
 E:∀d fr h k m,Inv cf aN m→(ev.E d fr h k m).Ok cf aN
 L:∀d fr l m,Inv cf aN m→(ev.L d fr l m).Ok cf aN
 W:∀d fr h k b m,Inv cf aN m→(ev.W d fr h k b m).Ok cf aN
 F:∀d g l m,Inv cf aN m→(ev.F d g l m).Ok cf aN
section
variable {cf:Cf} {aN:List Nat} {ev:ic} (hg:ev.OO cf aN)
include hg
theorem gW (d:Nat) (fr:Fr) (l:az) (i:Nat) (m:MS) (hm:Inv cf aN m):(jo ev d fr l i m).Ok cf aN:=by
 unfold jo;split
 ·exact hg.E _ _ _ _ _ hm
 ·trivial
theorem uy (d:Nat) (fr:Fr):∀(l:az) (m:MS),Inv cf aN m→(df ev d fr l m).Ok cf aN
 | .nil,m,hm=>hm
 | .cons h k r,m,hm=>Out.bZ (hg.E _ _ _ _ _ hm) fun v m1 hm=>Out.bZ (uy d fr r m1 hm) fun l m2 hm=>hm
theorem Iy (d:Nat) (fr:Fr) (h:EH) (k:az) (m:MS) (hm:Inv cf aN m):(aF cf ev d fr h k m).Ok cf aN:=by
 unfold aF;split
 ·(first|exact hm|exact⟨hm,.inl ⟨rfl,.inl rfl⟩⟩|exact⟨hm,.inl ⟨rfl,.inr rfl⟩⟩|exact⟨hm,.inr ⟨rfl,.inr (.inr rfl)⟩⟩)
 split
 ·(first|exact hm|exact⟨hm,.inl ⟨rfl,.inl rfl⟩⟩|exact⟨hm,.inl ⟨rfl,.inr rfl⟩⟩|exact⟨hm,.inr ⟨rfl,.inr (.inr rfl)⟩⟩)
 split
 ·refine Out.bZ (gW hg _ _ _ _ _ hm) fun i m1 hm=>?_
  split<;>(first|exact hm|exact⟨hm,.inl ⟨rfl,.inl rfl⟩⟩|exact⟨hm,.inl ⟨rfl,.inr rfl⟩⟩|exact⟨hm,.inr ⟨rfl,.inr (.inr rfl)⟩⟩)
 split
 ·refine Out.bZ (uy hg _ _ _ _ hm) fun args m1 hm=>?_
  split
  ·trivial
  ·split
   ·exact hg.F _ _ _ _ hm
   ·unfold je;split
    ·rename_i hq;refine⟨hm,.inr ⟨rfl,.inr (.inl ⟨rfl,?_⟩)⟩⟩;have h1:=List.getElem?_eq_none_iff.1 hq;have h2:=hm.reps;omega
    ·rename_i hq;have h1:m1.reps<cf.values.length:=by
      rcases Nat.lt_or_ge m1.reps cf.values.length with h|h
      ·exact h
      ·rw[List.getElem?_eq_none h] at hq;cases hq
     split
     ·trivial
     ·exact⟨hm.steps,h1,by show m1.reps+1=(m1.evs++[_]).length;rw[List.length_append,hm.evs];rfl,hm.shape⟩
 split
 ·refine Out.bZ (gW hg _ _ _ _ _ hm) fun v m1 hm=>?_
  repeat' split
  all_goals (first|exact hm|exact⟨hm,.inl ⟨rfl,.inl rfl⟩⟩|exact⟨hm,.inl ⟨rfl,.inr rfl⟩⟩|exact⟨hm,.inr ⟨rfl,.inr (.inr rfl)⟩⟩)
 split
 ·refine Out.bZ (gW hg _ _ _ _ _ hm) fun a m1 hm=>?_
  split
  ·(first|exact hm|exact⟨hm,.inl ⟨rfl,.inl rfl⟩⟩|exact⟨hm,.inl ⟨rfl,.inr rfl⟩⟩|exact⟨hm,.inr ⟨rfl,.inr (.inr rfl)⟩⟩)
  split
  ·(first|exact hm|exact⟨hm,.inl ⟨rfl,.inl rfl⟩⟩|exact⟨hm,.inl ⟨rfl,.inr rfl⟩⟩|exact⟨hm,.inr ⟨rfl,.inr (.inr rfl)⟩⟩)
  refine Out.bZ (gW hg _ _ _ _ _ hm) fun b m2 hm=>?_
  repeat' split
  all_goals (first|exact hm|exact⟨hm,.inl ⟨rfl,.inl rfl⟩⟩|exact⟨hm,.inl ⟨rfl,.inr rfl⟩⟩|exact⟨hm,.inr ⟨rfl,.inr (.inr rfl)⟩⟩)
 split
 ·refine Out.bZ (gW hg _ _ _ _ _ hm) fun v m1 hm=>?_
  repeat' split
  all_goals (first|exact hm|exact⟨hm,.inl ⟨rfl,.inl rfl⟩⟩|exact⟨hm,.inl ⟨rfl,.inr rfl⟩⟩|exact⟨hm,.inr ⟨rfl,.inr (.inr rfl)⟩⟩)
 ·trivial
theorem Ms (d:Nat) (fr:Fr) (h:SH) (x:az) (m:MS) (hm:Inv cf aN m):(ij cf ev d fr h x m).Ok cf aN:=by
 unfold ij;refine Out.bZ (gW hg _ _ _ _ _ hm) fun v m1 hm=>?_
 split
 ·exact sk _ _ _ _ hm
 ·split
  ·exact sk _ _ _ _ hm
  ·(first|exact hm|exact⟨hm,.inl ⟨rfl,.inl rfl⟩⟩|exact⟨hm,.inl ⟨rfl,.inr rfl⟩⟩|exact⟨hm,.inr ⟨rfl,.inr (.inr rfl)⟩⟩)
theorem Mt (d:Nat) (fr:Fr) (h:SH) (x:az) (m:MS) (hm:Inv cf aN m):(gB cf ev d fr h x m).Ok cf aN:=by
 unfold gB;refine Out.bZ (gW hg _ _ _ _ _ hm) fun i m1 hm=>?_
 split
 ·(first|exact hm|exact⟨hm,.inl ⟨rfl,.inl rfl⟩⟩|exact⟨hm,.inl ⟨rfl,.inr rfl⟩⟩|exact⟨hm,.inr ⟨rfl,.inr (.inr rfl)⟩⟩)
 ·refine Out.bZ (gW hg _ _ _ _ _ hm) fun v m2 hm=>?_
  split
  ·exact oa _ _ _ _ hm
  ·split
   ·exact oa _ _ _ _ hm
   ·(first|exact hm|exact⟨hm,.inl ⟨rfl,.inl rfl⟩⟩|exact⟨hm,.inl ⟨rfl,.inr rfl⟩⟩|exact⟨hm,.inr ⟨rfl,.inr (.inr rfl)⟩⟩)
theorem Iz (d:Nat) (fr:Fr) (h:SH) (x:az) (b e:aH) (m:MS) (hm:Inv cf aN m):(bn cf ev d fr h x b e m).Ok cf aN:=by
 unfold bn;refine Out.bZ (lI _ hm) fun _ m1 hm=>?_
 split
 ·exact Out.bZ (gW hg _ _ _ _ _ hm) fun v m1 hm=>hm
 split
 ·exact Out.bZ (Ms hg _ _ _ _ _ hm) fun v m1 hm=>hm
 split
 ·exact Out.bZ (Mt hg _ _ _ _ _ hm) fun v m1 hm=>hm
 split
 ·refine Out.bZ (gW hg _ _ _ _ _ hm) fun v m1 hm=>?_
  split<;>exact hg.L _ _ _ _ hm
 split
 ·split
  ·exact hg.W _ _ _ _ _ _ hm
  ·trivial
 split
 ·(first|exact hm|exact⟨hm,.inl ⟨rfl,.inl rfl⟩⟩|exact⟨hm,.inl ⟨rfl,.inr rfl⟩⟩|exact⟨hm,.inr ⟨rfl,.inr (.inr rfl)⟩⟩)
 split
 ·(first|exact hm|exact⟨hm,.inl ⟨rfl,.inl rfl⟩⟩|exact⟨hm,.inl ⟨rfl,.inr rfl⟩⟩|exact⟨hm,.inr ⟨rfl,.inr (.inr rfl)⟩⟩)
 split
 ·exact Out.bZ (gW hg _ _ _ _ _ hm) fun v m1 hm=>hm
 split
 ·exact Out.bZ (gW hg _ _ _ _ _ hm) fun v m1 hm=>hm
 ·(first|exact hm|exact⟨hm,.inl ⟨rfl,.inl rfl⟩⟩|exact⟨hm,.inl ⟨rfl,.inr rfl⟩⟩|exact⟨hm,.inr ⟨rfl,.inr (.inr rfl)⟩⟩)
theorem uz (d:Nat):∀(l:aH) (fr:Fr) (m:MS),Inv cf aN m→(cM cf ev d l fr m).Ok cf aN
 | .nil,fr,m,hm=>hm
 | .cons h x b e r,fr,m,hm=>by
  unfold cM;refine Out.bZ (Iz hg _ _ _ _ _ _ _ hm) fun q m1 hm=>?_
  split
  ·exact uz d r _ _ hm
  ·(first|exact hm|exact⟨hm,.inl ⟨rfl,.inl rfl⟩⟩|exact⟨hm,.inl ⟨rfl,.inr rfl⟩⟩|exact⟨hm,.inr ⟨rfl,.inr (.inr rfl)⟩⟩)
theorem EL (d:Nat) (fr:Fr) (h:EH) (k:az) (b:aH) (m:MS) (hm:Inv cf aN m):(fU cf ev d fr h k b m).Ok cf aN:=by
 unfold fU;refine Out.bZ (hg.E _ _ _ _ _ hm) fun c m1 hm=>?_
 split
 ·(first|exact hm|exact⟨hm,.inl ⟨rfl,.inl rfl⟩⟩|exact⟨hm,.inl ⟨rfl,.inr rfl⟩⟩|exact⟨hm,.inr ⟨rfl,.inr (.inr rfl)⟩⟩)
 ·refine Out.bZ (hg.L _ _ _ _ hm) fun q m2 hm=>?_
  split
  ·(first|exact hm|exact⟨hm,.inl ⟨rfl,.inl rfl⟩⟩|exact⟨hm,.inl ⟨rfl,.inr rfl⟩⟩|exact⟨hm,.inr ⟨rfl,.inr (.inr rfl)⟩⟩)
  split
  ·(first|exact hm|exact⟨hm,.inl ⟨rfl,.inl rfl⟩⟩|exact⟨hm,.inl ⟨rfl,.inr rfl⟩⟩|exact⟨hm,.inr ⟨rfl,.inr (.inr rfl)⟩⟩)
  ·exact Out.bZ (lI _ hm) fun _ m3 hm=>hg.W _ _ _ _ _ _ hm
theorem IA (d:Nat) (g:eE) (l:List Int) (m:MS) (hm:Inv cf aN m):(ku cf ev d g l m).Ok cf aN:=by
 unfold ku;split
 ·(first|exact hm|exact⟨hm,.inl ⟨rfl,.inl rfl⟩⟩|exact⟨hm,.inl ⟨rfl,.inr rfl⟩⟩|exact⟨hm,.inr ⟨rfl,.inr (.inr rfl)⟩⟩)
 ·split
  ·trivial
  ·exact Out.bZ (hg.L _ _ _ _ hm) fun q m2 hm=>hm
end
theorem gF (cf:Cf) (aN:List Nat):∀n,(aI cf n).OO cf aN
 |0=>⟨fun _ _ _ _ _ _=>trivial,fun _ _ _ _ _=>trivial,fun _ _ _ _ _ _ _=>trivial,fun _ _ _ _ _=>trivial⟩
 |n+1=>⟨fun d fr h k m hm=>Out.bZ (lI _ hm) fun _ m1 hm=>Iy (gF cf aN n) _ _ _ _ _ hm,fun d fr l m hm=>Out.bZ (uz (gF cf aN n) _ _ _ _ hm) fun q m1 hm=>hm,
  fun d fr h k b m hm=>EL (gF cf aN n) _ _ _ _ _ _ hm,fun d g l m hm=>IA (gF cf aN n) _ _ _ _ hm⟩
end
section
open Go.Shelf
/-! ### what is kept -/
structure aU (T:Nat→Prop) (n:Nat) (w w':World):Prop where
 os:w'.os=w.os
 tape:w'.tape=w.tape
 output:w'.output=w.output
 size:w.heap.size≤w'.heap.size
 block:∀b,b<n→¬T b→w'.heap[b]? =w.heap[b]?
theorem aU.refl (T:Nat→Prop) (n:Nat) (w:World):aU T n w w:=⟨rfl,rfl,rfl,Nat.le_refl _,fun _ _ _=>rfl⟩
theorem aU.trans {T:Nat→Prop} {n:Nat} {a b c:World} (h:aU T n a b) (k:aU T n b c):aU T n a c:=
 ⟨k.os.trans h.os,k.tape.trans h.tape,k.output.trans h.output,Nat.le_trans h.size k.size,fun i hi ht=>(k.block i hi ht).trans (h.block i hi ht)⟩
theorem aU.mono {T U:Nat→Prop} {n n':Nat} {a b:World} (h:aU T n a b) (hn:n'≤n) (hT:∀b,b<n'→T b→U b):aU U n' a b:=
 ⟨h.os,h.tape,h.output,h.size,fun i hi ht=>h.block i (by omega) fun q=>ht (hT i hi q)⟩
theorem aU.of {T:Nat→Prop} {n:Nat} {w w':World} (h:Below n w w'):aU T n w w':=⟨h.os,h.tape,h.output,h.size,fun b hb _=>h.block b hb⟩
theorem aU.gr {T:Nat→Prop} {n:Nat} {w w':World} {row:Option Nat} (hg:w.grownBy w' row) (hn:n≤w.heap.size) (hr:∀k,row=some k→T k∨n≤k):aU T n w w':=by
 refine⟨hg.os,hg.tape,hg.output,hg.size,fun b hb ht=>hg.block b (by omega) fun q=>?_⟩;rcases hr b q.symm with h|h
 ·exact ht h
 ·omega
theorem aU.box {T:Nat→Prop} {n:Nat} {w w':World} (h:aU T n w w') {q:Nat} {cs:Array Value} {t:TypeId} (hx:Bx w q cs t) (hn:q<n) (ht:¬T q):Bx w' q cs t:=(h.block q hn ht).trans hx
theorem aU.map {T:Nat→Prop} {n:Nat} {w w':World} (h:aU T n w w') {b:Nat} {l:List (ByteArray×Value)} (hm:Mp w b l) (hn:b<n) (ht:¬T b):Mp w' b l:=by
 obtain⟨es,c,h1,h2⟩:=hm;exact⟨es,c,(h.block b hn ht).trans h1,h2⟩
theorem aU.cells {T:Nat→Prop} {n:Nat} {w w':World} (h:aU T n w w') {p:Nat→Bool} (hp:∀b,p b=true→b<n∧¬T b):Cells (aA w p) (aA w' p):=
 bt fun a u h1 h2=>⟨h1,by
  have hb:=h.block a.block (hp _ h1).1 (hp _ h1).2;unfold World.cell? at h2⊢;rw[hb];exact h2⟩
/-! ### the meaning's box -/
inductive j4
 |mk
def j4.v (_:j4):Int:=0
structure Pt where
 B:Nat
 M:Nat
 X:Nat
 vb:Nat
 cb:Nat
 pb:Nat
 kb:Nat
 kc:Nat
 vg:Value
 vh:Value
 vf:Value
 hv:Value
 vv:Value
 xs:List Value
 VL:List ByteArray
def Pt.T (p:Pt) (b:Nat):Prop:=b=p.M∨∃x∈p.xs,x.ownBlock=some b
structure EvS where
 v:Value
 eZ:List Value
def Pt.TE (p:Pt) (ve:EvS) (b:Nat):Prop:=p.T b∨ve.v.ownBlock=some b
def eD:List Ev→List Value→List j4→List Value
 |a::r,v::vs,t::ts=>.int .u32 t.v::.int .u32 a.number::v::.int .u32 a.value::eD r vs ts
 |_,_,_=>[]
structure uA (w:World) (n:Nat) (evs:List Ev) (eZ:List Value) (ats:List j4) (ve:Value):Prop where
 len:eZ.length=evs.length
 at_:ats.length=evs.length
 row:w.ownsRow n 127 4 ve evs.length (eD evs eZ ats)
 args:∀i (h:i<eZ.length) (h':i<evs.length),w.ownsRow n 52 1 eZ[i] evs[i].args.length (evs[i].args.map (Value.int .u32))
structure iy (p:Pt) (allowed:Nat) (n:Nat) (d:Nat) (m:MS) (ve:EvS) (w:World):Prop where
 box:∃en va fa:j4,Bx w p.M #[.pointer (some ⟨p.X,0,none⟩),.int .i64 allowed,p.vv,.int .u8 en.v,.int .u32 va.v,.int .u8 fa.v,.int .i64 m.steps,.int .i64 m.reps,ve.v,.int .i64 d,.map (some p.kb)] 119
 len:p.xs.length=m.held.length
 words:∀i (h:i<p.xs.length) (h':i<m.held.length),w.ownsRow p.B 52 1 p.xs[i] m.held[i].length (m.held[i].map (Value.int .u32))
 nd:(p.xs.map Value.ownBlock).Nodup
 evs:∃ats,uA w n m.evs ve.eZ ats ve.v
 size:n≤w.heap.size
 mlt:p.M<n
theorem uA.on {w w':World} {n:Nat} {evs:List Ev} {eZ:List Value} {ats:List j4} {ve:Value} (h:uA w n evs eZ ats ve) {row:Option Nat} (hg:w.grownBy w' row) (h1:ve.ownBlock=none∨ve.ownBlock≠row) (h2:∀x∈eZ,x.ownBlock=none∨x.ownBlock≠row):uA w' n evs eZ ats ve:=
 ⟨h.len,h.at_,h.row.kept hg h1,fun i q1 q2=>(h.args i q1 q2).kept hg (h2 _ (List.getElem_mem q1))⟩
theorem iy.turn {p:Pt} {allowed n d:Nat} {m:MS} {ve:EvS} {w w':World} (h:iy p allowed n d m ve w) (hg:w.grownBy w' (some p.M)) {steps d':Nat}
  (hb:∃en va fa:j4,Bx w' p.M #[.pointer (some ⟨p.X,0,none⟩),.int .i64 allowed,p.vv,.int .u8 en.v,.int .u32 va.v,.int .u8 fa.v,.int .i64 steps,.int .i64 m.reps,ve.v,.int .i64 d',.map (some p.kb)] 119):
  iy p allowed n d' {m with steps:=steps} ve w':=by
 obtain⟨en,va,fa,hx⟩:=h.box;obtain⟨ats,he⟩:=h.evs;have nr:∀{base:Nat} {e:TypeId} {size k:Nat} {v:Value} {ys:List Value},w.ownsRow base e size v k ys→(119:TypeId)≠e→w'.ownsRow base e size v k ys:=fun{base e size k v ys} hr hne=>
  hr.kept hg (.inr fun q=>hx.not_row hr hne q.symm)
 exact⟨hb,h.len,fun i h1 h2=>nr (h.words i h1 h2) (by decide),h.nd,⟨ats,he.len,he.at_,nr he.row (by decide),fun i h1 h2=>nr (he.args i h1 h2) (by decide)⟩,Nat.le_trans h.size hg.size,h.mlt⟩
theorem iy.below {p:Pt} {allowed n d:Nat} {m:MS} {ve:EvS} {w w':World} (h:iy p allowed n d m ve w) (hb:Below w.heap.size w w'):iy p allowed n d m ve w':=by
 obtain⟨en,va,fa,hx⟩:=h.box;obtain⟨ats,he⟩:=h.evs;exact⟨⟨en,va,fa,hx.on (ah hb) (by simp)⟩,h.len,fun i h1 h2=>aC (h.words i h1 h2) hb,h.nd,⟨ats,he.len,he.at_,aC he.row hb,fun i h1 h2=>aC (he.args i h1 h2) hb⟩,Nat.le_trans h.size hb.size,h.mlt⟩
def Vc (ve fJ:EvS) (k:Nat):Prop:=(fJ.v.ownBlock=ve.v.ownBlock∨∃b,fJ.v.ownBlock=some b∧k≤b)∧∀x∈fJ.eZ,x∈ve.eZ∨∀b,x.ownBlock=some b→k≤b
theorem Vc.refl (ve:EvS) (k:Nat):Vc ve ve k:=⟨.inl rfl,fun _ h=>.inl h⟩
def aX (p:Pt) (allowed n d k:Nat) (ve:EvS) {α:Type} (f:α→Ending) (o:Out α) (w:World) (e:Ending) (w':World):Prop:=match o with
 | .ok a m=>e=f a∧∃fJ,iy p allowed n d m fJ w'∧aU (p.TE ve) k w w'∧Vc ve fJ k
 | .stop x y m=>e=dy x y∧∃fJ d',iy p allowed n d' m fJ w'∧aU (p.TE ve) k w w'∧Vc ve fJ k
 | .lost=>True
theorem vY (p:Pt) (cf:Cf) (n d:Nat) (m:MS) (ve:EvS) (w:World) (ha:cf.allowed≤65536) (hs:m.steps≤cf.allowed) (h:iy p cf.allowed n d m ve w):
  Calls Tryz.prog 116 #[.pointer (some ⟨p.M,0,none⟩)] w (aX p cf.allowed n d w.heap.size ve (fun _=>.returned (.tuple #[])) (tick cf m) w):=by
 obtain⟨en,va,fa,hx⟩:=h.box;have H:=af h;have HX:=af hx;have p1:w.drew.cell? ⟨p.M,1,none⟩=some (.int .i64 cf.allowed):=by simpa using hx.cell 1
 have p6:w.drew.cell? ⟨p.M,6,none⟩=some (.int .i64 m.steps):=by simpa using hx.cell 6
 have f6:w.drew.frozen? ⟨p.M,6,none⟩=false:=hx.free 6;obtain⟨P,hP⟩:∃x,x=aX p cf.allowed n d w.heap.size ve (fun _:Unit=>Ending.returned (.tuple #[])) (tick cf m) w:=⟨_,rfl⟩;rw[←hP];have HP:=af hP;clear hP h hx;by_cases hc:cf.allowed≤m.steps
 ·have hT:=af (show tick cf m=.stop 3 0 m by simp[tick,hc]);have hcc:(cf.allowed:Int)≤(m.steps:Int):=by omega
  go_enter Tryz.func116,Tryz.ntmps116;go_wp2_with fail
  go_region
  go_wp2_with fail
  refine ar ?_;rw[HP.out,hT.out];exact⟨rfl,ve,d,H.below (Below.refl _ _).drew,aU.of (Below.refl _ _).drew,Vc.refl _ _⟩
 ·have hT:=af (show tick cf m=.ok () {m with steps:=m.steps+1} by simp[tick,hc]);have hcc:¬(cf.allowed:Int)≤(m.steps:Int):=by omega
  have hw:IntKind.i64.wrap ((m.steps:Int)+1)=(((m.steps+1:Nat)):Int):=by rw[IntWalk.i64_in _ (by omega)];omega
  go_enter Tryz.func116,Tryz.ntmps116;go_wp2_with fail
  go_region
  go_wp2_with fail
  go_end0;have hg:=aj w ⟨p.M,6,none⟩ (.int .i64 ((m.steps:Int)+1));have hb:=(Below.refl (w.setCell ⟨p.M,6,none⟩ (.int .i64 ((m.steps:Int)+1))).heap.size (w.setCell ⟨p.M,6,none⟩ (.int .i64 ((m.steps:Int)+1)))).drew;rw[HP.out,hT.out];refine⟨rfl,ve,(H.turn hg ⟨en,va,fa,by simpa using HX.set 6 (.int .i64 ((m.steps:Int)+1))⟩).below hb,(aU.gr hg (Nat.le_refl _) fun k e=>by cases e;exact .inl (.inl (.inl rfl))).trans (aU.of (hb.mono ?_)),Vc.refl _ _⟩;simp[World.setCell]
end
section
open Go.Shelf
abbrev dQ:=List (ByteArray×((Int×Int)×Nat))
abbrev lV (x:(Int×Int)×Nat):Value:=.pointer (some ⟨x.2,0,none⟩)
abbrev j5 (sc:dQ):Hp:=sc.map fun x=>(x.1,x.2.1)
abbrev ai (fb:List dQ):Fr:=fb.map j5
def cJ (s:ByteArray) (fb:List dQ):Option ((Int×Int)×Nat):=fb.foldl (fun a sc=>match getM s sc with|some t=>some t|none=>a) none
theorem A0 {s:ByteArray} {fb:List dQ} {k:Nat} (h:k<fb.length):cJ s (fb.take (k+1))=match getM s fb[k] with|some t=>some t|none=>cJ s (fb.take k):=by
 unfold cJ;rw[List.take_add_one,List.getElem?_eq_getElem h];simp only[Option.toList_some,List.foldl_append,List.foldl_cons,List.foldl_nil]
theorem j6 (s:ByteArray) (fb:List dQ):ml s (ai fb)=(cJ s fb).map (·.1):=by
 unfold ml cJ
 suffices∀(fb:List dQ) (a:Option ((Int×Int)×Nat)),(ai fb).foldl (fun a sc=>match getM s sc with|some t=>some t|none=>a) (a.map (·.1))=(fb.foldl (fun a sc=>match getM s sc with|some t=>some t|none=>a) a).map (·.1) from this fb none
 intro fb
 induction fb with
 |nil=>intro a;rfl
 |cons c r ih=>
  intro a;simp only[ai,List.map_cons,List.foldl_cons] at ih⊢;rw[←ih]
  congr 1
  have:getM s (j5 c)=(getM s c).map (·.1):=di (fun x:(Int×Int)×Nat=>x.1) s c;rw[this];cases getM s c<;>rfl
structure mO (w:World) (n F:Nat) (fb:List dQ) (g cap:Nat) (ms:List Nat):Prop where
 box:Bx w F #[.slice (some ⟨g,0,none⟩) fb.length cap] 213
 row:w.ownsRow n 210 1 (.slice (some ⟨g,0,none⟩) fb.length cap) fb.length (ms.map fun m=>.map (some m))
 len:ms.length=fb.length
 maps:∀i (h1:i<ms.length) (h2:i<fb.length),Mp w ms[i] (fb[i].map fun x=>(x.1,lV x.2))
 boxes:∀sc∈fb,∀x∈sc,Bx w x.2.2 #[.int .u32 x.2.1.2,.int .u8 x.2.1.1] 201
 nd:ms.Nodup
 apart:(fb.flatten.map fun x=>x.2.2).Nodup
 far:(∀m∈ms,n≤m)∧(∀sc∈fb,∀x∈sc,n≤x.2.2)∧n≤F
 le:fb.length≤100000000
theorem CF {α:Type} (s:ByteArray):∀(l:List (ByteArray×α)) (v:α),getM s l=some v→(s,v)∈l
 |[],v,h=>by cases h
 | x::l,v,h=>by
  rw[cO] at h;split at h
  ·rename_i hq;cases h;have:s=x.1:=(Go.MapKept.bytes_beq s x.1).1 hq;rw[this];simp
  ·simp[CF s l v h]
theorem py {s:ByteArray} {fb:List dQ} {t:(Int×Int)×Nat} (h:cJ s fb=some t):∃sc∈fb,(s,t)∈sc:=by
 suffices∀(fb:List dQ) (a:Option ((Int×Int)×Nat)),fb.foldl (fun a sc=>match getM s sc with|some t=>some t|none=>a) a=some t→a=some t∨∃sc∈fb,(s,t)∈sc by
  rcases this fb none h with q|q
  ·cases q
  ·exact q
 intro fb
 induction fb with
 |nil=>intro a h;exact .inl h
 | cons c r ih=>
  intro a h;simp only[List.foldl_cons] at h;rcases ih _ h with q|⟨sc,q1,q2⟩
  ·cases hg:getM s c with
   |none=>rw[hg] at q;exact .inl q
   |some y=>
    rw[hg] at q;cases q;exact .inr ⟨c,by simp,CF s c _ hg⟩
  ·exact .inr ⟨sc,by simp[q1],q2⟩
theorem mO.on {w w':World} {n F:Nat} {fb:List dQ} {g cap:Nat} {ms:List Nat} (h:mO w n F fb g cap ms) {row:Option Nat} (hg:w.grownBy w' row) (h1:some F≠row) (h2:some g≠row) (h3:∀m∈ms,some m≠row) (h4:∀sc∈fb,∀x∈sc,some x.2.2≠row):mO w' n F fb g cap ms:=
 ⟨h.box.on hg h1,h.row.kept hg (.inr h2),h.len,fun i q1 q2=>(h.maps i q1 q2).on hg (h3 _ (List.getElem_mem q1)),fun sc q x q2=>(h.boxes sc q x q2).on hg (h4 sc q x q2),h.nd,h.apart,h.far,h.le⟩
theorem mO.below {w w':World} {n F:Nat} {fb:List dQ} {g cap:Nat} {ms:List Nat} (h:mO w n F fb g cap ms) (hb:Below w.heap.size w w'):mO w' n F fb g cap ms:=
 h.on (ah hb) (by simp) (by simp) (fun _ _=>by simp) (fun _ _ _ _=>by simp)
theorem sq:Tryz.prog.underlying 210=some (.map 9 198):=by kernel_rfl
theorem Mu (w:World):(zeroValue 198).run Tryz.prog w=.ok (.pointer none) w:=by kernel_rfl
theorem CG (s:ByteArray) (n F:Nat) (fb:List dQ) (g cap:Nat) (ms:List Nat) (w:World) (h:mO w n F fb g cap ms):
  Calls Tryz.prog 115 #[.pointer (some ⟨F,0,none⟩),.string s] w fun e w'=>e=.returned (((cJ s fb).map lV).getD (.pointer none))∧w'=w:=by
 have hH:=af h;have hlen:=h.le;have hbc:=h.box.cell 0;simp at hbc;obtain⟨k0,hn⟩:∃k,k=fb.length:=⟨_,rfl⟩;have hN:=af hn;rw[←hn] at hlen hbc;clear h hn;go_enter Tryz.func115,Tryz.ntmps115;go_wp2_with fail
 go_loopw [5] (fun y wr=>∃k:Nat,y=.int .i64 ((k:Int) -1)∧k≤k0∧cJ s (fb.take k)=cJ s fb∧wr=w) (fun y _=>(intOf y+1).toNat)
 case atStart=>exact⟨k0,rfl,Nat.le_refl _,by rw[hN.out,List.take_length],rfl⟩
 case round=>
  obtain⟨k,rfl,hk,Ga,hw⟩:=hrel;subst wr;have hS:=af Ga;clear Ga;by_cases gJ:k=0
  ·subst k;have hz:=af (show cJ s fb=none by rw[←hS.out];rfl);clear hS;go_wp2_with fail
   go_ret;rw[hz.out];exact⟨rfl,rfl⟩
  ·obtain⟨k,rfl⟩:∃j,k=j+1:=⟨k-1,by omega⟩;have kt:k<fb.length:=by have:=hN.out;omega
   have hl2:k<ms.length:=by have:=hH.len;omega
   have hc:w.cell? ⟨g,k,none⟩=some (.map (some ms[k])):=by rw[hH.row.cellAt k (by have:=hH.len;omega)];simp[hl2]
   have hlk:=(hH.maps k hl2 kt).lookup sq bm s (.pointer none) (Mu w) true;have hst:=af (A0 (s:=s) kt);rw[di lV] at hlk;generalize ms[k]=m at hc hlk;cases hg:getM s fb[k] with
   |none=>
    rw[hg] at hst hlk;simp only[Option.map_none,Option.getD_none,Option.isSome_none,if_true] at hlk;go_wp2_with fail
    exact⟨⟨k,rfl,by omega,by rw[←hS.out,hst.out],trivial⟩,by simp only[intOf];omega⟩
   |some t=>
    rw[hg] at hst hlk;simp only[Option.map_some,Option.getD_some,Option.isSome_some,if_true] at hlk;go_wp2_with fail
    go_ret;rw[←hS.out,hst.out];exact⟨rfl,rfl⟩
end
section
open Go.MapKept (run_checkKey run_findKey run_setObj_map IsKey heap_set)
def IB {α:Type} (k:Int):List (Int×α)→Option α
 |[]=>none
 |x::r=>if k==x.1 then some x.2 else IB k r
def nh (w:World) (b:Nat) (l:List (Int×Value)):Prop:=
 ∃(es:Array MapEntry) (clock:Nat),w.heap[b]? =some (.map es clock)∧es.toList.map (fun e=>(e.key,e.val))=l.map fun x=>(Value.int .u8 x.1,x.2)
theorem nh.new (w:World):nh (w.alloc (.map #[] 0)) w.heap.size []:=⟨#[],0,heap_alloc_new w _,rfl⟩
theorem nh.lt {w:World} {b:Nat} {l:List (Int×Value)} (h:nh w b l):b<w.heap.size:=by
 obtain⟨es,c,h,_⟩:=h;exact lt_of_block h
theorem nh.on {w w':World} {b:Nat} {l:List (Int×Value)} (h:nh w b l) {row:Option Nat} (hg:w.grownBy w' row) (hn:some b≠row):nh w' b l:=by
 obtain⟨es,c,h,h2⟩:=h;exact⟨es,c,(hg.block b (lt_of_block h) hn).trans h,h2⟩
theorem nh.at {w w':World} {b:Nat} {l:List (Int×Value)} (h:nh w b l) (e:w'.heap[b]? =w.heap[b]?):nh w' b l:=by
 obtain⟨es,c,h,h2⟩:=h;exact⟨es,c,e.trans h,h2⟩
theorem mP (k:Int):∀(es:List MapEntry) (l:List (Int×Value)) (i:Nat),es.map (fun e=>(e.key,e.val))=l.map (fun x=>(Value.int .u8 x.1,x.2))→
  ∃r,Instr.findNow (.int .u8) (.int .u8 k) es i=some r∧r.map (·.2)=IB k l
 |[],[],i,_=>⟨none,rfl,rfl⟩
 |[],x::l,i,h=>by cases h
 |e::es,[],i,h=>by cases h
 | e::es,x::l,i,h=>by
  simp only[List.map_cons,List.cons.injEq,Prod.mk.injEq] at h;obtain⟨⟨h1,h2⟩,h3⟩:=h;simp only[Instr.findNow,h1,Instr.sameNow,if_true,IB];cases hq:k==x.1
  ·simp only[Bool.false_eq_true,if_false];exact mP k es l (i+1) h3
  ·simp only[if_true,h2];exact⟨_,rfl,rfl⟩
section
variable {P:Program} {w:World} {b:Nat} {l:List (Int×Value)} {T K E:TypeId}
theorem nh.lookup (h:nh w b l) (hT:P.underlying T=some (.map K E)) (hK:P.underlying K=some (.int .u8)) (k:Int) (v:Value) (hv:IB k l=some v):
  (Instr.lookup T (.map (some b)) (.int .u8 k) false).run P w=.ok v w:=by
 obtain⟨es,c,h1,h2⟩:=h;obtain⟨r,hf,hr⟩:=mP k es.toList l 0 h2;have kq:(Instr.checkKey es.isEmpty 10000 K (.int .u8 k)).run P w=.ok () w:=run_checkKey hK (k:=.int .u8 k) (by simp[IsKey]) es.isEmpty 9999;rw[hv] at hr;cases r with
 |none=>cases hr
 |some a=>
  obtain⟨j,y⟩:=a;simp only[Option.map_some,Option.some.injEq] at hr;subst hr;simp[Instr.lookup,run_underlying hT,MapKept.run_getObj_map h1,kq,run_findKey hK hf,Result.andThen]
theorem nh.put (h:nh w b l) (hT:P.underlying T=some (.map K E)) (hK:P.underlying K=some (.int .u8)) (k:Int) (v:Value) (hn:IB k l=none):
  ∃w',(Instr.mapUpdate T (.map (some b)) (.int .u8 k) v).run P w=.ok () w'∧w.grownBy w' (some b)∧w'.heap.size=w.heap.size∧nh w' b (l++[(k,v)]):=by
 obtain⟨es,c,h1,h2⟩:=h;obtain⟨r,hf,hr⟩:=mP k es.toList l 0 h2;have kq:(Instr.checkKey false 10000 K (.int .u8 k)).run P w=.ok () w:=run_checkKey hK (k:=.int .u8 k) (by simp[IsKey]) false 9999;have hgr:∀o,w.grownBy {w with heap:=w.heap.setIfInBounds b o} (some b):=fun o=>⟨rfl,rfl,rfl,by simp,fun i hi hn=>by
  have:b≠i:=fun q=>hn (by rw[q])
  simp[this]⟩
 rw[hn] at hr;cases r with
 |some a=>cases hr
 |none=>
  refine⟨_,by simp[Instr.mapUpdate,run_underlying hT,MapKept.run_getObj_map h1,kq,run_findKey hK hf,run_setObj_map _ h1,Result.andThen];rfl,hgr _,by simp,?_⟩;refine⟨_,_,(heap_set h1).1,?_⟩;simp[h2]
end
end
section
open Go.Shelf
def hc2:List ByteArray→List Value→List Value
 |a::r,x::xs=>.string a::x::hc2 r xs
 |_,_=>[]
theorem Ba:∀(VL:List ByteArray) (xs:List Value) (i:Nat) (h:i<xs.length),xs.length=VL.length→(hc2 VL xs)[i*2+1]? =some xs[i]
 |[],[],i,h,_=>by simp at h
 |[],_::_,_,_,h=>by simp at h
 |_::_,[],_,h,_=>by simp at h
 |a::r,x::xs,0,h,_=>rfl
 |a::r,x::xs,i+1,h,h2=>by
  have:=Ba r xs i (by simpa using h) (by simpa using h2);simp only[hc2,List.getElem_cons_succ];rw[show(i+1)*2+1=(i*2+1)+1+1 by omega];simpa using this
def sr (M kc:Nat):List (Int×Value):=[(1,.func (.func 74) #[] #[]),(2,.func (.func 74) #[] #[]),(3,.func (.func 75) #[] #[.pointer (some ⟨kc,0,none⟩)]),(4,.func (.func 77) #[] #[.pointer (some ⟨kc,0,none⟩)]),(5,.func (.func 80) #[.pointer (some ⟨M,0,none⟩)] #[]),
 (6,.func (.func 81) #[.pointer (some ⟨M,0,none⟩)] #[]),(7,.func (.func 82) #[.pointer (some ⟨M,0,none⟩)] #[]),(8,.func (.func 83) #[] #[.pointer (some ⟨kc,0,none⟩)])]
structure Mv (p:Pt) (cf:Cf) (u:UT) (n:Nat) (w:World):Prop where
 X:Bx w p.X #[p.vg,p.vh,p.vf,.map (some p.vb),.map (some p.cb),p.hv,.map (some p.pb)] 94
 unit:jR (aA w (bJ p.B)) false none u (.agg #[p.vg,p.vh,p.vf])
 nm:pH (aA w (bJ p.B)) cf.vs cf.cs p.vb p.cb
 place:Mp w p.pb (cf.pl.map fun x=>(x.1,Value.int .i64 x.2))
 held:w.ownsRow p.B 82 2 p.hv p.xs.length (hc2 p.VL p.xs)
 hlen:p.xs.length=p.VL.length
 vals:∃ka kb aD aK,p.vv=.slice ka cf.values.length aK∧(cf.values.length=0∨ka=some ⟨kb,aD,none⟩)∧(cf.values.length=0∨(kb<n∧¬p.T kb))∧∀i (h:i<cf.values.length),w.cell? ⟨kb,aD+i,none⟩=some (.int .u32 cf.values[i])
 pl:∀s x,getM s cf.vs=some x→∃i:Nat,getM s cf.pl=some (i:Int)∧i<p.xs.length
 hs:u.hs=cf.hs
 fs:u.fs=cf.fs
 lX:p.X<n
 lv:p.vb<p.B
 lc:p.cb<p.B
 lp:p.pb<p.B
 M:p.B≤p.M
 Bn:p.B≤n
 lh:∀b,p.hv.ownBlock=some b→b<n
 lx:∀x∈p.xs,∀b,x.ownBlock=some b→b<n
 kinds:nh w p.kb (sr p.M p.kc)
 IC:Bx w p.kc #[.pointer (some ⟨p.M,0,none⟩)] 116
 lk:p.kb<n
 lkc:p.kc<n
 VM:cf.values.length≤1000000000
theorem gT {w:World} {base:Nat} {e:TypeId} {size k:Nat} {v:Value} {ys:List Value} (h:w.ownsRow base e size v k ys) {b:Nat} (hb:v.ownBlock=some b):base≤b:=by
 rcases h.2 with⟨rfl,_⟩|⟨g,cap,cur,rfl,hg,_⟩
 ·cases hb
 ·cases hb;exact hg
theorem aU.own {T:Nat→Prop} {k:Nat} {w w':World} (h:aU T k w w') {base:Nat} {e:TypeId} {size j:Nat} {v:Value} {ys:List Value} (hr:w.ownsRow base e size v j ys) (hb:∀b,v.ownBlock=some b→b<k∧¬T b):w'.ownsRow base e size v j ys:=by
 refine⟨hr.1,?_⟩;rcases hr.2 with q|⟨g,cap,cur,rfl,h1,h2,h3⟩
 ·exact .inl q
 ·exact .inr ⟨g,cap,cur,rfl,h1,(h.block g (hb g rfl).1 (hb g rfl).2).trans h2,h3⟩
theorem uA.base {w:World} {n:Nat} {evs:List Ev} {eZ:List Value} {ats:List j4} {ve:Value} (h:uA w n evs eZ ats ve) {b:Nat} (hb:ve.ownBlock=some b):n≤b:=gT h.row hb
theorem iy.old {p:Pt} {a n d:Nat} {m:MS} {ve:EvS} {w:World} (h:iy p a n d m ve w) (hM:p.B≤p.M) (hn:p.B≤n) {b:Nat} (hb:b<p.B):¬p.TE ve b:=by
 rintro((rfl|⟨x,hx,hq⟩)|hq)
 ·omega
 ·obtain⟨i,hi,rfl⟩:=List.getElem_of_mem hx;have:=gT (h.words i hi (by have:=h.len;omega)) hq;omega
 ·obtain⟨ats,he⟩:=h.evs;have:=he.base hq;omega
theorem iy.other {p:Pt} {a n d:Nat} {m:MS} {ve:EvS} {w:World} (h:iy p a n d m ve w) {base:Nat} {e:TypeId} {size k:Nat} {v:Value} {ys:List Value} (hr:w.ownsRow base e size v k ys) (h1:e≠119) (h2:e≠52) (h3:e≠127) {b:Nat} (hb:v.ownBlock=some b):¬p.TE ve b:=by
 obtain⟨en,va,fa,hx⟩:=h.box;rintro((rfl|⟨x,hx2,hq⟩)|hq)
 ·exact hx.not_row hr (Ne.symm h1) hb.symm
 ·obtain⟨i,hi,rfl⟩:=List.getElem_of_mem hx2;rcases pg hr (h.words i hi (by have:=h.len;omega)) h2 with e1|e1
  ·rw[e1] at hb;cases hb
  ·exact e1 (by rw[hb,hq])
 ·obtain⟨ats,he⟩:=h.evs;rcases pg hr he.row h3 with e1|e1
  ·rw[e1] at hb;cases hb
  ·exact e1 (by rw[hb,hq])
theorem dz {w:World} {base:Nat} {e:TypeId} {size k:Nat} {v:Value} {ys:List Value} (h:w.ownsRow base e size v k ys) {b:Nat} (hb:v.ownBlock=some b):∃cs,Bx w b cs e:=by
 rcases h.2 with⟨rfl,_⟩|⟨g,cap,cur,rfl,_,hg,_⟩
 ·cases hb
 ·cases hb;exact⟨cur,hg⟩
theorem iy.blocks {p:Pt} {a n d:Nat} {m:MS} {ve:EvS} {w:World} (h:iy p a n d m ve w) {b:Nat} (hb:p.TE ve b):∃cs t,Bx w b cs t∧(t=119∨t=52∨t=127):=by
 obtain⟨en,va,fa,hx⟩:=h.box;rcases hb with(rfl|⟨x,hx2,hq⟩)|hq
 ·exact⟨_,_,hx,.inl rfl⟩
 ·obtain⟨i,hi,rfl⟩:=List.getElem_of_mem hx2;obtain⟨cs,hc⟩:=dz (h.words i hi (by have:=h.len;omega)) hq;exact⟨cs,_,hc,.inr (.inl rfl)⟩
 ·obtain⟨ats,he⟩:=h.evs;obtain⟨cs,hc⟩:=dz he.row hq;exact⟨cs,_,hc,.inr (.inr rfl)⟩
theorem iy.dB {p:Pt} {a n d:Nat} {m:MS} {ve:EvS} {w:World} (h:iy p a n d m ve w) {q:Nat} {cs:Array Value} {t:TypeId} (hx:Bx w q cs t) (h1:t≠119) (h2:t≠52) (h3:t≠127):¬p.TE ve q:=fun hq=>by
 obtain⟨lq,t2,hb,ht⟩:=h.blocks hq;unfold Bx at hx hb;rw[hx] at hb;simp at hb;obtain⟨-,rfl⟩:=hb;rcases ht with e|e|e
 ·exact h1 e
 ·exact h2 e
 ·exact h3 e
theorem iy.jt {p:Pt} {a n d:Nat} {m:MS} {ve:EvS} {w:World} (h:iy p a n d m ve w) {b:Nat} {es:Array MapEntry} {c:Nat} (hm:w.heap[b]? =some (.map es c)):¬p.TE ve b:=fun hq=>by
 obtain⟨lq,t2,hb,ht⟩:=h.blocks hq;unfold Bx at hb;rw[hm] at hb;cases hb
theorem Mv.move {p:Pt} {cf:Cf} {u:UT} {n:Nat} {w w':World} (h:Mv p cf u n w) {a d:Nat} {m:MS} {ve:EvS} (hm:iy p a n d m ve w) {k:Nat} (hk:aU (p.TE ve) k w w') (hn:n≤k):Mv p cf u n w':=by
 have old:∀b,b<p.B→b<k∧¬p.TE ve b:=fun b hb=>⟨by have:=h.Bn;omega,hm.old h.M h.Bn hb⟩
 have hc:Cells (aA w (bJ p.B)) (aA w' (bJ p.B)):=hk.cells fun b hb=>old b (by simpa using hb)
 have mv:∀{b l},b<p.B→Mp (aA w (bJ p.B)) b l→Mp (aA w' (bJ p.B)) b l:=fun{b l} hb hq=>iF (hk.map (ew hq (by simpa using hb)) (old b hb).1 (old b hb).2) (by simpa using hb)
 obtain⟨ka,kb,aD,aK,v1,v2,v4,v3⟩:=h.vals;have hv:∀i (hi:i<cf.values.length),w'.cell? ⟨kb,aD+i,none⟩=some (.int .u32 cf.values[i]):=fun i hi=>by
  rcases v4 with q|⟨q1,q2⟩
  ·omega
  have hne:¬p.TE ve kb:=by
   rintro(q|q)
   ·exact q2 q
   ·obtain⟨ats,he⟩:=hm.evs;have:=he.base q;omega
  have hb:=hk.block kb (by omega) hne;have:=v3 i hi;unfold World.cell? at this⊢;rw[hb];exact this
 obtain⟨c1,l,c2,c3⟩:=h.nm;exact⟨hk.box h.X (by have:=h.lX;omega) (hm.dB h.X (by decide) (by decide) (by decide)),h.unit.sub hc,⟨mv h.lv c1,l,mv h.lc c2,c3.sub hc⟩,hk.map h.place (old _ h.lp).1 (old _ h.lp).2,
  hk.own h.held fun b hb=>⟨by have:=h.lh b hb;omega,hm.other h.held (by decide) (by decide) (by decide) hb⟩,h.hlen,⟨ka,kb,aD,aK,v1,v2,v4,hv⟩,h.pl,h.hs,h.fs,h.lX,h.lv,h.lc,h.lp,h.M,h.Bn,h.lh,h.lx,
  by obtain⟨es,c,q1,q2⟩:=h.kinds;exact⟨es,c,(hk.block _ (by have:=h.lk;omega) (hm.jt q1)).trans q1,q2⟩,hk.box h.IC (by have:=h.lkc;omega) (hm.dB h.IC (by decide) (by decide) (by decide)),h.lk,h.lkc,h.VM⟩
end
section
abbrev U (x:Int):Prop:=0≤x∧x<4294967296
def MS.Rg (m:MS):Prop:=∀q∈m.held,∀x∈q,U x
def Fr.Rg (fr:Fr):Prop:=∀sc∈fr,∀x∈sc,U x.2.2
def Out.Rg {α:Type} (P:α→Prop):Out α→Prop
 | .ok a m=>P a∧m.Rg
 | .stop _ _ m=>m.Rg
 | .lost=>True
theorem Out.cj {α β:Type} {P:α→Prop} {Q:β→Prop} {o:Out α} {f:α→MS→Out β} (h:o.Rg P) (hf:∀a m,P a→m.Rg→(f a m).Rg Q):(o.bind f).Rg Q:=by
 cases o with
 |ok a m=>exact hf a m h.1 h.2
 |stop k x m=>exact h
 |lost=>trivial
structure IE (A:Vy):Prop where
 one:∀op a,U a→U (A.U op a)
 two:∀op a b r,U a→U b→A.B op a b=some r→U r
structure Cf.Rg (cf:Cf):Prop where
 jd:IE cf.jd
 values:∀x∈cf.values,U x
 body:∀f∈cf.fs,f.body.Wf
theorem yr {α:Type} (s:ByteArray):∀(l:List (ByteArray×α)) (v:α),getM s l=some v→∃k,(k,v)∈l
 |[],v,h=>by cases h
 | x::l,v,h=>by
  rw[cO] at h;split at h
  ·cases h;exact⟨x.1,by simp⟩
  ·obtain⟨k,hk⟩:=yr s l v h;exact⟨k,by simp[hk]⟩
theorem oc {α:Type} (s:ByteArray) (v:α):∀(l:List (ByteArray×α)) (x:ByteArray×α),x∈aY s v l→x=(s,v)∨x∈l
 |[],x,h=>by simp[aY] at h;exact .inl h
 | y::l,x,h=>by
  simp only[aY] at h;split at h
  ·rcases List.mem_cons.1 h with q|q
   ·exact .inl q
   ·exact .inr (by simp[q])
  ·rcases List.mem_cons.1 h with q|q
   ·exact .inr (by simp[q])
   ·rcases oc s v l x q with q|q
    ·exact .inl q
    ·exact .inr (by simp[q])
theorem IG {s:ByteArray} {fr:Fr} {t:Int×Int} (h:ml s fr=some t):∃sc∈fr,∃k,(k,t)∈sc:=by
 suffices∀(fr:Fr) (a:Option (Int×Int)),fr.foldl (fun a sc=>match getM s sc with|some t=>some t|none=>a) a=some t→a=some t∨∃sc∈fr,∃k,(k,t)∈sc by
  rcases this fr none h with q|q
  ·cases q
  ·exact q
 intro fr
 induction fr with
 |nil=>intro a h;exact .inl h
 | cons c r ih=>
  intro a h;simp only[List.foldl_cons] at h;rcases ih _ h with q|⟨sc,q1,q2⟩
  ·cases hg:getM s c with
   |none=>rw[hg] at q;exact .inl q
   |some y=>
    rw[hg] at q;cases q;exact .inr ⟨c,by simp,yr s c _ hg⟩
  ·exact .inr ⟨sc,by simp[q1],q2⟩
theorem j7 {cf:Cf} {m:MS} (hm:m.Rg) (s:ByteArray):∀x∈bI cf m s,U x:=by
 intro x hx;unfold bI at hx;rw[List.getD_eq_getElem?_getD] at hx;cases hq:m.held[placeOf cf s]? with
 |none=>rw[hq] at hx;simp at hx
 |some l=>rw[hq] at hx;exact hm l (List.mem_of_getElem? hq) x (by simpa using hx)
theorem su {cf:Cf} {fr:Fr} {m:MS} (hf:fr.Rg) (hm:m.Rg) (s:ByteArray):U (ib cf fr m s).2:=by
 unfold ib;cases hs:ml s fr with
 |some x=>
  obtain⟨sc,h1,k,h2⟩:=IG hs;exact hf sc h1 _ h2
 |none=>
  show U ((bI cf m s).getD 0 0)
  rw[List.getD_eq_getElem?_getD];cases hq:(bI cf m s)[0]? with
  |none=>exact⟨by decide,by decide⟩
  |some y=>exact j7 hm s y (List.mem_of_getElem? hq)
theorem vZ {s:ByteArray} {v:Int} (hv:U v):∀{fr:Fr},fr.Rg→Fr.Rg (rM s v fr)
 |[],h=>h
 | c ::r,h=>by
  have h1:∀x∈c,U x.2.2:=h c (by simp);have h2:Fr.Rg r:=fun sc hs=>h sc (by simp[hs])
  unfold rM;split
  ·intro sc hs;rcases List.mem_cons.1 hs with rfl|q
   ·exact h1
   ·exact vZ hv h2 sc q
  ·split
   ·intro sc hs;rcases List.mem_cons.1 hs with rfl|q
    ·intro x hx;rcases oc _ _ _ _ hx with rfl|q
     ·exact hv
     ·exact h1 x q
    ·exact h2 sc q
   ·exact h
theorem yt {s:ByteArray} {x:Int×Int} (hv:U x.2) {fr:Fr} (h:fr.Rg):Fr.Rg (iE s x fr):=by
 intro sc hs;unfold iE at hs;rcases List.mem_append.1 hs with q|q
 ·exact h sc (List.dropLast_subset _ q)
 ·simp only[List.mem_singleton] at q;subst q;intro y hy;rcases oc _ _ _ _ hy with rfl|q
  ·exact hv
  ·cases hl:fr.getLast? with
   |none=>simp[List.getLastD_eq_getLast?,hl] at q
   |some z=>
    rw[List.getLastD_eq_getLast?,hl] at q;exact h z (List.mem_of_getLast? hl) y (by simpa using q)
theorem qQ {cf:Cf} {m:MS} (hm:m.Rg) (s:ByteArray) (i:Nat) {v:Int} (hv:U v):(fM cf m s i v).Rg:=by
 intro q hq x hx;have jy:q∈m.held.set (placeOf cf s) ((bI cf m s).set i v):=hq;rcases List.mem_or_eq_of_mem_set jy with h|rfl
 ·exact hm q h x hx
 ·rcases List.mem_or_eq_of_mem_set hx with h|rfl
  ·exact j7 hm s x h
  ·exact hv
theorem uB {cf:Cf} {fr:Fr} {m:MS} (hf:fr.Rg) (hm:m.Rg) (s:ByteArray) {v:Int} (hv:U v):(cE cf fr m s v).1.Rg∧(cE cf fr m s v).2.Rg:=by
 unfold cE;split
 ·exact⟨vZ hv hf,hm⟩
 ·exact⟨hf,qQ hm s 0 hv⟩
theorem yu (b:Bool):U (fu b):=by cases b<;>exact⟨by decide,by decide⟩
theorem iH {A:Vy} (hA:IE A) {s:ByteArray} {t a b r:Int} (ha:U a) (hb:U b) (h:cD A s t a b=some r):U r:=by
 unfold cD at h;simp only[] at h;split at h
 ·cases h;split<;>exact⟨by decide,by decide⟩
 ·exact hA.two _ _ _ _ ha hb h
theorem wh (cf:Cf) {m:MS} (hm:m.Rg):(tick cf m).Rg fun _=>True:=by
 unfold tick;split
 ·exact hm
 ·exact⟨trivial,hm⟩
abbrev Lr (q:Int×Int×Fr):Prop:=U q.2.1∧q.2.2.Rg
theorem U0:U 0:=⟨by decide,by decide⟩
structure ic.Rg (ev:ic):Prop where
 E:∀d fr h k m,h.Wf→k.Wf→fr.Rg→m.Rg→(ev.E d fr h k m).Rg U
 L:∀d fr l m,l.Wf→fr.Rg→m.Rg→(ev.L d fr l m).Rg Lr
 W:∀d fr h k b m,h.Wf→k.Wf→b.Wf→fr.Rg→m.Rg→(ev.W d fr h k b m).Rg Lr
 F:∀d g l m,(∀x∈l,U x)→m.Rg→(ev.F d g l m).Rg U
theorem az.fW:∀{l:az},l.Wf→∀(i:Nat) (a:EH×az),l.bu[i]? =some a→a.1.Wf∧a.2.Wf
 | .nil,_,i,a,h=>by simp[az.bu] at h
 | .cons h k r,hw,i,a,ha=>by
  cases i with
  |zero=>
   simp only[az.bu,List.getElem?_cons_zero,Option.some.injEq] at ha;subst ha;exact⟨hw.1,hw.2.1⟩
  |succ i=>
   simp only[az.bu,List.getElem?_cons_succ] at ha;exact az.fW hw.2.2 i a ha
section
variable {cf:Cf} {ev:ic} (hc:cf.Rg) (hg:ev.Rg)
include hg
theorem gX (d:Nat) {fr:Fr} {l:az} (i:Nat) {m:MS} (hl:l.Wf) (hf:fr.Rg) (hm:m.Rg):(jo ev d fr l i m).Rg U:=by
 unfold jo;split
 ·rename_i a ha;exact hg.E _ _ _ _ _ (az.fW hl i a ha).1 (az.fW hl i a ha).2 hf hm
 ·trivial
theorem uC (d:Nat) {fr:Fr} (hf:fr.Rg):∀{l:az} {m:MS},l.Wf→m.Rg→(df ev d fr l m).Rg fun l=>∀x∈l,U x
 | .nil,m,_,hm=>⟨fun x hx=>by simp at hx,hm⟩
 | .cons h k r,m,hw,hm=>Out.cj (hg.E _ _ _ _ _ hw.1 hw.2.1 hf hm) fun v m1 hv fH=>Out.cj (uC d hf hw.2.2 fH) fun l m2 hl dX=>⟨fun x hx=>by
   rcases List.mem_cons.1 hx with rfl|q
   ·exact hv
   ·exact hl x q,dX⟩
include hc
theorem II (d:Nat) {fr:Fr} {h:EH} {k:az} {m:MS} (hw:h.Wf) (hk:k.Wf) (hf:fr.Rg) (hm:m.Rg):(aF cf ev d fr h k m).Rg U:=by
 have HW:=af hw.1;clear hw;unfold aF;split
 ·exact⟨HW.out,hm⟩
 split
 ·exact⟨su hf hm _,hm⟩
 split
 ·refine Out.cj (gX hg _ _ hk hf hm) fun i m1 hi fH=>?_
  split
  ·rename_i x hx;exact⟨j7 fH _ x (List.mem_of_getElem? hx),fH⟩
  ·exact fH
 split
 ·refine Out.cj (uC hg _ hf hk hm) fun args m1 ha fH=>?_
  split
  ·trivial
  ·split
   ·exact hg.F _ _ _ _ ha fH
   ·unfold je;split
    ·exact fH
    ·rename_i v hv;split
     ·trivial
     ·exact⟨hc.values v (List.mem_of_getElem? hv),fH⟩
 split
 ·refine Out.cj (gX hg _ _ hk hf hm) fun v m1 hv fH=>?_
  split
  ·exact⟨hc.jd.one _ _ hv,fH⟩
  split
  ·exact⟨yu _,fH⟩
  split
  ·exact⟨hc.jd.one _ _ hv,fH⟩
  ·exact⟨hc.jd.one _ _ hv,fH⟩
 split
 ·refine Out.cj (gX hg _ _ hk hf hm) fun a m1 ha fH=>?_
  split
  ·exact⟨U0,fH⟩
  split
  ·exact⟨⟨by decide,by decide⟩,fH⟩
  refine Out.cj (gX hg _ _ hk hf fH) fun b m2 hb dX=>?_
  split
  ·exact⟨yu _,dX⟩
  ·split
   ·rename_i x hx;exact⟨iH hc.jd ha hb hx,dX⟩
   ·exact dX
 split
 ·refine Out.cj (gX hg _ _ hk hf hm) fun v m1 hv fH=>?_
  split
  ·exact⟨hv,fH⟩
  split
  ·exact⟨hc.jd.one _ _ hv,fH⟩
  ·exact⟨hc.jd.one _ _ hv,fH⟩
 ·trivial
theorem Mw (d:Nat) {fr:Fr} (h:SH) {x:az} {m:MS} (hx:x.Wf) (hf:fr.Rg) (hm:m.Rg):(ij cf ev d fr h x m).Rg Fr.Rg:=by
 unfold ij;refine Out.cj (gX hg _ _ hx hf hm) fun v m2 hv dX=>?_
 split
 ·exact uB hf dX _ hv
 ·split
  ·rename_i r hr;exact uB hf dX _ (iH hc.jd (su hf hm _) hv hr)
  ·exact dX
theorem Mx (d:Nat) {fr:Fr} (h:SH) {x:az} {m:MS} (hx:x.Wf) (hf:fr.Rg) (hm:m.Rg):(gB cf ev d fr h x m).Rg fun _=>True:=by
 unfold gB;refine Out.cj (gX hg _ _ hx hf hm) fun i m1 hi fH=>?_
 split
 ·exact fH
 ·rename_i old ho;refine Out.cj (gX hg _ _ hx hf fH) fun v m2 hv dX=>?_
  split
  ·exact⟨trivial,qQ dX _ _ hv⟩
  ·split
   ·rename_i r hr;exact⟨trivial,qQ dX _ _ (iH hc.jd (j7 fH _ old (List.mem_of_getElem? ho)) hv hr)⟩
   ·exact dX
theorem IJ (d:Nat) {fr:Fr} (h:SH) {x:az} {b e:aH} {m:MS} (hx:x.Wf) (hb:b.Wf) (he:e.Wf) (hf:fr.Rg) (hm:m.Rg):(bn cf ev d fr h x b e m).Rg Lr:=by
 unfold bn;refine Out.cj (wh _ hm) fun _ m1 _ fH=>?_
 split
 ·exact Out.cj (gX hg _ _ hx hf fH) fun v m2 hv dX=>⟨⟨U0,yt hv hf⟩,dX⟩
 split
 ·exact Out.cj (Mw hc hg _ _ hx hf fH) fun fr2 m2 hf2 dX=>⟨⟨U0,hf2⟩,dX⟩
 split
 ·exact Out.cj (Mx hc hg _ _ hx hf fH) fun _ m2 _ dX=>⟨⟨U0,hf⟩,dX⟩
 split
 ·refine Out.cj (gX hg _ _ hx hf fH) fun c m2 _ dX=>?_
  split
  ·exact hg.L _ _ _ _ he hf dX
  ·exact hg.L _ _ _ _ hb hf dX
 split
 ·split
  ·rename_i a ha;exact hg.W _ _ _ _ _ _ (az.fW hx 0 a ha).1 (az.fW hx 0 a ha).2 hb hf fH
  ·trivial
 split
 ·exact⟨⟨U0,hf⟩,fH⟩
 split
 ·exact⟨⟨U0,hf⟩,fH⟩
 split
 ·exact Out.cj (gX hg _ _ hx hf fH) fun v m2 hv dX=>⟨⟨hv,hf⟩,dX⟩
 split
 ·exact Out.cj (gX hg _ _ hx hf fH) fun v m2 hv dX=>⟨⟨U0,hf⟩,dX⟩
 ·exact⟨⟨U0,hf⟩,fH⟩
theorem uD (d:Nat):∀{l:aH} {fr:Fr} {m:MS},l.Wf→fr.Rg→m.Rg→(cM cf ev d l fr m).Rg Lr
 | .nil,fr,m,_,hf,hm=>⟨⟨U0,hf⟩,hm⟩
 | .cons h x b e r,fr,m,hw,hf,hm=>by
  unfold cM;refine Out.cj (IJ hc hg d h hw.2.1 hw.2.2.1 hw.2.2.2.1 hf hm) fun q m1 hq fH=>?_
  split
  ·exact uD d hw.2.2.2.2 hq.2 fH
  ·exact⟨hq,fH⟩
theorem IK (d:Nat) {fr:Fr} {l:aH} {m:MS} (hl:l.Wf) (hf:fr.Rg) (hm:m.Rg):(mq cf ev d fr l m).Rg Lr:=by
 unfold mq;refine Out.cj (uD hc hg d hl ?_ hm) fun q m1 hq fH=>⟨⟨hq.1,fun sc hs=>hq.2 sc (List.dropLast_subset _ hs)⟩,fH⟩
 intro sc hs;rcases List.mem_append.1 hs with q|q
 ·exact hf sc q
 ·simp only[List.mem_singleton] at q;subst q;intro x hx;simp at hx
omit hc in
theorem EM (d:Nat) {fr:Fr} {h:EH} {k:az} {b:aH} {m:MS} (hh:h.Wf) (hk:k.Wf) (hb:b.Wf) (hf:fr.Rg) (hm:m.Rg):(fU cf ev d fr h k b m).Rg Lr:=by
 unfold fU;refine Out.cj (hg.E _ _ _ _ _ hh hk hf hm) fun c m1 _ fH=>?_
 split
 ·exact⟨⟨U0,hf⟩,fH⟩
 ·refine Out.cj (hg.L _ _ _ _ hb hf fH) fun q m2 hq dX=>?_
  split
  ·exact⟨hq,dX⟩
  split
  ·exact⟨⟨U0,hq.2⟩,dX⟩
  ·exact Out.cj (wh _ dX) fun _ m3 _ Lq=>hg.W _ _ _ _ _ _ hh hk hb hq.2 Lq
theorem IL (d:Nat) (g:eE) {l:List Int} {m:MS} (hl:∀x∈l,U x) (hm:m.Rg):(ku cf ev d g l m).Rg U:=by
 have par:∀(ps:List PW) (l:List Int) (sc:Hp),(∀x∈l,U x)→(∀x∈sc,U x.2.2)→∀x∈fT ps l sc,U x.2.2:=by
  intro ps
  induction ps with
  |nil=>intro l sc _ h;cases l<;>exact h
  | cons p r ih=>
   intro l sc hl h;cases l with
   |nil=>exact h
   |cons a l=>
    refine ih l _ (fun x hx=>hl x (by simp[hx])) (fun x hx=>?_);rcases oc _ _ _ _ hx with rfl|q
    ·exact hl a (by simp)
    ·exact h x q
 unfold ku;split
 ·exact hm
 ·split
  ·trivial
  ·rename_i f hf;refine Out.cj (hg.L _ _ _ _ (hc.body f (List.mem_of_getElem? hf)) (fun sc hs=>?_) hm) fun q m1 hq fH=>⟨hq.1,fH⟩
   simp only[List.mem_singleton] at hs;subst hs;exact par _ _ _ hl (fun x hx=>by simp at hx)
end
theorem pz {cf:Cf} (hc:cf.Rg):∀n,(aI cf n).Rg
 |0=>⟨fun _ _ _ _ _ _ _ _ _=>trivial,fun _ _ _ _ _ _ _=>trivial,fun _ _ _ _ _ _ _ _ _ _ _=>trivial,fun _ _ _ _ _ _=>trivial⟩
 |n+1=>⟨fun d fr h k m hh hk hf hm=>Out.cj (wh _ hm) fun _ m1 _ fH=>II hc (pz hc n) _ hh hk hf fH,fun d fr l m hl hf hm=>IK hc (pz hc n) _ hl hf hm,
  fun d fr h k b m hh hk hb hf hm=>EM (pz hc n) _ hh hk hb hf hm,fun d g l m hl hm=>IL hc (pz hc n) _ _ hl hm⟩
/-! ### the arithmetic unit's -/
theorem pX (x:Int):U (x%4294967296):=by
 have h1:=Int.emod_nonneg x (by decide:(4294967296:Int)≠0);have h2:=Int.emod_lt_of_pos x (by decide:(0:Int)<4294967296);exact⟨h1,h2⟩
theorem Bb (x:Int):U (IntKind.u32.wrap x):=by
 have:IntKind.u32.wrap x=x%4294967296:=by unfold IntKind.wrap;simp[IntKind.signed,IntKind.bits]
 rw[this];exact pX x
theorem IP {r:Nat} (h:r<4294967296):U (jf r):=by
 unfold jf;split
 ·exact⟨by decide,by decide⟩
 ·exact⟨by omega,by omega⟩
theorem sw (op:BinOp) (a b:Int):U (bits op .u32 a b):=by
 unfold bits;exact Bb _
theorem QV (z:Int):floatOfInt .f32 z<4294967296:=by
 have h:=FloatKind.f32.format.write_lt (.number (z<0) z.natAbs 0);have e:2^FloatKind.f32.format.width=4294967296:=by decide
 rw[e] at h;exact h
theorem wj:IE gm:=by
 constructor
 ·intro op a ha
  show U (bS op a)
  unfold bS Iw
  repeat' split
  ·exact sw _ _ _
  ·exact sw _ _ _
  ·exact IP (QV _)
  ·exact Bb _
  ·exact Bb _
 ·intro op a b r ha hb h;have h2:fx op a b=some r:=h;unfold fx at h2;have fl:∀o:Option Nat,(∀r,o=some r→r<4294967296)→U (js o):=fun o ho=>by
   cases o with
   |none=>exact⟨by decide,by decide⟩
   |some r=>exact IP (ho r rfl)
  by_cases SK:op=39
  ·rw[if_pos SK] at h2;cases h2;exact pX _
  rw[if_neg SK] at h2;by_cases h40:op=40
  ·rw[if_pos h40] at h2;cases h2;exact pX _
  rw[if_neg h40] at h2;by_cases h41:op=41
  ·rw[if_pos h41] at h2;cases h2;exact pX _
  rw[if_neg h41] at h2;by_cases h42:op=42
  ·rw[if_pos h42] at h2;by_cases hz:wrap32 b=0
   ·rw[if_pos hz] at h2;cases h2
   ·rw[if_neg hz] at h2;cases h2;exact pX _
  rw[if_neg h42] at h2;by_cases h44:op=44
  ·rw[if_pos h44] at h2;by_cases hz:wrap32 b=0
   ·rw[if_pos hz] at h2;cases h2
   ·rw[if_neg hz] at h2;cases h2;exact pX _
  rw[if_neg h44] at h2;by_cases h46:op=46
  ·rw[if_pos h46] at h2;cases h2;exact sw _ _ _
  rw[if_neg h46] at h2;by_cases h47:op=47
  ·rw[if_pos h47] at h2;cases h2;exact sw _ _ _
  rw[if_neg h47] at h2;by_cases h48:op=48
  ·rw[if_pos h48] at h2;cases h2;exact sw _ _ _
  rw[if_neg h48] at h2;by_cases h50:op=50
  ·rw[if_pos h50] at h2;cases h2;exact pX _
  rw[if_neg h50] at h2;by_cases h51:op=51
  ·rw[if_pos h51] at h2;cases h2;exact pX _
  rw[if_neg h51] at h2;by_cases h54:op=54
  ·rw[if_pos h54] at h2;cases h2;exact fl _ fun r h=>FloatKind.f32.format.add_lt h
  rw[if_neg h54] at h2;by_cases h55:op=55
  ·rw[if_pos h55] at h2;cases h2;exact fl _ fun r h=>FloatKind.f32.format.sub_lt h
  rw[if_neg h55] at h2;by_cases h56:op=56
  ·rw[if_pos h56] at h2;cases h2;exact fl _ fun r h=>FloatKind.f32.format.mul_lt h
  rw[if_neg h56] at h2;by_cases h57:op=57
  ·rw[if_pos h57] at h2;cases h2;exact fl _ fun r h=>FloatKind.f32.format.div_lt h
  rw[if_neg h57] at h2;cases h2;exact U0
end
section
open Go.Shelf
/-! ### places of variables -/
theorem CH (N:Nat):∀(gs:List GH) (v0 vs:VS) (k:Nat) (l0:List (ByteArray×Int)),nM gs v0=some vs→k+gs.length≤N→(∀s x,getM s v0=some x→∃i:Nat,getM s l0=some (i:Int)∧i<N)→∀s x,getM s vs=some x→∃i:Nat,getM s (pW gs k l0)=some (i:Int)∧i<N
 |[],v0,vs,k,l0,h,_,h0,s,x,hx=>by
  cases h;exact h0 s x hx
 | g::r,v0,vs,k,l0,h,hk,h0,s,x,hx=>by
  simp only[nM] at h;split at h
  ·cases h
  simp only[List.length_cons] at hk;refine CH N r _ vs (k+1) _ h (by omega) (fun s x hx=>?_) s x hx;rw[et] at hx⊢;split at hx
  ·rename_i e;rw[if_pos e];exact⟨k,rfl,by omega⟩
  ·rename_i e;rw[if_neg e];exact h0 s x hx
theorem iI {u:UT} {vs:VS} {cs:dM} (h:dJ u=some (vs,cs)):nM u.gs []=some vs∧∃c1,kQ u.hs 0 vs []=some c1∧kR u.fs 0 vs c1=some cs:=by
 unfold dJ at h;split at h
 ·cases h
 ·rename_i v2 h0;split at h
  ·cases h
  ·rename_i c1 h1;split at h
   ·cases h
   ·rename_i c2 h2;cases h;exact⟨h0,c1,h1,h2⟩
/-! ### signatures -/
def VN (u:UT) (s:ByteArray) (g:eE):Prop:=
 (g.host<0→0≤g.fn∧∃f,u.fs[g.fn.toNat]? =some f∧f.params=g.params∧f.name=s∧f.type=g.type)∧(¬g.host<0→∃h,u.hs[g.host.toNat]? =some h∧h.params=g.params∧h.name=s)
def yv (u:UT) (cs:dM):Prop:=∀s g,getM s cs=some g→VN u s g
theorem yv.put {u:UT} {cs:dM} (h:yv u cs) {t:ByteArray} {g:eE} (hg:VN u t g):yv u (aY t g cs):=by
 intro s x hx;rw[et] at hx;split at hx
 ·rename_i e;cases hx;have:s=t:=(MapKept.bytes_beq s t).1 e;rw[this];exact hg
 ·exact h s x hx
theorem CI {u:UT} {vs:VS}:∀{l:List HH} {i:Nat} {cs c2:dM},l=u.hs.drop i→yv u cs→kQ l i vs cs=some c2→yv u c2
 |[],_,_,_,_,h,e=>by cases e;exact h
 | a::r,i,cs,c2,hl,h,e=>by
  simp only[kQ] at e;split at e
  ·cases e
  have hi:u.hs[i]? =some a:=by
   have:(u.hs.drop i)[0]? =some a:=by rw[←hl];rfl
   simpa using this
  refine CI (i:=i+1) ?_ (h.put (t:=a.name) (g:=⟨a.params,a.type,i,-1⟩) ⟨fun q=>?_,fun _=>⟨a,by simpa using hi,rfl,rfl⟩⟩) e
  ·rw[←List.drop_drop,←hl];rfl
  ·simp only[] at q;omega
theorem CJ {u:UT} {vs:VS}:∀{l:List FH} {i:Nat} {cs c2:dM},l=u.fs.drop i→yv u cs→kR l i vs cs=some c2→yv u c2
 |[],_,_,_,_,h,e=>by cases e;exact h
 | a::r,i,cs,c2,hl,h,e=>by
  simp only[kR] at e;split at e
  ·cases e
  have hi:u.fs[i]? =some a:=by
   have:(u.fs.drop i)[0]? =some a:=by rw[←hl];rfl
   simpa using this
  refine CJ (i:=i+1) ?_ (h.put (t:=a.name) (g:=⟨a.params,a.type,-1,i⟩) ⟨fun _=>⟨by simp,a,by simpa using hi,rfl,rfl,rfl⟩,fun q=>?_⟩) e
  ·rw[←List.drop_drop,←hl];rfl
  ·simp only[] at q;omega
theorem CM {u:UT} {vs:VS} {cs:dM} (h:dJ u=some (vs,cs)):yv u cs:=by
 obtain⟨-,c1,h1,h2⟩:=iI h;exact CJ (by simp) (CI (by simp) (fun s g q=>by cases q) h1) h2
/-! ### functions -/
theorem wk {vs:VS} {cs:dM}:∀{l:List FH},kB vs cs l=0→∀f∈l,vG vs cs f=0
 |[],_,f,hf=>by cases hf
 | a::r,h,f,hf=>by
  simp only[kB] at h;split at h
  ·rename_i h0;rcases List.mem_cons.1 hf with rfl|hf
   ·exact h0
   ·exact wk h f hf
  ·rename_i h0;exact absurd h h0
theorem pY (vs:VS) (cs:dM):∀(l:List PW) (sc:Scope) (e:Int),cC vs cs l sc=.error e→e=290
 |[],sc,e,h=>by cases h
 |p::r,sc,e,h=>by
  simp only[cC] at h;split at h
  ·cases h;rfl
  ·exact pY vs cs r _ e h
theorem IQ {vs:VS} {cs:dM} {f:FH} (h:vG vs cs f=0):(∃sc c,cC vs cs f.params []=.ok sc∧fO vs cs f.type f.body [sc] [] 0=.ok c)∧jH f.body=true:=by
 unfold vG at h;split at h
 ·rename_i e he;have:=pY _ _ _ _ _ he;omega
 ·rename_i sc hsc;split at h
  ·omega
  ·split at h
   ·rename_i e he;have:=rK vs cs f.type f.body [sc] [] 0 e he;omega
   ·rename_i c hc;split at h
    ·rename_i hr;exact⟨⟨sc,c,hsc,hc⟩,hr⟩
    ·omega
theorem j8 {u:UT} (h:jG u=0):ej u=true∧u.fs.any gu=false∧iP u.fs≤16384:=by
 unfold jG at h;split at h
 ·rename_i h1;split at h
  ·omega
  ·rename_i h2;split at h
   ·omega
   ·exact⟨h1,by simpa using h2,by omega⟩
 ·omega
theorem k9 {u:UT} (h:ej u=true):(∀g∈u.gs,nI g=true)∧(∀x∈u.hs,jm x=true)∧∀f∈u.fs,iC f=true:=by
 unfold ej at h;simp only[Bool.and_eq_true,List.all_eq_true] at h;exact⟨h.1,h.2.1,h.2.2⟩
theorem CN {l:List PW} (h:D1 l=true):l.length≤15:=by
 unfold D1 at h;simp only[Bool.and_eq_true,decide_eq_true_eq] at h;exact h.2
theorem mQ {f:FH} (h:iC f=true):f.params.length≤15∧gU f.body=true:=by
 unfold iC at h;simp only[Bool.and_eq_true] at h;exact⟨CN h.2.2.1,h.2.2.2⟩
theorem IU {x:HH} (h:jm x=true):x.params.length≤15:=by
 unfold jm at h;simp only[Bool.and_eq_true] at h;exact CN h.2.2.1
/-! ### the variables at first -/
theorem yw {u:UT} (wf:u.Wf) (hs:aW u=0) {g:GH} (hg:g∈u.gs):0<(kY g).length∧(kY g).length≤4096∧∀x∈kY g,U x:=by
 obtain⟨hc,-⟩:=fI hs;have h1:=uw (j8 hc).1 hg;have h2:=wf.g g hg;unfold kY;split
 ·refine⟨by simp;omega,by simp;omega,fun x hx=>?_⟩;have:=List.eq_of_mem_replicate hx;subst this;exact⟨by omega,by omega⟩
 ·refine⟨by simp,by simp,fun x hx=>?_⟩;simp only[List.mem_singleton] at hx;subst hx;exact h2.2
def iR (hd:HD) (held:List (List Int)):HD:=List.zipWith (fun a ws=>(a.1,ws)) hd held
theorem wm:∀(hd:HD) (xs:List Value),eM hd xs=hc2 (hd.map (·.1)) xs
 |[],[]=>rfl
 |[],_::_=>rfl
 |_::_,[]=>rfl
 |a::r,x::xs=>by simp only[eM,List.map_cons,hc2,wm r xs]
theorem j9:∀(hd:HD) (held:List (List Int)),held.length=hd.length→(iR hd held).map (·.1)=hd.map (·.1)
 |[],[],_=>rfl
 |[],_::_,h=>by simp at h
 |_::_,[],h=>by simp at h
 |a::r,x::xs,h=>by
  have:=j9 r xs (by simpa using h);unfold iR at this⊢;simp only[List.zipWith_cons_cons,List.map_cons,this]
theorem jJ:∀(hd:HD) (held:List (List Int)),held.length=hd.length→(iR hd held).map (·.2)=held
 |[],[],_=>rfl
 |[],_::_,h=>by simp at h
 |_::_,[],h=>by simp at h
 |a::r,x::xs,h=>by
  have:=jJ r xs (by simpa using h);unfold iR at this⊢;simp only[List.zipWith_cons_cons,List.map_cons,this]
theorem od {hd:HD} {held:List (List Int)} (h:held.length=hd.length):(iR hd held).length=hd.length:=by
 have:=congrArg List.length (j9 hd held h);simpa using this
theorem gG:∀(hd:HD),iR hd (hd.map (·.2))=hd
 |[]=>rfl
 |a::r=>by
  have:=gG r;unfold iR at this⊢;simp only[List.map_cons,List.zipWith_cons_cons,this]
structure ju (u:UT) (hd:HD):Prop where
 names:hd.map (·.1)=u.gs.map (·.name)
 lens:(hd.map (·.2)).map List.length=u.gs.map fun g=>(kY g).length
 rg:∀q∈hd.map (·.2),∀x∈q,U x
theorem ju.len {u:UT} {hd:HD} (h:ju u hd):hd.length=u.gs.length:=by
 have:=congrArg List.length h.names;simpa using this
theorem ju.init {u:UT} (wf:u.Wf) (hs:aW u=0):ju u (ep u.gs):=by
 refine⟨by simp[ep],by simp[ep,Function.comp_def],fun q hq x hx=>?_⟩;simp only[ep,List.map_map,List.mem_map,Function.comp] at hq;obtain⟨g,hg,rfl⟩:=hq;exact(yw wf hs hg).2.2 x hx
theorem ju.pos {u:UT} {hd:HD} (h:ju u hd) (wf:u.Wf) (hs:aW u=0):∀q∈hd.map (·.2),0<q.length∧q.length≤4096:=by
 intro q hq;have h1:q.length∈(hd.map (·.2)).map List.length:=List.mem_map.2 ⟨q,hq,rfl⟩;rw[h.lens] at h1;obtain⟨g,hg,e⟩:=List.mem_map.1 h1;have:=yw wf hs hg;omega
theorem ju.of {u:UT} {hd:HD} (h:ju u hd) {held:List (List Int)} (hl:held.map List.length=(hd.map (·.2)).map List.length) (hr:∀q∈held,∀x∈q,U x):ju u (iR hd held):=by
 have hn:held.length=hd.length:=by have:=congrArg List.length hl;simpa using this
 exact⟨(j9 hd held hn).trans h.names,by rw[jJ hd held hn,hl];exact h.lens,by rw[jJ hd held hn];exact hr⟩
def dV (xs:List Value) (b:Nat):Prop:=∃x∈xs,x.ownBlock=some b
def yx (w:World) (n:Nat) (T:Nat→Prop) (values:List Int) (vv:Value):Prop:=
 ∃ka kb aD aK,vv=.slice ka values.length aK∧(values.length=0∨ka=some ⟨kb,aD,none⟩)∧(values.length=0∨(kb<n∧¬T kb))∧∀i (h:i<values.length),w.cell? ⟨kb,aD+i,none⟩=some (.int .u32 values[i])
theorem yx.nil (w:World) (n:Nat) (T:Nat→Prop):yx w n T [] (.slice none 0 0):=⟨none,0,0,0,rfl,.inl rfl,.inl rfl,fun i h=>by simp at h⟩
section
variable {w w':World} {B:Nat} {u:UT} {vs:VS} {cs:dM} {pl:List (ByteArray×Int)} {hd:HD} {xs:List Value} {X vb cb pb:Nat} {vg vh vf hv:Value}
theorem ik.old (h:ik w B u vs cs pl hd xs X vb cb pb vg vh vf hv) {b:Nat} (hb:b<B):¬dV xs b:=by
 rintro⟨x,hx,hq⟩;obtain⟨i,hi,rfl⟩:=List.getElem_of_mem hx;have:=gT (h.held.rows i hi (by have:=h.held.len;omega)) hq;omega
theorem ik.CO (h:ik w B u vs cs pl hd xs X vb cb pb vg vh vf hv) {T:Nat→Prop} (hk:aU T w.heap.size w w') (hT:∀b,b<B→¬T b) (hX:¬T X) (hH:∀b,hv.ownBlock=some b→¬T b) {held:List (List Int)} (hl:held.length=hd.length)
  (hw:∀i (h:i<xs.length) (h':i<held.length),w'.ownsRow B 52 1 xs[i] held[i].length (held[i].map (Value.int .u32))) (hp:∀q∈held,0<q.length):ik w' B u vs cs pl (iR hd held) xs X vb cb pb vg vh vf hv:=by
 have old:∀b,b<B→b<w.heap.size∧¬T b:=fun b hb=>⟨by have:=h.lB;omega,hT b hb⟩
 have hc:Cells (aA w (bJ B)) (aA w' (bJ B)):=hk.cells fun b hb=>old b (by simpa using hb)
 have mv:∀{b l},b<B→Mp (aA w (bJ B)) b l→Mp (aA w' (bJ B)) b l:=fun{b l} hb hq=>iF (hk.map (ew hq (by simpa using hb)) (old b hb).1 (old b hb).2) (by simpa using hb)
 obtain⟨c1,l,c2,c3⟩:=h.nm;have e2:=jJ hd held hl;have hlen:=h.held.len;refine⟨hk.box h.box h.lX hX,h.unit.sub hc,⟨mv h.lv c1,l,mv h.lc c2,c3.sub hc⟩,⟨by rw[od hl];exact hlen,?_,fun i h1 h2=>?_,fun i h2=>?_,h.held.nd⟩,hk.map h.place (old _ h.lp).1 (old _ h.lp).2,Nat.lt_of_lt_of_le h.lX hk.size,h.lv,h.lc,h.lp,Nat.le_trans h.lB hk.size⟩
 ·rw[od hl,wm,j9 hd held hl,←wm];exact hk.own h.held.row fun b hb=>⟨(h.held.row.lt b hb).2,hH b hb⟩
 ·have h3:i<held.length:=by rw[od hl] at h2;omega
  have e3:(iR hd held)[i].2=held[i]:=by
   have:((iR hd held).map (·.2))[i]'(by simpa using h2)=held[i]:=by simp only[e2]
   simpa using this
  rw[e3];exact hw i h1 h3
 ·have h3:i<held.length:=by rw[od hl] at h2;omega
  have e3:(iR hd held)[i].2=held[i]:=by
   have:((iR hd held).map (·.2))[i]'(by simpa using h2)=held[i]:=by simp only[e2]
   simpa using this
  rw[e3];exact hp _ (List.getElem_mem h3)
theorem ik.sx (h:ik w B u vs cs pl hd xs X vb cb pb vg vh vf hv) {B2:Nat} {hd2:HD} {xs2:List Value} {v2:Value} (h2:dO w B2 hd2 xs2 v2) {b:Nat} (hb:hv.ownBlock=some b):¬dV xs2 b:=by
 rintro⟨x,hx,hq⟩;obtain⟨i,hi,rfl⟩:=List.getElem_of_mem hx;rcases pg h.held.row (h2.rows i hi (by have:=h2.len;omega)) (by decide) with e|e
 ·rw[e] at hb;cases hb
 ·exact e (by rw[hb,hq])
theorem ik.move (h:ik w B u vs cs pl hd xs X vb cb pb vg vh vf hv) (hk:aU (dV xs) w.heap.size w w') {held:List (List Int)} (hl:held.length=hd.length)
  (hw:∀i (h:i<xs.length) (h':i<held.length),w'.ownsRow B 52 1 xs[i] held[i].length (held[i].map (Value.int .u32))) (hp:∀q∈held,0<q.length):ik w' B u vs cs pl (iR hd held) xs X vb cb pb vg vh vf hv:=
 h.CO hk (fun b hb=>h.old hb) (fun⟨x,hx,hq⟩=>(h.held.box h.box (by decide) (by decide)).2 x hx hq.symm) (fun b hb=>h.sx h.held hb) hl hw hp
theorem om {i:Nat} {hd:HD} (h:i<(hd.map (·.2)).length):(hd.map (·.2))[i]=(hd[i]'(by simpa using h)).2:=by simp
theorem ik.on (h:ik w B u vs cs pl hd xs X vb cb pb vg vh vf hv) (hb:Below w.heap.size w w'):ik w' B u vs cs pl hd xs X vb cb pb vg vh vf hv:=by
 have h2:=h.move (w':=w') (held:=hd.map (·.2)) (aU.of hb) (by simp) (fun i h1 h2=>by
  rw[om];exact aC (h.held.rows i h1 (by simpa using h2)) hb) (fun q hq=>by
  obtain⟨a,ha,rfl⟩:=List.mem_map.1 hq;obtain⟨i,hi,rfl⟩:=List.getElem_of_mem ha;exact h.held.pos i hi)
 rwa[gG] at h2
theorem ik.far (h:ik w B u vs cs pl hd xs X vb cb pb vg vh vf hv) {n:Nat} (hn:n≤B) (hk:aU (dV xs) w.heap.size w w'):Below n w w':=
 ⟨hk.os,hk.tape,hk.output,hk.size,fun b hb=>hk.block b (by have:=h.lB;omega) (h.old (by omega))⟩
end
end
section
open Go.Shelf
theorem eV {w:World} {base:Nat} {e:TypeId} {size k:Nat} {v:Value} {ys:List Value} (h:w.ownsRow base e size v k ys) (hk:0<k):∃g cap,v=.slice (some ⟨g,0,none⟩) k cap∧k≤cap∧cap≤maxLen:=by
 rcases h.2 with⟨_,q⟩|⟨g,cap,cur,rfl,_,_,h1,h2,_⟩
 ·omega
 ·exact⟨g,cap,rfl,h1,h2⟩
def sy (v:Value):Nat:=match v.ownBlock with|some b=>b|none=>0
theorem OP (w:World):(zeroValue 3).run Tryz.prog w=.ok (.int .i64 0) w:=by kernel_rfl
theorem IV (p:Pt) (n F:Nat) (fb:List dQ) (g cap:Nat) (ms:List Nat) (s:ByteArray) (x:(Int×Int)×Nat) (w:World) (hF:mO w n F fb g cap ms) (hx:cJ s fb=some x):
  Calls Tryz.prog 76 #[.pointer (some ⟨p.M,0,none⟩),.pointer (some ⟨F,0,none⟩),.string s] w fun e w'=>e=.returned (.tuple #[.pointer (some ⟨x.2,0,none⟩),.int .u8 x.1.1])∧Below w.heap.size w w':=by
 have c1:=af (CG s n F fb g cap ms w hF);rw[hx] at c1;obtain⟨sc,h1,h2⟩:=py hx;have hb:=hF.boxes sc h1 _ h2;have b1:w.drew.cell? ⟨x.2,1,none⟩=some (.int .u8 x.1.1):=by simpa using hb.cell 1
 clear hF hx h1 h2 hb;obtain⟨⟨t,v⟩,q⟩:=x;simp only[Option.map_some,Option.getD_some] at c1 b1⊢;go_enter Tryz.func76,Tryz.ntmps76;go_wp2_with fail
 refine c1.mono ?_;rintro e w2 ⟨rfl,hw⟩;subst w2;clear c1;go_wp2_with fail
 go_region
 go_wp2_with fail
 go_ret2;exact⟨rfl,(Below.refl _ _).drew⟩
theorem IW (p:Pt) (cf:Cf) (u:UT) (a n d:Nat) (m:MS) (ve:EvS) (F:Nat) (fb:List dQ) (g cap:Nat) (ms:List Nat) (s:ByteArray) (t ln:Int) (i:Nat) (w:World) (hS:Mv p cf u n w) (hM:iy p a n d m ve w) (hF:mO w n F fb g cap ms) (hx:cJ s fb=none)
  (hv:getM s cf.vs=some (t,ln)) (hp:getM s cf.pl=some (i:Int)) (hi:i<p.xs.length) (h0:∀q∈m.held,0<q.length):
  Calls Tryz.prog 76 #[.pointer (some ⟨p.M,0,none⟩),.pointer (some ⟨F,0,none⟩),.string s] w fun e w'=>e=.returned (.tuple #[.pointer (some ⟨sy p.xs[i],0,none⟩),.int .u8 t])∧Below w.heap.size w w':=by
 have c1:=af (CG s n F fb g cap ms w hF);rw[hx] at c1;obtain⟨en,va,fa,hb⟩:=hM.box;have gq:i<m.held.length:=by have:=hM.len;omega
 have hw:=hM.words i hi gq;obtain⟨gx,cx,e1,k1,k2⟩:=eV hw (h0 _ (List.getElem_mem gq));have hl0:=h0 _ (List.getElem_mem gq);generalize m.held[i].length=lw at e1 k1 hl0;obtain⟨gh,ch,e2,k3,k4⟩:=eV hS.held (by omega);have hr:sy p.xs[i]=gx:=by rw[e1];rfl
 rw[hr];have hh:=hS.held;rw[e2] at hh;have b0:w.drew.cell? ⟨p.M,0,none⟩=some (.pointer (some ⟨p.X,0,none⟩)):=by simpa using hb.cell 0
 have x3:w.drew.cell? ⟨p.X,3,none⟩=some (.map (some p.vb)):=by simpa using hS.X.cell 3
 have x5:w.drew.cell? ⟨p.X,5,none⟩=some (.slice (some ⟨gh,0,none⟩) p.xs.length ch):=by simpa[e2] using hS.X.cell 5
 have x6:w.drew.cell? ⟨p.X,6,none⟩=some (.map (some p.pb)):=by simpa using hS.X.cell 6
 have r1:w.drew.cell? ⟨gh,i*2+1,none⟩=some (.slice (some ⟨gx,0,none⟩) lw cx):=by
  have:=hh.cellAt (i*2+1) (by omega);rw[Ba _ _ i hi hS.hlen,e1] at this;exact this
 have l1:=(hS.place.mono (Below.refl _ _).drew).lookup lG bm s _ (OP w.drew) false;rw[di (Value.int .i64),hp] at l1;have l2:=((ew hS.nm.vars (by simpa using hS.lv)).mono (Below.refl _ _).drew).lookup nt bm s _ (qD w.drew) false;rw[di tG,hv] at l2;simp only[Option.map_some,Option.getD_some,Bool.false_eq_true,if_false,tG] at l1 l2;have IX:(Instr.field 155 (.agg #[.int .u8 t,.int .u32 ln]) 0).run Tryz.prog w.drew=.ok (.int .u8 t) w.drew:=by kernel_rfl
 clear hS hM hF hx hv hp h0 hw e1 e2 hb hh hr;go_enter Tryz.func76,Tryz.ntmps76;go_wp2_with fail
 refine c1.mono ?_;rintro e w2 ⟨rfl,hw⟩;subst w2;clear c1;go_wp2_with fail
 go_region
 go_wp2_with fail
 go_ret2;exact⟨rfl,(Below.refl _ _).drew⟩
end
section
open Go.Shelf
def CP (lw:List Int) (gx:Nat) (i:Int):Ending:=if (lw.length:Int)≤i then dy 2 1 else .returned (.pointer (some ⟨gx,i.toNat,none⟩))
theorem uE (p:Pt) (cf:Cf) (u:UT) (a n d:Nat) (m:MS) (ve:EvS) (s:ByteArray) (i:Nat) (j:Int) (w:World) (hS:Mv p cf u n w) (hM:iy p a n d m ve w)
  (hp:getM s cf.pl=some (i:Int)) (hi:i<p.xs.length) (gq:i<m.held.length) (h0:0<m.held[i].length) (hl:m.held[i].length≤4096) (hj:0≤j∧j<4294967296):
  Calls Tryz.prog 78 #[.pointer (some ⟨p.M,0,none⟩),.string s,.int .u32 j] w fun e w'=>e=CP m.held[i] (sy p.xs[i]) j∧Below w.heap.size w w':=by
 obtain⟨en,va,fa,hb⟩:=hM.box;have hw:=hM.words i hi gq;obtain⟨gx,cx,e1,k1,k2⟩:=eV hw h0;obtain⟨gh,ch,e2,k3,k4⟩:=eV hS.held (by omega);have hr:sy p.xs[i]=gx:=by rw[e1];rfl
 rw[hr];unfold CP;generalize m.held[i].length=lw at e1 k1 h0 hl⊢;have hh:=hS.held;rw[e2] at hh;have b0:w.drew.cell? ⟨p.M,0,none⟩=some (.pointer (some ⟨p.X,0,none⟩)):=by simpa using hb.cell 0
 have x5:w.drew.cell? ⟨p.X,5,none⟩=some (.slice (some ⟨gh,0,none⟩) p.xs.length ch):=by simpa[e2] using hS.X.cell 5
 have x6:w.drew.cell? ⟨p.X,6,none⟩=some (.map (some p.pb)):=by simpa using hS.X.cell 6
 have r1:w.drew.cell? ⟨gh,i*2+1,none⟩=some (.slice (some ⟨gx,0,none⟩) lw cx):=by
  have:=hh.cellAt (i*2+1) (by omega);rw[Ba _ _ i hi hS.hlen,e1] at this;exact this
 have l1:=(hS.place.mono (Below.refl _ _).drew).lookup lG bm s _ (OP w.drew) false;rw[di (Value.int .i64),hp] at l1;simp only[Option.map_some,Option.getD_some,Bool.false_eq_true,if_false] at l1;obtain⟨q,hq⟩:∃q:Nat,j=q:=⟨j.toNat,by omega⟩;subst hq;obtain⟨Pw,qC⟩:=hj;clear hS hM hp hw e1 e2 hb hh hr gq;by_cases hc:(lw:Int)≤(q:Int)
 ·rw[if_pos hc];go_enter Tryz.func78,Tryz.ntmps78;go_wp2_with fail
  go_region
  go_wp2_with fail
  refine ar ?_;exact⟨rfl,(Below.refl _ _).drew⟩
 ·rw[if_neg hc];have hc2:q<lw:=by omega
  have hcc:¬(lw:Int)≤(q:Int):=hc;have gO:IntKind.u64.wrap (q:Int)=(q:Int):=by unfold IntKind.wrap;simp[IntKind.signed,IntKind.bits];omega
  have hw2:IntKind.u64.wrap (lw:Int)=(lw:Int):=by unfold IntKind.wrap;simp[IntKind.signed,IntKind.bits];omega
  have ht:((q:Int)).toNat=q:=by simp
  rw[ht];clear ht hc;go_enter Tryz.func78,Tryz.ntmps78;go_wp2_with fail
  go_region
  clear k2 k4 k1 k3 hi x5 x6 b0 l1 r1;clear hl Pw qC h0;go_wp2_with fail
  go_ret;exact⟨rfl,(Below.refl _ _).drew⟩
end
section
open Go.Shelf
abbrev dm (fb:List dQ):List Scope:=fb.map fun sc=>sc.map fun x=>(x.1,x.2.1.1)
theorem uF (s:ByteArray) (fb:List dQ):ez s (dm fb)=(cJ s fb).map (·.1.1):=by
 unfold ez cJ
 suffices∀(fb:List dQ) (a:Option ((Int×Int)×Nat)),(dm fb).foldl (fun a sc=>match getM s sc with|some t=>some t|none=>a) (a.map (·.1.1))=(fb.foldl (fun a sc=>match getM s sc with|some t=>some t|none=>a) a).map (·.1.1) from this fb none
 intro fb
 induction fb with
 |nil=>intro a;rfl
 |cons c r ih=>
  intro a;simp only[dm,List.map_cons,List.foldl_cons] at ih⊢;rw[←ih]
  congr 1
  have:getM s (c.map fun x=>(x.1,x.2.1.1))=(getM s c).map (·.1.1):=di (fun x:(Int×Int)×Nat=>x.1.1) s c;rw[this];cases getM s c<;>rfl
theorem wq {vs:VS} {cs:dM} {ss:List Scope}:∀{l:az} {ks:List Int},jn vs cs ss l=.ok ks→ks.length=l.bu.length∧∀(i:Nat) (a:EH×az),l.bu[i]? =some a→∃t,um vs cs ss a.1 a.2=.ok t∧ks[i]? =some t
 | .nil,ks,h=>by
  simp only[jn] at h;cases h;exact⟨rfl,fun i a ha=>by simp[az.bu] at ha⟩
 | .cons hd k r,ks,h=>by
  simp only[jn] at h;cases h1:jn vs cs ss k with
  |error e=>rw[h1] at h;cases h
  | ok k1=>
   rw[h1] at h;simp only[] at h;cases h2:mj vs cs ss hd k1 with
   |error e=>rw[h2] at h;cases h
   | ok t=>
    rw[h2] at h;simp only[] at h;cases h3:jn vs cs ss r with
    |error e=>rw[h3] at h;cases h
    | ok ts=>
     rw[h3] at h;cases h;obtain⟨q1,q2⟩:=wq h3;refine⟨by simp[az.bu,q1],fun i a ha=>?_⟩;cases i with
     |zero=>
      simp only[az.bu,List.getElem?_cons_zero,Option.some.injEq] at ha;subst ha;exact⟨t,by unfold um;rw[h1];exact h2,rfl⟩
     |succ i=>
      simp only[az.bu,List.getElem?_cons_succ] at ha⊢;exact q2 i a ha
end
end Go.Proofs.YtlabadkfkbenoaaGreatDoor
