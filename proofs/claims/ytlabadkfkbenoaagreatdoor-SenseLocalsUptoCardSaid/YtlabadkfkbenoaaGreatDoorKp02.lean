/- Walks and plain laws, merged: TokA TokB TreeL TreeM TreeN TreeO TokD TokE TokF TokG TokH TokK RefA RefB. No condition. -/
import Derived.Test.YtlabadkfkbenoaaGreatDoorProg
import Derived.RangeFuncNested
import Derived.RangeFuncBound
import Derived.RangeFuncCalls
import Derived.RangeFuncLeaves
import Derived.Shelf.Abstract
import Derived.WalkKit
import Derived.OwnWalkIn
import Derived.TacticsInMore
import Derived.LoopNIn
import Derived.LoopIn
import Derived.Lib.OthersKept
import Derived.RangeFuncBox
import Derived.WalkSmall
import Derived.Test.YtlabadkfkbenoaaGreatDoorKp01
import Derived.OneCell
import Derived.RegionTactic
import Derived.ChangeAlike
import Derived.Outline
import Derived.Lib.Bytealg
import Derived.WalkMore
namespace Go.Proofs.YtlabadkfkbenoaaGreatDoor
open Go.RowKit
set_option linter.unusedVariables false
set_option linter.unusedSimpArgs false
set_option maxRecDepth 100000
set_option maxHeartbeats 64000000
section
open Go.Shelf
attribute [local go_sem] Oper.semAt_some
def fg (s p:ByteArray):Bool:=decide (p.size≤s.size)&&((s.extract 0 p.size).toList==p.toList)
def fP (s:ByteArray) (i:Nat):Bool:=(Utf8.decode s i).1==65533&& !fg (s.extract i s.size) ⟨#[239,191,189]⟩
def aM (s:ByteArray) (i:Nat):Int:=if fP s i then -1- ((s.get! i).toNat:Int) else((Utf8.decode s i).1:Int)
def eB (s:ByteArray):Nat→Nat→List (Nat×Int)
 |0,_=>[]
 |n+1,i=>if i<s.size then(i,aM s i)::eB s n (i+ (Utf8.decode s i).2) else[]
def iM (s:ByteArray):List (Nat×Int):=eB s s.size 0
theorem iu (s:ByteArray):∀n i,s.size≤i→eB s n i=[]
 |0,_,_=>rfl
 |n+1,i,h=>by simp only[eB];rw[if_neg (by omega)]
theorem eJ (s:ByteArray) (i:Nat):1≤(Utf8.decode s i).2:=by
 simp only[Utf8.decode]
 repeat' split
 all_goals simp
theorem Ds (s p:ByteArray) (w:World) (hs:s.size≤1048576) (hp:p.size≤1048576):
  Calls Tryz.prog 277 #[.string s,.string p] w fun e w'=>e=.returned (.bool (fg s p))∧w'=w:=by
 go_enter Tryz.func277,Tryz.ntmps277;by_cases h:p.size≤s.size
 ·go_wp2_with fail
  go_ret;exact⟨aq (by simp[fg,h]),rfl⟩
 ·go_wp2_with fail
  go_ret;exact⟨aq (by simp[fg,h]),rfl⟩
theorem wZ (s p:ByteArray) (w:World) (hs:s.size≤1048576) (hp:p.size≤1048576):
  Calls Tryz.prog 254 #[.string s,.string p] w fun e w'=>e=.returned (.bool (fg s p))∧w'=w:=by
 have hc:=Ds s p w hs hp;go_enter Tryz.func254,Tryz.ntmps254;go_wp2_with fail
 refine hc.mono ?_;rintro e w2 ⟨rfl,rfl⟩;go_wp2_with fail
 go_ret;exact⟨rfl,rfl⟩
theorem oP (s:ByteArray) (w:World):
  Calls Tryz.prog 228 #[.string s] w fun e w'=>e=.returned (.func (.func 253) #[] #[.pointer (some ⟨w.heap.size,0,none⟩)])∧w'=w.alloc (.cells #[.string s] 9):=by
 go_enter Tryz.func228,Tryz.ntmps228;go_wp2_with fail
 go_ret;exact⟨rfl,rfl⟩
theorem uV (w:World) (k:Nat) (s:ByteArray) (pos:Nat):w.grownBy (w.iterAt k s pos) (some k):=
 ⟨rfl,rfl,rfl,by simp[World.iterAt],fun j _ hj=>Go.Lib.iterAt_other w k j s pos (fun e=>hj (by rw[e]))⟩
def Kc (n₀:Nat) (A B:World):Prop:=Below n₀ A B∧KeepsWalks A B
theorem Kc.t {n₀:Nat} {A B C:World} (h:Kc n₀ A B) (k:Kc n₀ B C):Kc n₀ A C:=⟨h.1.trans k.1,h.2.trans k.2⟩
theorem Dt (s:ByteArray) (pos:Nat) (hp:pos<s.size):(if ((65533:Nat)==65533&& !false)=true then -1- ((s.get! pos).toNat:Int) else((65533:Nat):Int))=wrap32 (-1-wrap32 ((s[pos]'hp).toNat:Int)):=by
 have h1:s.get! pos=s[pos]'hp:=get_at s pos hp;have h2:=(s[pos]'hp).toNat_lt;rw[if_pos (by decide),h1];unfold wrap32;omega
theorem TK (n:Nat) (hn:1≤n) (l Bn n₀:Nat) (s:ByteArray) (hs:s.size≤1048576) (J Jx:List (Nat×Int)→World→Prop) (W:World) (hJ:AbidesFrom W.heap.size J)
  (hY:∀pre x W1,J pre W1→pre.length<(iM s).length→YieldAt Fence.wide (n-1) Tryz.prog l #[.int .i64 x.1,.int .i32 x.2] W1 fun e W'=>
   (e=.returned (.bool true)∧J (pre++[x]) W'∧Kc n₀ W1 W')∨(e=.returned (.bool false)∧Jx (pre++[x]) W'))
  (Yn:Bn<n₀) (wM:n₀≤W.heap.size) (hc:W.cell? ⟨Bn,0,none⟩=some (.string s)) (h0:J [] W):
  CallsIn Fence.wide n Tryz.prog 253 #[.func (.yield l) #[] #[],.pointer (some ⟨Bn,0,none⟩)] W fun e W'=>(∃v,e=.returned v)∧
   ((∃ys,ys=iM s∧J ys W')∨(∃pre,pre<+:iM s∧Jx pre W')):=by
 refine callsIn_of_wp Tryz.func253 rfl trivial ?_ rfl;simp only[Tryz.ntmps253,List.size_toArray,List.length_cons,List.length_nil,Nat.reduceAdd,Nat.reduceSub,Array.replicate_succ,Array.replicate_zero,List.push_toArray,List.append_toArray,List.nil_append,List.cons_append]
 gi_wp2
 gi_loopw [3,4] (fun _ _ wr=>∃(pre:List (Nat×Int)) (m pos:Nat),iM s=pre++eB s m pos∧s.size≤m+pos∧wr.heap[W.heap.size]? =some (.stringIter s pos)∧wr.cell? ⟨Bn,0,none⟩=some (.string s)∧J pre wr∧W.heap.size<wr.heap.size)
  (fun _ _ wr=>s.size-wr.iterPos W.heap.size)
 case atStart=>
  have hgI:W.grownBy (W.iter s 0) none:=World.grownBy_alloc W _ none;refine⟨[],s.size,0,rfl,by omega,World.iter_heap W s 0,hgI.cell hc (by simp),hJ [] W _ none h0 hgI (fun r e=>by cases e),(Array.getElem?_eq_some_iff.1 (World.iter_heap W s 0)).1⟩
 case round=>
  obtain⟨pre,m,pos,hx,hm,hk,hcb,hJs,hlt⟩:=hrel;by_cases hp:pos<s.size
  ·have Yo:=Go.Lib.run_next_any_at (P:=Tryz.prog) wr W.heap.size s pos 0 hk hp;have gO:=eJ s pos;obtain⟨width,hwd⟩:∃k,k=(Utf8.decode s pos).2:=⟨_,rfl⟩;rw[←hwd] at gO;rw[←hwd] at Yo;obtain⟨w1,KH⟩:∃w1,w1=wr.iterAt W.heap.size s (pos+width):=⟨_,rfl⟩;rw[←KH] at Yo;have hg1:wr.grownBy w1 (some W.heap.size):=by rw[KH];exact uV _ _ _ _
   have dH:w1.heap[W.heap.size]? =some (.stringIter s (pos+width)):=by rw[KH];exact Go.Lib.iterAt_heap _ _ _ _ _ hk
   have ZH:w1.cell? ⟨Bn,0,none⟩=some (.string s):=hg1.cell hcb (by simp;omega);have hJ1:J pre w1:=hJ pre wr w1 _ hJs hg1 (fun r e=>by cases e;exact⟨Nat.le_refl _,_,hk,rfl⟩);have ZI:W.heap.size<w1.heap.size:=Nat.lt_of_lt_of_le hlt hg1.size;cases m with
   |zero=>omega
   | succ m=>
    have KI:=hx;simp only[eB] at KI;rw[if_pos hp,←hwd] at KI;have hlen:pre.length<(iM s).length:=by rw[KI];simp
    have SI:=hY pre (pos,aM s pos) w1 hJ1 hlen;have ud:Hid (∀W3,J (pre++[(pos,aM s pos)]) W3→Kc n₀ w1 W3→∃(pre':List (Nat×Int)) (m' pos':Nat),iM s=pre'++eB s m' pos'∧s.size≤m'+pos'∧W3.heap[W.heap.size]? =some (.stringIter s pos')∧W3.cell? ⟨Bn,0,none⟩=some (.string s)∧J pre' W3∧W.heap.size<W3.heap.size):=af (fun W3 h3 hK=>⟨pre++[(pos,aM s pos)],m,pos+width,by simp[KI],by omega,hK.2.same _ _ dH rfl,(hK.1.cell (p:=⟨Bn,0,none⟩) Yn).trans ZH,h3,Nat.lt_of_lt_of_le ZI hK.1.size⟩);have ZJ:Hid (∀W3,Kc n₀ w1 W3→s.size-W3.iterPos W.heap.size<s.size-wr.iterPos W.heap.size):=af (fun W3 hK=>by rw[iterPos_of (hK.2.same _ _ dH rfl),iterPos_of hk];omega);have Du:Hid ((pre++[(pos,aM s pos)])<+:iM s):=af ⟨eB s m (pos+width),by simp[KI]⟩;have KJ:Hid (CallsIn Fence.wide (n-1) Tryz.prog 254 #[.string (s.extract pos s.size),.string ⟨#[239,191,189]⟩] w1 fun e w'=>e=.returned (.bool (fg (s.extract pos s.size) ⟨#[239,191,189]⟩))∧w'=w1):=af (callsIn_wide.2 (wZ _ _ _ (by simp;omega) (by decide)));have hHid:=af (And.intro hJ hY);clear hJ hY hx KI hlen hJs hcb hg1 KH;by_cases hd:(Utf8.decode s pos).1=65533
    ·rw[hd] at Yo;cases Yp:fg (s.extract pos s.size) ⟨#[239,191,189]⟩
     ·have xd:aM s pos=wrap32 (-1-wrap32 ((s[pos]'hp).toNat:Int)):=by simp only[aM,fP,Yp,hd];exact Dt s pos hp
      rw[xd] at SI ud Du;obtain⟨fn,tmps,assign,body,hy,hR⟩:=SI
      dsimp only at hy
      rw[Yp] at KJ
      gi_wp2_with (refine⟨trivial,?_⟩;gi_at_call 254;refine KJ.mono ?_;rintro e w' ⟨rfl,rfl⟩)
      refine hR.mono ?_;rintro e W3 (⟨rfl,h3,hk3⟩|⟨rfl,h3⟩)
      ·gi_wp2
       go_roundw
       case rel=>exact ud.out W3 h3 hk3
       case measure=>exact ZJ.out W3 hk3
      ·gi_wp2
       refine bodyPost_ret (results_none rfl _ _ _) rfl ?_;exact⟨⟨_,rfl⟩,.inr ⟨_,Du.out,h3⟩⟩
     ·have xd:aM s pos=65533:=by simp[aM,fP,Yp,hd]
      rw[xd] at SI ud Du;obtain⟨fn,tmps,assign,body,hy,hR⟩:=SI
      dsimp only at hy
      rw[Yp] at KJ
      gi_wp2_with (refine⟨trivial,?_⟩;gi_at_call 254;refine KJ.mono ?_;rintro e w' ⟨rfl,rfl⟩)
      refine hR.mono ?_;rintro e W3 (⟨rfl,h3,hk3⟩|⟨rfl,h3⟩)
      ·gi_wp2
       go_roundw
       case rel=>exact ud.out W3 h3 hk3
       case measure=>exact ZJ.out W3 hk3
      ·gi_wp2
       refine bodyPost_ret (results_none rfl _ _ _) rfl ?_;exact⟨⟨_,rfl⟩,.inr ⟨_,Du.out,h3⟩⟩
    ·have xd:aM s pos=((Utf8.decode s pos).1:Int):=by simp[aM,fP,hd]
     rw[xd] at SI ud Du;obtain⟨fn,tmps,assign,body,hy,hR⟩:=SI;have hdd:(((Utf8.decode s pos).1:Int)==65533)=false:=by simp;omega
     dsimp only at hy
     gi_wp2
     refine⟨trivial,?_⟩
     gi_wp2
     refine hR.mono ?_;rintro e W3 (⟨rfl,h3,hk3⟩|⟨rfl,h3⟩)
     ·gi_wp2
      go_roundw
      case rel=>exact ud.out W3 h3 hk3
      case measure=>exact ZJ.out W3 hk3
     ·gi_wp2
      refine bodyPost_ret (results_none rfl _ _ _) rfl ?_;exact⟨⟨_,rfl⟩,.inr ⟨_,Du.out,h3⟩⟩
  ·have Yo:=Go.Lib.run_next_end_at (P:=Tryz.prog) wr W.heap.size s pos 0 hk hp;rw[iu s m pos (by omega),List.append_nil] at hx
   gi_wp2
   go_end0;exact⟨⟨_,rfl⟩,.inl ⟨pre,hx.symm,hJs⟩⟩
end
section
open Go.Shelf
attribute [local go_sem] Oper.semAt_some
def eR (r:Int):Bool:=decide (65≤r∧r≤90)||decide (97≤r∧r≤122)||decide (192≤r)
def cR (r:Int):Bool:=decide (48≤r∧r≤57)
def cS (r:Int):Bool:=eR r||cR r||r==95
theorem xe (r:Int) (w:World):Calls Tryz.prog 230 #[.int .i32 r] w fun e w'=>e=.returned (.bool (eR r))∧w'=w:=by
 go_enter Tryz.func230,Tryz.ntmps230;go_wp2_with fail
 all_goals
  go_ret;exact⟨aq (by rw[Bool.eq_iff_iff];simp[eR];omega),rfl⟩
theorem uW (r:Int) (w:World):Calls Tryz.prog 231 #[.int .i32 r] w fun e w'=>e=.returned (.bool (cR r))∧w'=w:=by
 go_enter Tryz.func231,Tryz.ntmps231;go_wp2_with fail
 all_goals
  go_ret;exact⟨aq (by simp[cR];omega),rfl⟩
theorem KL (r:Int) (w:World):Calls Tryz.prog 229 #[.int .i32 r] w fun e w'=>e=.returned (.bool (cS r))∧w'=w:=by
 have h1:=xe r w;have h2:=uW r w;go_enter Tryz.func229,Tryz.ntmps229;go_wp2_with fail
 refine h1.mono ?_;rintro e w2 ⟨rfl,rfl⟩;cases hl:eR r
 ·go_wp2_with fail
  refine h2.mono ?_;rintro e w2 ⟨rfl,rfl⟩;cases hd:cR r
  ·go_wp2_with fail
   go_ret;exact⟨aq (by simp[cS,hl,hd]),rfl⟩
  ·go_wp2_with fail
   go_ret;exact⟨aq (by simp[cS,hl,hd]),rfl⟩
 ·go_wp2_with fail
  go_ret;exact⟨aq (by simp[cS,hl]),rfl⟩
theorem oQ (n:Nat) (hn:1≤n) (Bn n₀:Nat) (s:ByteArray) (hs:s.size≤1048576) (w:World) (Yn:Bn<n₀) (wM:n₀≤w.heap.size) (hc:w.cell? ⟨Bn,0,none⟩=some (.string s)):
  SeqStopsK Fence.wide n Tryz.prog 253 #[.pointer (some ⟨Bn,0,none⟩)] (fun x:Nat×Int=>#[.int .i64 x.1,.int .i32 x.2]) (Kc n₀) (fun ys=>ys=iM s) (fun pre=>pre<+:iM s) (iM s).length w:=
 fun l J Jx W hW hJ _ hY h0=>TK n hn l Bn n₀ s hs J Jx W hJ hY Yn (Nat.le_trans wM hW.size) ((hW.cell (p:=⟨Bn,0,none⟩) (Nat.lt_of_lt_of_le Yn wM)).trans hc) h0
theorem Kc.b {n₀:Nat} {w:World} (hn:n₀≤w.heap.size) (W:World) (l:Nat) (o o':Obj) (hl:w.heap.size≤l) (h:W.heap[l]? =some o) (h1:o.isCells=false) (h2:o.isWalk=false):Kc n₀ W (W.putObj l o'):=⟨belowK_b hn W l o o' hl h h1 h2,walksK_b (w:=w) W l o o' hl h h1 h2⟩
def jk (l:List (Nat×Int)) (n:Nat):Nat:=match l.find? (fun x=>!cS x.2) with
 |some x=>x.1
 |none=>n
theorem Dv {l:List (Nat×Int)} {n:Nat} (h:∀y∈l,cS y.2=true):jk l n=n:=by
 unfold jk;rw[List.find?_eq_none.2 (fun x hx=>by simp[h x hx])]
theorem KN {l pre rest:List (Nat×Int)} {x:Nat×Int} {n:Nat} (hl:l=(pre++[x])++rest) (h:∀y∈pre,cS y.2=true) (hx:cS x.2=false):jk l n=x.1:=by
 subst hl;unfold jk;rw[List.append_assoc,List.find?_append,List.find?_eq_none.2 (fun y hy=>by simp[h y hy])];simp[hx]
theorem rq (s:ByteArray):∀n i (x:Nat×Int),x∈eB s n i→x.1<s.size
 |0,_,_,h=>by cases h
 | n+1,i,x,h=>by
  simp only[eB] at h;split at h
  ·rcases List.mem_cons.1 h with rfl|h'
   ·assumption
   ·exact rq s n _ x h'
  ·cases h
theorem BU (s:ByteArray) (x:Nat×Int) (h:x∈iM s):x.1<s.size:=rq s _ _ x h
theorem TL (s:ByteArray) (p:Nat) (w:World) (hs:s.size≤1048576) (hp:p≤s.size):
  Calls Tryz.prog 232 #[.string s,.int .i64 p,.func (.func 229) #[] #[]] w fun e w'=>e=.returned (.int .i64 (p+jk (iM (s.extract p s.size)) (s.size-p):Nat))∧Below w.heap.size w w':=by
 refine(callsIn_wide (n:=5)).1 ?_;refine callsIn_of_wp_marks Tryz.func232 rfl trivial ?_ rfl;simp only[Tryz.ntmps232,List.size_toArray,List.length_cons,List.length_nil,Nat.reduceAdd,Nat.reduceSub,Array.replicate_succ,Array.replicate_zero,List.push_toArray,List.append_toArray,List.nil_append,List.cons_append]
 gi_wp2_with (refine⟨trivial,?_⟩;gi_at_call 228;refine(callsIn_wide.2 (oP _ _)).mono ?_;rintro e w' ⟨rfl,rfl⟩)
 obtain⟨W0,hW0⟩:∃W0,W0=(((w.alloc (.cells #[.int .i64 p] 3)).alloc (.cells #[.func (.func 229) #[] #[]] 308)).alloc (.cells #[.int .i64 0] 3)).alloc (.cells #[.string (s.extract p s.size)] 9):=⟨_,rfl⟩;rw[←hW0];have hsz:W0.heap.size=w.heap.size+4:=by rw[hW0];simp
 have b4:Boxed W0 w.heap.size 3 (.int .i64 p):=by rw[hW0];exact(((Boxed.new w 3 _).alloc _).alloc _).alloc _
 have b5:Boxed W0 (w.heap.size+1) 308 (.func (.func 229) #[] #[]):=by
  rw[hW0];have:=((Boxed.new (w.alloc (.cells #[.int .i64 p] 3)) 308 (.func (.func 229) #[] #[])).alloc (.cells #[.int .i64 0] 3)).alloc (.cells #[.string (s.extract p s.size)] 9);simpa using this
 have b6:Boxed W0 (w.heap.size+1+1) 3 (.int .i64 0):=by
  rw[hW0];have:=(Boxed.new ((w.alloc (.cells #[.int .i64 p] 3)).alloc (.cells #[.func (.func 229) #[] #[]] 308)) 3 (.int .i64 0)).alloc (.cells #[.string (s.extract p s.size)] 9);simpa using this
 have b7:Boxed W0 (w.heap.size+1+1+1) 9 (.string (s.extract p s.size)):=by
  rw[hW0];have:=Boxed.new (((w.alloc (.cells #[.int .i64 p] 3)).alloc (.cells #[.func (.func 229) #[] #[]] 308)).alloc (.cells #[.int .i64 0] 3)) 9 (.string (s.extract p s.size));simpa using this
 have cF:Below w.heap.size w W0:=by rw[hW0];exact((((Below.refl _ w).alloc (Nat.le_refl _) _).alloc (by simp) _).alloc (by simp;omega) _).alloc (by simp;omega) _
 have TM:∀W,Below W0.heap.size W0 W→Boxed W w.heap.size 3 (.int .i64 p)∧Boxed W (w.heap.size+1) 308 (.func (.func 229) #[] #[])∧Boxed W (w.heap.size+1+1) 3 (.int .i64 0):=fun W h=>⟨(h.block _ (by omega)).trans b4,(h.block _ (by omega)).trans b5,(h.block _ (by omega)).trans b6⟩
 clear hW0;refine wpIn_rangeFunc_ownF (w0:=W0) rfl (by omega) (gf:=253) (lb:=#[.pointer (some ⟨w.heap.size+1+1+1,0,none⟩)]) rfl trivial (enters_of Tryz.func253 (by kernel_rfl) rfl)
  (oQ 4 (by omega) (w.heap.size+1+1+1) W0.heap.size (s.extract p s.size) (by simp;omega) W0 (by omega) (Nat.le_refl _) b7.cell) Kc.t (Kc.b (Nat.le_refl _)) (Below.refl _ _) (fun _=>rfl)
  (fun pre W=>(∀y∈pre,cS y.2=true)∧Below W0.heap.size W0 W)
  (fun c pre W=>((∃Pq x,c=.ret∧pre=Pq++[x]∧(∀y∈Pq,cS y.2=true)∧cS x.2=false∧W.cell? ⟨w.heap.size+1+1,0,none⟩=some (.int .i64 (wrap64 (p+x.1))))∧Below w.heap.size w W))
  (OwnFrom.and (ownFrom_pure _ _) (ownFrom_below (Nat.le_refl _) (Nat.le_refl _)))
  (fun c=>OwnFrom.and (Own.from (fun s A B row hs hg hr=>by obtain⟨q0,x,h1,h2,h3,h4,h5⟩:=hs;exact⟨q0,x,h1,h2,h3,h4,cell_kept h5 hg hr⟩) _) (ownFrom_below (Nat.le_refl _) (by omega)))
  ⟨(fun y hy=>by cases hy),Below.refl _ _⟩
  (fun x=>{tmps:=#[.string s,.int .i64 p,.func (.func 229) #[] #[],undef,.pointer (some ⟨w.heap.size,0,none⟩),.pointer (some ⟨w.heap.size+1,0,none⟩),.pointer (some ⟨w.heap.size+1+1,0,none⟩),.int .i64 x.1,.int .i32 x.2,.string s,.int .i64 p,.string (s.extract p s.size),.func (.func 253) #[] #[.pointer (some ⟨w.heap.size+1+1+1,0,none⟩)],.int .i64 x.1,.int .i32 x.2,undef,undef,undef,undef,undef,undef,undef,undef,undef],defers:=[]}) ?assign ?body ?done ?stop
 case assign=>
  intro l x W K hK
  gi_wp2
  exact hK
 case body=>
  rintro l pre x W ⟨hn,hB⟩ _;obtain⟨d4,d5,d6⟩:=TM W hB;have c4:=d4.cell;have c5:=d5.cell;have c6:=d6.cell;have f6:=d6.frozen;have bT:=KL x.2 W;cases hx:cS x.2
  ·rw[hx] at bT
   gi_wp2_with (refine⟨trivial,?_⟩;gi_at_call 229;refine(CallsIn.inRound l (callsIn_wide.2 bT)).mono ?_;rintro e w' ⟨rfl,rfl⟩)
   exact⟨KeepsOthers.setCell _ _ _,⟨pre,x,rfl,rfl,hn,hx,World.cell?_setCell_same' _ _ _ (by rw[c6];rfl)⟩,(cF.trans (hB.mono (by omega))).setCell (by simp;omega) _⟩
  ·rw[hx] at bT
   gi_wp2_with (refine⟨trivial,?_⟩;gi_at_call 229;refine(CallsIn.inRound l (callsIn_wide.2 bT)).mono ?_;rintro e w' ⟨rfl,rfl⟩)
   refine⟨KeepsOthers.refl _,⟨Below.refl _ _,(KeepsOthers.refl _).walks⟩,fun y hy=>?_,hB⟩;rcases List.mem_append.1 hy with h|h
   ·exact hn y h
   ·obtain rfl:y=x:=by simpa using h
    exact hx
 case done=>
  rintro D ys W hD rfl ⟨hn,hB⟩ hK;obtain⟨d4,d5,d6⟩:=TM W hB;have c6:=d6.cell;have f6:=d6.frozen
  gi_wp2
  have hK2:=(KeepsOthers.setCell W ⟨w.heap.size+1+1,0,none⟩ (.int .i64 s.size)).same D _ hK rfl;have hc:=cell_kept (World.cell?_setCell_same' W ⟨w.heap.size+1+1,0,none⟩ (.int .i64 s.size) (by rw[c6];rfl)) (grownBy_putObj' _ D (.deferred none)) (fun r e=>by cases e;exact⟨_,hK2,rfl⟩);refine⟨by simp,.inl ⟨_,_,rfl,run_takeDeferred hK2,?_⟩⟩;refine⟨.int .i64 s.size,by simp[results,Tryz.results232,go_sem,hc],?_,?_⟩
  ·rw[Dv hn]
   congr 2
   omega
  ·exact(((cF.trans (hB.mono (by omega))).setCell (p:=⟨w.heap.size+1+1,0,none⟩) (by simp;omega) _)).trans (belowK_b (w:=W0) (by omega) _ D _ _ hD hK2 rfl rfl)
 case stop=>
  rintro D c pre W hD iN ⟨⟨Pq,x,rfl,rfl,h3,h4,h5⟩,hB⟩ hK
  gi_wp2
  obtain⟨rest,hr⟩:=iN;have hx:=KN (n:=s.size-p) hr.symm h3 h4;have hlt:=BU (s.extract p s.size) x (by rw[←hr];simp);have hw:wrap64 ((p:Int)+ (x.1:Int))=((p+x.1:Nat):Int):=by
   simp at hlt;rw[show(p:Int)+ (x.1:Int)=((p+x.1:Nat):Int) by omega];unfold wrap64;omega
  rw[hw] at h5;have hc:=cell_kept h5 (grownBy_putObj' _ D (.deferred none)) (fun r e=>by cases e;exact⟨_,hK,rfl⟩);refine⟨by simp,.inl ⟨_,_,rfl,run_takeDeferred hK,?_⟩⟩;refine⟨.int .i64 ((p+x.1:Nat):Int),by simp[results,Tryz.results232,go_sem,hc],by rw[hx],?_⟩;exact hB.trans (belowK_b (w:=W0) (by omega) _ D _ _ hD hK rfl rfl)
end
section
def wN (pb:Nat) (m:Int) (w:World):Prop:=w.heap[pb]? =some (.cells #[.int .i64 m] 3 (0,0))
theorem wN.cell {pb:Nat} {m:Int} {w:World} (h:wN pb m w):w.cell? ⟨pb,0,none⟩=some (.int .i64 m):=cell_of_one h
theorem wN.free {pb:Nat} {m:Int} {w:World} (h:wN pb m w):w.frozen? ⟨pb,0,none⟩=false:=free_of_one h
theorem wN.lt {pb:Nat} {m:Int} {w:World} (h:wN pb m w):pb<w.heap.size:=lt_of_block h
theorem wN.set {pb:Nat} {m:Int} {w:World} (h:wN pb m w) (x:Int):wN pb x (w.setCell ⟨pb,0,none⟩ (.int .i64 x)):=one_setCell h
theorem wN.alloc {pb:Nat} {m:Int} {w:World} (h:wN pb m w) (o:Obj):wN pb m (w.alloc o):=(Below.heap_alloc _ _ _ h.lt).trans h
theorem wN.drew {pb:Nat} {m:Int} {w:World} (h:wN pb m w):wN pb m w.drew:=h
structure Yq (w0 w:World) (pb:Nat):Prop where
 below:Below w0.heap.size w0 w
 above:w0.heap.size≤pb
theorem Yq.step {w0 w w':World} {pb:Nat} (h:Yq w0 w pb) (hg:w.grownBy w' (some pb)):Yq w0 w' pb:=
 ⟨h.below.grown hg h.below.size (fun k hk=>by cases hk;exact h.above),h.above⟩
structure Gb (w wr:World) (c:Array Value) (x:Int):Prop where
 few:Yq w wr (w.heap.size+1)
 cnt:wN (w.heap.size+1) x wr
 box:∀i,wr.cell? ⟨w.heap.size,i,none⟩=c[i]?
theorem Gb.step {w wr w':World} {c:Array Value} {x y:Int} (h:Gb w wr c x) (hg:wr.grownBy w' (some (w.heap.size+1))) (hc:wN (w.heap.size+1) y w'):Gb w w' c y where
 few:=h.few.step hg
 cnt:=hc
 box:=fun i=>by
  have hlt:w.heap.size<wr.heap.size:=by have:=h.cnt.lt;omega
  rw[←h.box i];exact World.cell?_of_block (hg.block _ hlt (by simp))
theorem Gb.start (w:World) (c:Array Value) (t:TypeId) (x:Int):Gb w ((w.alloc (.cells c t)).alloc (.cells #[.int .i64 x] 3)) c x where
 few:=⟨ri _ _ _,by omega⟩
 cnt:=by
  have:=heap_alloc_new (w.alloc (.cells c t)) (.cells #[.int .i64 x] 3);simpa[wN] using this
 box:=(zG (Below.refl _ _)).1
end
section
section
variable {w w':World} {row:Option Nat} {Z Z':Nat→Prop} {p:Bool}
theorem eP.move {t:TypeId} {b off n len cap:Nat} (h:eP w (some Z) t b off n len cap) (hg:w.grownBy w' row) (hr:∀b,Z b→some b≠row) (hz:∀b,Z b→Z' b):eP w' (some Z') t b off n len cap:=fun Y hY=>by
 cases hY;obtain⟨h1,h2,⟨cs,h3⟩,h4,h5⟩:=h Z rfl;exact⟨hz _ h1,h2,⟨cs,(hg.block b (lt_of_block h3) (hr _ h1)).trans h3⟩,h4,hg.cell h5 (hr _ h1)⟩
theorem gZ.move {h:EH} {b q:Nat} (x:gZ w p h b q) (hg:w.grownBy w' row) (hb:some b≠row):gZ w' p h b q:=by
 obtain⟨⟨t,y0,jQ⟩,y1,y2,y3,y4,y5⟩:=x;exact⟨⟨t,hg.cell y0 hb,jQ⟩,hg.cell y1 hb,hg.cell y2 hb,hg.cell y3 hb,hg.cell y4 hb,hg.cell y5 hb⟩
theorem ia.move {h:SH} {b q:Nat} (x:ia w p h b q) (hg:w.grownBy w' row) (hb:some b≠row):ia w' p h b q:=by
 obtain⟨⟨t,y0,jQ⟩,y1,y2,y3,y4⟩:=x;exact⟨⟨t,hg.cell y0 hb,jQ⟩,hg.cell y1 hb,hg.cell y2 hb,hg.cell y3 hb,hg.cell y4 hb⟩
theorem bw.move (hg:w.grownBy w' row) (hr:∀b,Z b→some b≠row) (hz:∀b,Z b→Z' b):∀{l:az} {b off k:Nat},bw w p (some Z) l b off k→(l.len=0∨some b≠row)→bw w' p (some Z') l b off k
 | .nil,_,_,_,_,_=>trivial
 | .cons h kids rest,b,off,k,⟨x1,⟨ka,kb,aD,aK,y1,y2,y3⟩,x3⟩,hb=>
  have hb':some b≠row:=hb.resolve_left (by simp[az.len])
  ⟨x1.move hg hb',⟨ka,kb,aD,aK,hg.cell y1 hb',y2.imp (fun z=>nomatch z.2) (fun z=>⟨z.1,z.2.move hg hr hz⟩),bw.move hg hr hz y3 (y2.imp And.left (fun z=>hr _ (z.2 Z rfl).1))⟩,bw.move hg hr hz x3 (.inr hb')⟩
theorem dI.move {l:az} {v:Value} (h:dI w p (some Z) l v) (hg:w.grownBy w' row) (hr:∀b,Z b→some b≠row) (hz:∀b,Z b→Z' b):dI w' p (some Z') l v:=by
 obtain⟨ka,kb,aD,aK,rfl,y2,y3⟩:=h;exact⟨ka,kb,aD,aK,rfl,y2.imp (fun z=>nomatch z.2) (fun z=>⟨z.1,z.2.move hg hr hz⟩),y3.move hg hr hz (y2.imp And.left (fun z=>hr _ (z.2 Z rfl).1))⟩
theorem bC.move (hg:w.grownBy w' row) (hr:∀b,Z b→some b≠row) (hz:∀b,Z b→Z' b):∀{l:aH} {b off k:Nat},bC w p (some Z) l b off k→(l.len=0∨some b≠row)→bC w' p (some Z') l b off k
 | .nil,_,_,_,_,_=>trivial
 | .cons h x body els rest,b,off,k,⟨x1,⟨v,x2,x3⟩,⟨ka,kb,aD,aK,y1,y2,y3⟩,⟨ja,jb,rf,rh,z1,z2,z3⟩,x4⟩,hb=>
  have hb':some b≠row:=hb.resolve_left (by simp[aH.len])
  ⟨x1.move hg hb',⟨v,hg.cell x2 hb',x3.move hg hr hz⟩,⟨ka,kb,aD,aK,hg.cell y1 hb',y2.imp (fun z=>nomatch z.2) (fun z=>⟨z.1,z.2.move hg hr hz⟩),bC.move hg hr hz y3 (y2.imp And.left (fun z=>hr _ (z.2 Z rfl).1))⟩,⟨ja,jb,rf,rh,hg.cell z1 hb',z2.imp (fun z=>nomatch z.2) (fun z=>⟨z.1,z.2.move hg hr hz⟩),bC.move hg hr hz z3 (z2.imp And.left (fun z=>hr _ (z.2 Z rfl).1))⟩,bC.move hg hr hz x4 (.inr hb')⟩
theorem dR.move {l:aH} {v:Value} (h:dR w p (some Z) l v) (hg:w.grownBy w' row) (hr:∀b,Z b→some b≠row) (hz:∀b,Z b→Z' b):dR w' p (some Z') l v:=by
 obtain⟨ka,kb,aD,aK,rfl,y2,y3⟩:=h;exact⟨ka,kb,aD,aK,rfl,y2.imp (fun z=>nomatch z.2) (fun z=>⟨z.1,z.2.move hg hr hz⟩),y3.move hg hr hz (y2.imp And.left (fun z=>hr _ (z.2 Z rfl).1))⟩
theorem ei.move {α:Type} {t:TypeId} {n:Nat} {R R':α→Nat→Nat→Prop} {l:List α} {v:Value} (h:ei w (some Z) t n R l v) (hg:w.grownBy w' row) (hr:∀b,Z b→some b≠row) (hz:∀b,Z b→Z' b) (hR:∀a b q,some b≠row→R a b q→R' a b q):ei w' (some Z') t n R' l v:=by
 obtain⟨ka,kb,aD,aK,rfl,y2,y3⟩:=h;refine⟨ka,kb,aD,aK,rfl,y2.imp (fun z=>nomatch z.2) (fun z=>⟨z.1,z.2.move hg hr hz⟩),fun i hi=>?_⟩;rcases y2 with h0|⟨_,hZ⟩
 ·exact nomatch h0.2
 ·exact hR _ _ _ (hr _ (hZ Z rfl).1) (y3 i hi)
theorem lO.move {a:PW} {b q:Nat} (h:lO w a b q) (hg:w.grownBy w' row) (hb:some b≠row):lO w' a b q:=⟨hg.cell h.c0 hb,hg.cell h.c1 hb⟩
theorem dE.move {l:List PW} {v:Value} (h:dE w (some Z) l v) (hg:w.grownBy w' row) (hr:∀b,Z b→some b≠row) (hz:∀b,Z b→Z' b):dE w' (some Z') l v:=ei.move h hg hr hz (fun _ _ _ hb h=>h.move hg hb)
end
/-! ### lists of a tree -/
def az.bu:az→List (EH×az)
 | .nil=>[]
 | .cons h k r=>(h,k)::r.bu
theorem az.br:∀l:az,l.bu.length=l.len
 | .nil=>rfl
 | .cons h k r=>by simp[az.bu,az.len,az.br r]
theorem az.jX:∀(l:az) (a:EH×az),a∈l.bu→a.2.sz<l.sz
 | .nil,_,h=>by cases h
 | .cons h k r,a,hm=>by
  rcases List.mem_cons.1 hm with rfl|h'
  ·simp only[az.sz];omega
  ·have:=az.jX r a h';simp only[az.sz];omega
structure xg (w:World) (p:Bool) (o:Option (Nat→Prop)) (a:EH×az) (b q:Nat):Prop where
 head:gZ w p a.1 b q
 kids:∃v,w.cell? ⟨b,q+6,none⟩=some v∧dI w p o a.2 v
theorem xi {w:World} {p:Bool} {o:Option (Nat→Prop)} {b off:Nat}:∀{l:az} {k:Nat},bw w p o l b off k→∀i (h:i<l.bu.length),xg w p o l.bu[i] b (off+ (k+i)*7)
 | .nil,k,_,i,h=>by simp[az.bu] at h
 | .cons h kids rest,k,x,i,hi=>by
  obtain⟨x1,x2,x3⟩:=x.cons;cases i with
  |zero=>exact⟨x1,x2⟩
  |succ i=>
   have:=xi x3 i (by simpa[az.bu] using hi);rw[show k+1+i=k+ (i+1) by omega] at this;exact this
theorem xj {w:World} {p:Bool} {o:Option (Nat→Prop)} {b off:Nat}:∀{l:az} {k:Nat},(∀i (h:i<l.bu.length),xg w p o l.bu[i] b (off+ (k+i)*7))→bw w p o l b off k
 | .nil,k,_=>trivial
 | .cons h kids rest,k,x=>by
  have x0:=x 0 (by simp[az.bu]);obtain⟨v,x1,x2⟩:=x0.kids;refine bw.mk x0.head x1 x2 (xj fun i hi=>?_);have:=x (i+1) (by simpa[az.bu] using hi);rw[show k+ (i+1)=k+1+i by omega] at this;exact this
theorem nx {w:World} {p:Bool} {o:Option (Nat→Prop)} {l:az} {v:Value}:dI w p o l v↔ei w o 134 7 (xg w p o) l.bu v:=by
 constructor
 ·rintro⟨ka,kb,aD,aK,rfl,y2,y3⟩;refine⟨ka,kb,aD,aK,by rw[az.br],by rw[az.br];exact y2,fun i hi=>?_⟩;have:=xi y3 i hi;rwa[Nat.zero_add] at this
 ·rintro⟨ka,kb,aD,aK,rfl,y2,y3⟩;rw[az.br] at y2⊢;exact⟨ka,kb,aD,aK,rfl,y2,xj fun i hi=>by rw[Nat.zero_add];exact y3 i hi⟩
abbrev SB:=SH×az×aH×aH
def aH.bu:aH→List SB
 | .nil=>[]
 | .cons h x b e r=>(h,x,b,e)::r.bu
theorem aH.br:∀l:aH,l.bu.length=l.len
 | .nil=>rfl
 | .cons h x b e r=>by simp[aH.bu,aH.len,aH.br r]
theorem aH.jX:∀(l:aH) (a:SB),a∈l.bu→a.2.1.sz+a.2.2.1.sz+a.2.2.2.sz<l.sz
 | .nil,_,h=>by cases h
 | .cons h x b e r,a,hm=>by
  rcases List.mem_cons.1 hm with rfl|h'
  ·simp only[aH.sz];omega
  ·have:=aH.jX r a h';simp only[aH.sz];omega
structure xk (w:World) (p:Bool) (o:Option (Nat→Prop)) (a:SB) (b q:Nat):Prop where
 head:ia w p a.1 b q
 exprs:∃v,w.cell? ⟨b,q+5,none⟩=some v∧dI w p o a.2.1 v
 body:∃v,w.cell? ⟨b,q+6,none⟩=some v∧dR w p o a.2.2.1 v
 els:∃v,w.cell? ⟨b,q+7,none⟩=some v∧dR w p o a.2.2.2 v
theorem xm {w:World} {p:Bool} {o:Option (Nat→Prop)} {b off:Nat}:∀{l:aH} {k:Nat},bC w p o l b off k→∀i (h:i<l.bu.length),xk w p o l.bu[i] b (off+ (k+i)*8)
 | .nil,k,_,i,h=>by simp[aH.bu] at h
 | .cons h ex body els rest,k,x,i,hi=>by
  obtain⟨x1,x2,x3,x4,x5⟩:=x.cons;cases i with
  |zero=>exact⟨x1,x2,x3,x4⟩
  |succ i=>
   have:=xm x5 i (by simpa[aH.bu] using hi);rw[show k+1+i=k+ (i+1) by omega] at this;exact this
theorem xp {w:World} {p:Bool} {o:Option (Nat→Prop)} {b off:Nat}:∀{l:aH} {k:Nat},(∀i (h:i<l.bu.length),xk w p o l.bu[i] b (off+ (k+i)*8))→bC w p o l b off k
 | .nil,k,_=>trivial
 | .cons h ex body els rest,k,x=>by
  have x0:=x 0 (by simp[aH.bu]);obtain⟨v,x1,x2⟩:=x0.exprs;obtain⟨vb,x3,x4⟩:=x0.body;obtain⟨ve,x5,x6⟩:=x0.els;refine bC.mk x0.head x1 x2 x3 x4 x5 x6 (xp fun i hi=>?_);have:=x (i+1) (by simpa[aH.bu] using hi);rw[show k+ (i+1)=k+1+i by omega] at this;exact this
theorem ny {w:World} {p:Bool} {o:Option (Nat→Prop)} {l:aH} {v:Value}:dR w p o l v↔ei w o 109 8 (xk w p o) l.bu v:=by
 constructor
 ·rintro⟨ka,kb,aD,aK,rfl,y2,y3⟩;refine⟨ka,kb,aD,aK,by rw[aH.br],by rw[aH.br];exact y2,fun i hi=>?_⟩;have:=xm y3 i hi;rwa[Nat.zero_add] at this
 ·rintro⟨ka,kb,aD,aK,rfl,y2,y3⟩;rw[aH.br] at y2⊢;exact⟨ka,kb,aD,aK,rfl,y2,xp fun i hi=>by rw[Nat.zero_add];exact y3 i hi⟩
/-! ### a list of records that is being built -/
def zl {α:Type} (w:World) (B:Nat) (e:TypeId) (n:Nat) (R:α→List Value→Prop) (l:List α) (v:Value):Prop:=
 ∃cs:List (List Value),cs.length=l.length∧(∀i (h:i<l.length) (h':i<cs.length),cs[i].length=n∧R l[i] cs[i])∧w.ownsRow B e n v l.length cs.flatten
theorem gP {n:Nat}:∀{cs:List (List Value)},(∀i (h:i<cs.length),cs[i].length=n)→cs.flatten.length=cs.length*n
 |[],_=>by simp
 |c::cs,h=>by
  have h0:=h 0 (by simp);have:=gP (cs:=cs) (fun i hi=>h (i+1) (by simpa using hi));simp only[List.getElem_cons_zero] at h0;simp only[List.flatten_cons,List.length_append,List.length_cons,this,h0,Nat.add_mul];omega
theorem gw {n:Nat}:∀{cs:List (List Value)},(∀i (h:i<cs.length),cs[i].length=n)→∀i (h:i<cs.length) j,j<n→cs.flatten[i*n+j]? =cs[i][j]?
 |[],_,i,h,_,_=>by simp at h
 | c::cs,h,i,hi,j,hj=>by
  have h0:=h 0 (by simp);simp only[List.getElem_cons_zero] at h0;cases i with
  |zero=>simp only[List.flatten_cons,List.getElem_cons_zero];rw[List.getElem?_append_left (by omega)];simp
  |succ i=>
   have:=gw (cs:=cs) (fun i hi=>h (i+1) (by simpa using hi)) i (by simpa using hi) j hj;simp only[List.flatten_cons,List.getElem_cons_succ];rw[List.getElem?_append_right (by rw[h0,Nat.add_mul];omega),h0,show(i+1)*n+j-n=i*n+j by rw[Nat.add_mul];omega];exact this
theorem zl.nil {α:Type} (w:World) (B:Nat) (e:TypeId) (n:Nat) (R:α→List Value→Prop):zl w B e n R [] (.slice none 0 0):=⟨[],rfl,fun i h=>by simp at h,World.ownsRow_nil w B e n⟩
theorem zl.push {α:Type} {w':World} {B:Nat} {e:TypeId} {n:Nat} {R R':α→List Value→Prop} {l:List α} {v':Value} {cs:List (List Value)} {c:List Value} {a:α} (h1:cs.length=l.length) (h2:∀i (h:i<l.length) (h':i<cs.length),cs[i].length=n∧R l[i] cs[i])
  (hA:w'.ownsRow B e n v' (l.length+1) (cs.flatten++c)) (hc:c.length=n) (hR:∀a c,R a c→R' a c) (ha:R' a c):zl w' B e n R' (l++[a]) v':=by
 refine⟨cs++[c],by simp[h1],fun i h h'=>?_,by simpa using hA⟩;by_cases hi:i<l.length
 ·rw[List.getElem_append_left hi,List.getElem_append_left (by omega)];exact⟨(h2 i hi (by omega)).1,hR _ _ (h2 i hi (by omega)).2⟩
 ·have:i=l.length:=by simp at h;omega
  subst this;rw[List.getElem_append_right (by omega),List.getElem_append_right (by omega)];simp only[h1,Nat.sub_self,List.getElem_cons_zero];exact⟨hc,ha⟩
theorem zl.on {α:Type} {w w':World} {B:Nat} {e:TypeId} {n:Nat} {R R':α→List Value→Prop} {l:List α} {v:Value} (h:zl w B e n R l v) {row:Option Nat} (hg:w.grownBy w' row) (hne:v.ownBlock=none∨v.ownBlock≠row) (hR:∀a c,R a c→R' a c):zl w' B e n R' l v:=by
 obtain⟨cs,h1,h2,h3⟩:=h;exact⟨cs,h1,fun i h h'=>⟨(h2 i h h').1,hR _ _ (h2 i h h').2⟩,h3.kept hg hne⟩
theorem zl.alloc {α:Type} {w:World} {B:Nat} {e:TypeId} {n:Nat} {R:α→List Value→Prop} {l:List α} {v:Value} (h:zl w B e n R l v) (o:Obj):zl (w.alloc o) B e n R l v:=
 h.on (World.grownBy_alloc w o none) (by cases v.ownBlock<;>simp) (fun _ _ h=>h)
theorem zl.lt {α:Type} {w:World} {B:Nat} {e:TypeId} {n:Nat} {R:α→List Value→Prop} {l:List α} {v:Value} (h:zl w B e n R l v):∀k,v.ownBlock=some k→B≤k∧k<w.heap.size:=by
 obtain⟨cs,h1,h2,h3⟩:=h;exact h3.lt
theorem zl.done {α:Type} {w:World} {B:Nat} {e:TypeId} {n:Nat} {R:α→List Value→Prop} {Rel:α→Nat→Nat→Prop} {l:List α} {g m cap:Nat} {cs:List (List Value)} {mark:List Value} {Z:Nat→Prop} (h1:cs.length=l.length) (h2:∀i (h:i<l.length) (h':i<cs.length),cs[i].length=n∧R l[i] cs[i])
  (h3:w.ownsRow B e n (.slice (some ⟨g,0,none⟩) m cap) m (cs.flatten++mark)) (hm:l.length<m) (hn:0<n) (J9:mark[0]? =some (ub e)) (hZ:Z g) (hR:∀a c q,R a c→(∀j,j<n→w.cell? ⟨g,q+j,none⟩=c[j]?)→Rel a g q):ei w (some Z) e n Rel l (.slice (some ⟨g,0,none⟩) l.length cap):=by
 refine⟨some ⟨g,0,none⟩,g,0,cap,rfl,.inr ⟨rfl,fun Y hY=>?_⟩,fun i hi=>?_⟩
 ·cases hY;have tB:cs.flatten.length=l.length*n:=by rw[gP (fun i h=>(h2 i (by omega) h).1),h1]
  have hlm:l.length*n<m*n:=Nat.mul_lt_mul_of_pos_right hm hn;have hcell:w.cell? ⟨g,l.length*n,none⟩=some (ub e):=by
   rw[h3.cellAt _ hlm,List.getElem?_append_right (by omega),tB,Nat.sub_self];exact J9
  rcases h3.2 with⟨h,_⟩|⟨g',cap',cur,hv,hb,hg,Dw,_⟩
  ·cases h
  ·cases hv;exact⟨hZ,rfl,⟨cur,hg⟩,by omega,hcell⟩
 ·have hi':i<cs.length:=by omega
  have hl:∀i (h:i<cs.length),cs[i].length=n:=fun i h=>(h2 i (by omega) h).1
  refine hR _ _ _ (h2 i hi hi').2 (fun j hj=>?_);have hlt:i*n+j<cs.flatten.length:=by
   rw[gP hl]
   calc i*n+j<i*n+n:=by omega
    _=(i+1)*n:=by rw[Nat.add_mul];omega
    _≤cs.length*n:=Nat.mul_le_mul_right _ (by omega)
  have lQ:i*n+j<m*n:=by
   rw[gP hl,h1] at hlt;exact Nat.lt_of_lt_of_le hlt (Nat.mul_le_mul_right _ (Nat.le_of_lt hm))
  rw[Nat.zero_add,h3.cellAt (i*n+j) lQ,List.getElem?_append_left hlt];exact gw hl i hi' j hj
end
section
def zK (w:World) (Z:Nat→Prop) (a:EH×az) (c:List Value):Prop:=
 ∃v,c=[.int .i64 a.1.at_,.int .u8 a.1.kind,.int .u32 a.1.word,.int .u8 a.1.type,.string a.1.name,.string a.1.sign,v]∧dI w true (some Z) a.2 v
def ZB (B N:Nat) (v:Value):Nat→Prop:=fun b=>B≤b∧b<N∧some b≠v.ownBlock
theorem fA {α:Type} (l:List α) (k:Nat) (h:k<l.length):l.take (k+1)=l.take k++[l[k]]:=List.take_succ_eq_append_getElem h
theorem mG {w w':World} {row:Option Nat} (h:w.grownBy w' none):w.grownBy w' row:=⟨h.os,h.tape,h.output,h.size,fun k hk _=>h.block k hk (by simp)⟩
structure zL (B:Nat) (wr w2 w3:World) (x v':Value):Prop where
 grown:wr.grownBy w3 x.ownBlock
 rr:w2.grownBy w3 x.ownBlock
 Dx:∀b,ZB B wr.heap.size x b→ZB B w3.heap.size v' b
 new:∀b,(wr.heap.size≤b∧b<w2.heap.size)→some b≠x.ownBlock
 newz:∀b,(wr.heap.size≤b∧b<w2.heap.size)→ZB B w3.heap.size v' b
theorem Gc {B base:Nat} {wr w2 w3:World} {e:TypeId} {size n m:Nat} {x v':Value} {xs news:List Value} (hg:wr.grownBy w2 none) (hA:aV w2 w3 base e size x v' n m xs news) (hlt:∀k,x.ownBlock=some k→k<wr.heap.size) (hB:B≤wr.heap.size):zL B wr w2 w3 x v':=by
 have h1:=hg.size;have h2:=hA.grown.size;have hne:∀b,b<w2.heap.size→some b≠x.ownBlock→some b≠v'.ownBlock:=by
  intro b hb hx;rcases hA.place with hp|⟨g,hp,hg,_⟩
  ·rw[hp];exact hx
  ·rw[hp];intro h;cases h;omega
 have Gd:∀b,(wr.heap.size≤b∧b<w2.heap.size)→some b≠x.ownBlock:=fun b hb h=>by have:=hlt b h.symm;omega
 refine⟨aO (mG hg) hA.grown,hA.grown,fun b hb=>⟨hb.1,?_,hne b ?_ hb.2.2⟩,Gd,fun b hb=>⟨?_,?_,hne b hb.2 (Gd b hb)⟩⟩
 ·have:=hb.2.1;omega
 ·have:=hb.2.1;omega
 ·omega
 ·omega
theorem zK.step {B:Nat} {wr w2 w3:World} {x v':Value} (h:zL B wr w2 w3 x v') {a:EH×az} {c:List Value} (hc:zK wr (ZB B wr.heap.size x) a c):zK w3 (ZB B w3.heap.size v') a c:=by
 obtain⟨v,hv,ht⟩:=hc;exact⟨v,hv,ht.move h.grown (fun b hb=>hb.2.2) h.Dx⟩
theorem xg.of {w:World} {Z:Nat→Prop} {a:EH×az} {c:List Value} {g q:Nat} (h:zK w Z a c) (hc:∀j,j<7→w.cell? ⟨g,q+j,none⟩=c[j]?):xg w true (some Z) a g q:=by
 obtain⟨v,rfl,ht⟩:=h;exact⟨⟨⟨_,hc 0 (by omega),fun _=>rfl⟩,hc 1 (by omega),hc 2 (by omega),hc 3 (by omega),hc 4 (by omega),hc 5 (by omega)⟩,⟨v,hc 6 (by omega),ht⟩⟩
theorem zK.weak {w:World} {Z Z':Nat→Prop} {a:EH×az} {c:List Value} (h:zK w Z a c) (hz:∀b,Z b→Z' b):zK w Z' a c:=by
 obtain⟨v,hv,ht⟩:=h;exact⟨v,hv,ht.move (bR w none) (fun _ _=>by simp) hz⟩
theorem cW {w w':World} {pb off:Nat} (h:w.grownBy w' (some pb)) (x:Value):w.grownBy (w'.setCell ⟨pb,off,none⟩ x) (some pb):=
 aO h ⟨rfl,rfl,rfl,by simp[World.setCell],fun k _ hk=>Below.heap_setCell _ _ _ _ (fun e=>hk (by rw[e]))⟩
theorem ah {w w':World} (h:Below w.heap.size w w'):w.grownBy w' none:=⟨h.os,h.tape,h.output,h.size,fun k hk _=>h.block k hk⟩
theorem kJ {w w':World} (h:w.grownBy w' none):Below w.heap.size w w':=⟨h.os,h.tape,h.output,h.size,fun k hk=>h.block k hk (by simp)⟩
end
section
def Bx (w:World) (q:Nat) (cs:Array Value) (t:TypeId):Prop:=w.heap[q]? =some (.cells cs t (0,0))
theorem Bx.cell {w:World} {q:Nat} {cs:Array Value} {t:TypeId} (h:Bx w q cs t) (i:Nat):w.cell? ⟨q,i,none⟩=cs[i]? :=by
 unfold Bx at h;simp[World.cell?,h]
theorem Bx.free {w:World} {q:Nat} {cs:Array Value} {t:TypeId} (h:Bx w q cs t) (i:Nat):w.frozen? ⟨q,i,none⟩=false:=by
 unfold Bx at h;simp[World.frozen?,h]
theorem Bx.lt {w:World} {q:Nat} {cs:Array Value} {t:TypeId} (h:Bx w q cs t):q<w.heap.size:=lt_of_block h
theorem Bx.new (w:World) (cs:Array Value) (t:TypeId):Bx (w.alloc (.cells cs t)) w.heap.size cs t:=heap_alloc_new w _
theorem Bx.on {w w':World} {q:Nat} {cs:Array Value} {t:TypeId} (h:Bx w q cs t) {row:Option Nat} (hg:w.grownBy w' row) (hn:some q≠row):Bx w' q cs t:=(hg.block q h.lt hn).trans h
theorem Bx.set {w:World} {q:Nat} {cs:Array Value} {t:TypeId} (h:Bx w q cs t) (i:Nat) (v:Value):Bx (w.setCell ⟨q,i,none⟩ v) q (cs.set! i v) t:=by
 have hlt:=h.lt;have h':w.heap[q]=.cells cs t (0,0):=by have:=h;unfold Bx at this;simpa[Array.getElem?_eq_getElem hlt] using this
 show(w.heap.modify q _)[q]? =_
 rw[Array.getElem?_eq_getElem (by simpa using hlt),Array.getElem_modify_self,h'];rfl
def zM (w:World) (Z:Nat→Prop) (a:SB) (c:List Value):Prop:=
 ∃v5 v6 v7,c=[.int .i64 a.1.at_,.int .u8 a.1.kind,.string a.1.name,.int .u8 a.1.type,.string a.1.sign,v5,v6,v7]∧dI w true (some Z) a.2.1 v5∧dR w true (some Z) a.2.2.1 v6∧dR w true (some Z) a.2.2.2 v7
theorem zM.step {B:Nat} {wr w2 w3:World} {x v':Value} (h:zL B wr w2 w3 x v') {a:SB} {c:List Value} (hc:zM wr (ZB B wr.heap.size x) a c):zM w3 (ZB B w3.heap.size v') a c:=by
 obtain⟨v5,v6,v7,hv,h5,h6,h7⟩:=hc;exact⟨v5,v6,v7,hv,h5.move h.grown (fun b hb=>hb.2.2) h.Dx,h6.move h.grown (fun b hb=>hb.2.2) h.Dx,h7.move h.grown (fun b hb=>hb.2.2) h.Dx⟩
theorem zM.weak {w:World} {Z Z':Nat→Prop} {a:SB} {c:List Value} (h:zM w Z a c) (hz:∀b,Z b→Z' b):zM w Z' a c:=by
 obtain⟨v5,v6,v7,hv,h5,h6,h7⟩:=h;exact⟨v5,v6,v7,hv,h5.move (bR w none) (fun _ _=>by simp) hz,h6.move (bR w none) (fun _ _=>by simp) hz,h7.move (bR w none) (fun _ _=>by simp) hz⟩
theorem xk.of {w:World} {Z:Nat→Prop} {a:SB} {c:List Value} {g q:Nat} (h:zM w Z a c) (hc:∀j,j<8→w.cell? ⟨g,q+j,none⟩=c[j]?):xk w true (some Z) a g q:=by
 obtain⟨v5,v6,v7,rfl,h5,h6,h7⟩:=h;exact⟨⟨⟨_,hc 0 (by omega),fun _=>rfl⟩,hc 1 (by omega),hc 2 (by omega),hc 3 (by omega),hc 4 (by omega)⟩,⟨v5,hc 5 (by omega),h5⟩,⟨v6,hc 6 (by omega),h6⟩,⟨v7,hc 7 (by omega),h7⟩⟩
abbrev SW (w:World) (a0 a1:Int) (a2:ByteArray) (a3:Int) (a4:ByteArray) (v5 v6 v7:Value):World:=w.alloc (.cells #[.int .i64 a0,.int .u8 a1,.string a2,.int .u8 a3,.string a4,v5,v6,v7] 109)
end
section
open Go.Shelf
attribute [local go_sem] Oper.semAt_some
def oT (base n:Nat) (v:Value) (w:World):Prop:=∃xs,w.ownsRow base 5 1 v n xs
def App (base n:Nat) (v:Value) (w:World) (e:Ending) (w':World):Prop:=∃v' m,e=.returned v'∧oT base m v' w'∧m≤n+4∧Below base w w'∧w.grownBy w' v.ownBlock
theorem uX {base n m:Nat} {w w':World} {v v':Value} {xs news:List Value} (hA:aV w w' base 5 1 v v' n m xs news) (h:w.ownsRow base 5 1 v n xs) (hB:base≤w.heap.size) (hm:m≤4):App base n v w (.returned v') w':=
 ⟨v',n+m,rfl,⟨_,hA.own⟩,by omega,(Below.refl base w).grown hA.grown hB (fun k hk=>(h.lt k hk).1),hA.grown⟩
theorem Dy (base n:Nat) (v:Value) (r:Int) (w:World) (hv:oT base n v w) (hn:n≤100000000) (hB:base≤w.heap.size):Calls Tryz.prog 299 #[v,.int .i32 r] w (App base n v w):=by
 obtain⟨xs,ho⟩:=hv;have hO:=af ho;have hlt:n≤100000000:=hn;clear ho hn;go_enter Tryz.func299,Tryz.ntmps299;go_wp2_with (first
  |(at_builtin;refine aG rfl _ _ 295 rfl base 5 5 (.int .u8 0) 1 1 2 Tryz.underlying295 (by kernel_rfl) rfl (by decide) _ n _ [_,_] (0,0) hO.out rfl (by simp[Value.oneCell']) (by unfold maxLen;omega) (by omega) hB rfl rfl ?_;intro v' w' hA;have hA':=af hA;clear hA)
  |(at_builtin;refine aG rfl _ _ 295 rfl base 5 5 (.int .u8 0) 1 1 3 Tryz.underlying295 (by kernel_rfl) rfl (by decide) _ n _ [_,_,_] (0,0) hO.out rfl (by simp[Value.oneCell']) (by unfold maxLen;omega) (by omega) hB rfl rfl ?_;intro v' w' hA;have hA':=af hA;clear hA)
  |(at_builtin;refine aG rfl _ _ 295 rfl base 5 5 (.int .u8 0) 1 1 4 Tryz.underlying295 (by kernel_rfl) rfl (by decide) _ n _ [_,_,_,_] (0,0) hO.out rfl (by simp[Value.oneCell']) (by unfold maxLen;omega) (by omega) hB rfl rfl ?_;intro v' w' hA;have hA':=af hA;clear hA))
 all_goals
  go_ret;exact uX hA'.out hO.out hB (by omega)
theorem Dz (base n:Nat) (v:Value) (r:Int) (w:World) (hv:oT base n v w) (hn:n≤100000000) (hB:base≤w.heap.size):Calls Tryz.prog 279 #[v,.int .i32 r] w (App base n v w):=by
 have bT:=af (Dy base n v r w hv hn hB);obtain⟨xs,ho⟩:=hv;have hO:=af ho;have hlt:n≤100000000:=hn;clear ho hn;go_enter Tryz.func279,Tryz.ntmps279;go_wp2_with (at_builtin;refine aG rfl _ _ 295 rfl base 5 5 (.int .u8 0) 1 1 1 Tryz.underlying295 (by kernel_rfl) rfl (by decide) _ n _ [_] (0,0) hO.out rfl (by simp[Value.oneCell']) (by unfold maxLen;omega) (by omega) hB rfl rfl ?_;intro v' w' hA;have hA':=af hA;clear hA)
 ·go_ret;exact uX hA'.out hO.out hB (by omega)
 ·refine bT.mono ?_;rintro e w2 ⟨v',m,rfl,h1,h2,h3⟩;have H:=af (And.intro h1 (And.intro h2 h3));clear h1 h2 h3 bT hO;go_wp2_with fail
  go_ret;exact⟨_,_,rfl,H.1,H.2.1,H.2.2.1,H.2.2.2⟩
def Say (s:ByteArray) (w:World) (e:Ending) (w':World):Prop:=
 (∃(c:Int) (b:Bool) (sz er:Int),e=.returned (.tuple #[.agg #[.int .i32 c,.bool b,.int .i64 sz],.int .i64 er])∧(er=0→1≤sz∧sz≤6))∧Below w.heap.size w w'
structure Sy (w W:World) (c:Int) (b:Bool) (sz er:Int):Prop where
 t:Bx W w.heap.size #[.int .i32 c,.bool b,.int .i64 sz] 337
 e:Bx W (w.heap.size+1) #[.int .i64 er] 32
theorem Sy.cells {w W:World} {c:Int} {b:Bool} {sz er:Int} (h:Sy w W c b sz er):(W.cell? ⟨w.heap.size,0,none⟩=some (.int .i32 c)∧W.cell? ⟨w.heap.size,1,none⟩=some (.bool b)∧W.cell? ⟨w.heap.size,2,none⟩=some (.int .i64 sz))∧W.cell? ⟨w.heap.size+1,0,none⟩=some (.int .i64 er)∧(∀i,W.frozen? ⟨w.heap.size,i,none⟩=false)∧W.frozen? ⟨w.heap.size+1,0,none⟩=false:=
 ⟨⟨h.t.cell 0,h.t.cell 1,h.t.cell 2⟩,h.e.cell 0,h.t.free,h.e.free 0⟩
theorem Sy.on {w W W':World} {c:Int} {b:Bool} {sz er:Int} (h:Sy w W c b sz er) {row:Option Nat} (hg:W.grownBy W' row) (h1:some w.heap.size≠row) (h2:some (w.heap.size+1)≠row):Sy w W' c b sz er:=⟨h.t.on hg h1,h.e.on hg h2⟩
theorem Sy.start (w:World) (er:Int:=0):Sy w ((w.alloc (.cells #[.int .i32 0,.bool false,.int .i64 0] 337)).alloc (.cells #[.int .i64 er] 32)) 0 false 0 er where
 t:=(Bx.new w _ _).on (World.grownBy_alloc _ _ none) (by simp)
 e:=by have:=Bx.new (w.alloc (.cells #[.int .i32 0,.bool false,.int .i64 0] 337)) #[.int .i64 er] 32;simpa using this
theorem Sy.put {w W:World} {c:Int} {b:Bool} {sz er:Int} (h:Sy w W c b sz er) (c':Int) (b':Bool) (sz' er':Int):Sy w ((((W.setCell ⟨w.heap.size,0,none⟩ (.int .i32 c')).setCell ⟨w.heap.size,1,none⟩ (.bool b')).setCell ⟨w.heap.size,2,none⟩ (.int .i64 sz')).setCell ⟨w.heap.size+1,0,none⟩ (.int .i64 er')) c' b' sz' er' where
 t:=(((h.t.set 0 _).set 1 _).set 2 _).on (cW (bR _ (some (w.heap.size+1))) _) (by simp)
 e:=(h.e.on (row:=some w.heap.size) (cW (cW (cW (bR _ _) _) _) _) (by simp)).set 0 _
theorem Sy.below {w W:World} (h:Below w.heap.size w W) (x0 x1 x2 x3:Value):Below w.heap.size w ((((W.setCell ⟨w.heap.size,0,none⟩ x0).setCell ⟨w.heap.size,1,none⟩ x1).setCell ⟨w.heap.size,2,none⟩ x2).setCell ⟨w.heap.size+1,0,none⟩ x3):=(((h.setCell (by simp) _).setCell (by simp) _).setCell (by simp) _).setCell (by simp) _
theorem Sy.res {tmps:Array Value} {w W:World} {c:Int} {b:Bool} {sz er:Int} (h:Sy w W c b sz er) (h4:tmps.getD 4 undef=.pointer (some ⟨w.heap.size,0,none⟩)) (h5:tmps.getD 5 undef=.pointer (some ⟨w.heap.size+1,0,none⟩)):
  (results Tryz.f278 tmps).run Tryz.prog W=.ok (.tuple #[.agg #[.int .i32 c,.bool b,.int .i64 sz],.int .i64 er]) W:=by
 obtain⟨⟨p0,p1,p2⟩,p3,_,_⟩:=h.cells;have h4':tmps[4]?.getD undef=.pointer (some ⟨w.heap.size,0,none⟩):=by simpa using h4
 have h5':tmps[5]?.getD undef=.pointer (some ⟨w.heap.size+1,0,none⟩):=by simpa using h5
 simp[results,Tryz.results278,go_sem,h4',h5',p0,p1,p2,p3]
theorem Sy.own {β:Type} {w:World} {c:β→Int} {b:β→Bool} {sz er:β→Int}:Own (fun s W=>Sy w W (c s) (b s) (sz s) (er s)):=fun s X Y row hs hg hr=>hs.on hg
 (fun e=>by obtain⟨o,ho,hc⟩:=hr _ e.symm;rw[show X.heap[w.heap.size]? =_ from hs.t] at ho;cases ho;cases hc)
 (fun e=>by obtain⟨o,ho,hc⟩:=hr _ e.symm;rw[show X.heap[w.heap.size+1]? =_ from hs.e] at ho;cases ho;cases hc)
theorem uY (s:ByteArray) (i:Nat):(Utf8.decode s i).1≤1114111∧¬(55296≤(Utf8.decode s i).1∧(Utf8.decode s i).1≤57343):=by
 have hb:∀k,(s.get! (i+k)).toNat<256:=fun k=>(s.get! (i+k)).toNat_lt
 have h0:=hb 0;have h1:=hb 1;have h2:=hb 2;have h3:=hb 3;simp only[Utf8.decode]
 repeat' split
 all_goals simp_all [Utf8.runeError,Utf8.valid]
 all_goals omega
theorem ru (s:ByteArray):∀n i (x:Nat×Int),x∈eB s n i→∃j,x.2=aM s j
 |0,_,_,h=>by cases h
 | n+1,i,x,h=>by
  simp only[eB] at h;split at h
  ·rcases List.mem_cons.1 h with rfl|h'
   ·exact⟨i,rfl⟩
   ·exact ru s n _ x h'
  ·cases h
theorem Ge (s:ByteArray) (x:Nat×Int) (h:x∈iM s) (h0:0≤x.2):1≤iT x.2∧iT x.2≤6:=by
 obtain⟨j,hj⟩:=ru s _ _ x h;have hv:=uY s j;rw[hj] at h0⊢;unfold aM at h0⊢;split at h0
 ·omega
 ·rename_i hn;rw[if_neg hn];unfold iT
  repeat' split
  all_goals omega
theorem ZK (w:World) (a:Addr) (x:Value) (b:Addr) (y:Value) (c:Addr) (z:Value) (d:Addr) (t:Value):KeepsOthers w ((((w.setCell a x).setCell b y).setCell c z).setCell d t):=(((KeepsOthers.setCell _ _ _).trans (KeepsOthers.setCell _ _ _)).trans (KeepsOthers.setCell _ _ _)).trans (KeepsOthers.setCell _ _ _)
theorem Gf (s:ByteArray) (p:Nat) (w:World) (hs:s.size≤1048576) (hp:p<s.size):Calls Tryz.prog 278 #[.string s,.int .i64 p] w (Say s w):=by
 refine(callsIn_wide (n:=5)).1 ?_;refine callsIn_of_wp_marks Tryz.func278 rfl trivial ?_ rfl;simp only[Tryz.ntmps278,List.size_toArray,List.length_cons,List.length_nil,Nat.reduceAdd,Nat.reduceSub,Array.replicate_succ,Array.replicate_zero,List.push_toArray,List.append_toArray,List.nil_append,List.cons_append];have mH:=af (Sy.start w);have cF:=af (ri w (.cells #[.int .i32 0,.bool false,.int .i64 0] 337) (.cells #[.int .i64 0] 32));by_cases h92:(s[p]'hp).toNat=92
 ·have hq:(((s[p]'hp).toNat:Int)==92)=true:=by simp;omega
  gi_wp2
  refine⟨trivial,?_⟩;refine(callsIn_wide.2 (Dr (s.extract p s.size) _ (by simp;omega))).mono ?_;rintro e w1 ⟨⟨c,b,sz,ok,rfl,wO⟩,hb⟩;have hS1:=af (mH.on (ah hb) (by simp) (by simp));have iU:=af (cF.trans (hb.mono cF.size));obtain⟨⟨p0,p1,p2⟩,p3,p4,p5⟩:=hS1.cells;have kt:=hS1.t.lt;have hl2:=hS1.e.lt;have ZL:=af wO;clear hb wO;cases ok
  ·gi_wp2
   exact⟨_,((hS1.put 0 false 0 12).on (World.grownBy_alloc _ _ none) (by simp) (by simp)).res rfl rfl,⟨_,_,_,_,rfl,fun h=>by cases h⟩,(Sy.below iU.out _ _ _ _).alloc (by simp;omega) _⟩
  ·gi_wp2
   exact⟨_,((hS1.put c b sz 0).on (World.grownBy_alloc _ _ none) (by simp) (by simp)).res rfl rfl,⟨_,_,_,_,rfl,fun _=>by have:=ZL.out trivial;omega⟩,(Sy.below iU.out _ _ _ _).alloc (by simp;omega) _⟩
 ·have hq:(((s[p]'hp).toNat:Int)==92)=false:=by simp;omega
  obtain⟨W0,hW0⟩:∃W0,W0=((w.alloc (.cells #[.int .i32 0,.bool false,.int .i64 0] 337)).alloc (.cells #[.int .i64 0] 32)).alloc (.cells #[.string (s.extract p s.size)] 9):=⟨_,rfl⟩;have hS1:Hid (Sy w W0 0 false 0 0):=af (by rw[hW0];exact mH.on (World.grownBy_alloc _ _ none) (by simp) (by simp));have iU:Hid (Below w.heap.size w W0):=af (by rw[hW0];exact cF.alloc (by simp;omega) _);have hsz:W0.heap.size=w.heap.size+3:=by rw[hW0];simp
  have b7:Boxed W0 (w.heap.size+1+1) 9 (.string (s.extract p s.size)):=by
   rw[hW0];have:=Boxed.new ((w.alloc (.cells #[.int .i32 0,.bool false,.int .i64 0] 337)).alloc (.cells #[.int .i64 0] 32)) 9 (.string (s.extract p s.size));simpa using this
  gi_wp2
  ·exact⟨_,(Sy.start w 10).res rfl rfl,⟨_,_,_,_,rfl,fun h=>by cases h⟩,ri _ _ _⟩
  rotate_left
  ·exact⟨_,(Sy.start w 10).res rfl rfl,⟨_,_,_,_,rfl,fun h=>by cases h⟩,ri _ _ _⟩
  refine⟨trivial,?_⟩;refine(callsIn_wide.2 (oP _ _)).mono ?_;rintro e w1 ⟨rfl,rfl⟩
  gi_wp2
  rw[←hW0];refine wpIn_rangeFunc_ownF (w0:=W0) rfl (by omega) (gf:=253) (lb:=#[.pointer (some ⟨w.heap.size+1+1,0,none⟩)]) rfl trivial (enters_of Tryz.func253 (by kernel_rfl) rfl)
   (oQ 4 (by omega) (w.heap.size+1+1) W0.heap.size (s.extract p s.size) (by simp;omega) W0 (by omega) (Nat.le_refl _) b7.cell) Kc.t (Kc.b (Nat.le_refl _)) (Below.refl _ _) (fun _=>rfl)
   (fun pre W=>Below W0.heap.size W0 W)
   (fun c pre W=>(∃(q:List (Nat×Int)×(Nat×Int)×Int×Bool×Int×Int),(c=.ret∧pre=q.1++[q.2.1]∧(q.2.2.2.2.2=0→0≤q.2.1.2∧q.2.2.2.2.1=iT q.2.1.2))∧Sy w W q.2.2.1 q.2.2.2.1 q.2.2.2.2.1 q.2.2.2.2.2)∧Below w.heap.size w W)
   (ownFrom_below (Nat.le_refl _) (Nat.le_refl _))
   (fun c=>OwnFrom.and (Own.from (fun s' A B row hs hg hr=>by obtain⟨q,h1,h2⟩:=hs;exact⟨q,h1,Sy.own (c:=fun _:Unit=>q.2.2.1) (b:=fun _=>q.2.2.2.1) (sz:=fun _=>q.2.2.2.2.1) (er:=fun _=>q.2.2.2.2.2) () A B row h2 hg hr⟩) _) (ownFrom_below (Nat.le_refl _) (by first|omega|(rw[←hW0];omega)|(simp;omega))))
   (Below.refl _ _)
   (fun x=>{tmps:=#[.string s,.int .i64 p,undef,undef,.pointer (some ⟨w.heap.size,0,none⟩),.pointer (some ⟨w.heap.size+1,0,none⟩),undef,undef,undef,.int .i32 x.2,.string s,.int .i64 p,.int .u8 ((s[p]'hp).toNat:Int),.bool false,undef,undef,undef,undef,undef,undef,undef,undef,undef,undef,undef,.string s,.int .i64 p,.int .u8 ((s[p]'hp).toNat:Int),.bool (decide (((s[p]'hp).toNat:Int)<32)),.bool (decide (((s[p]'hp).toNat:Int)<32)),.string s,.int .i64 p,.int .u8 ((s[p]'hp).toNat:Int),.bool false,.bool (decide (((s[p]'hp).toNat:Int)<32)),undef,.string s,.int .i64 p,.string (s.extract p s.size),.func (.func 253) #[] #[.pointer (some ⟨w.heap.size+1+1,0,none⟩)],.int .i64 x.1,.int .i32 x.2,undef,undef,undef,undef,undef,undef,undef,undef],defers:=[]}) ?assign ?body ?done ?stop
  case assign=>
   intro l x W K hK
   gi_wp2
   exact hK
  case body=>
   rintro l pre x W hB _;have Fv:=hS1.on (ah hB) (by simp) (by simp);obtain⟨⟨p0,p1,p2⟩,p3,p4,p5⟩:=Fv.cells;have KO:=af Fv;clear Fv;have bT:=zJ x.2 W;have fB:=af (iU.trans (hB.mono (by omega)))
   gi_wp2_with (refine⟨trivial,?_⟩;gi_at_call 298;refine(CallsIn.inRound l (callsIn_wide.2 bT)).mono ?_;rintro e w' ⟨rfl,rfl⟩)
   ·exact⟨ZK _ _ _ _ _ _ _ _ _,⟨(pre,x,0,false,0,13),⟨rfl,rfl,fun h=>by simp at h⟩,KO.put 0 false 0 13⟩,Sy.below fB.out _ _ _ _⟩
   ·exact⟨ZK _ _ _ _ _ _ _ _ _,⟨(pre,x,x.2,false,iT x.2,0),⟨rfl,rfl,fun h=>⟨by omega,rfl⟩⟩,KO.put x.2 false (iT x.2) 0⟩,Sy.below fB.out _ _ _ _⟩
  case done=>
   rintro D ys W hD rfl hB hK;have Fv:=hS1.on (ah hB) (by simp) (by simp);obtain⟨⟨p0,p1,p2⟩,p3,p4,p5⟩:=Fv.cells;have KO:=af Fv;clear Fv;have fB:=af (iU.trans (hB.mono (by omega)))
   gi_wp2
   have hK2:=(ZK W ⟨w.heap.size,0,none⟩ (.int .i32 0) ⟨w.heap.size,1,none⟩ (.bool false) ⟨w.heap.size,2,none⟩ (.int .i64 0) ⟨w.heap.size+1,0,none⟩ (.int .i64 13)).same D _ hK rfl;refine⟨by simp,.inl ⟨_,_,rfl,run_takeDeferred hK2,?_⟩⟩;exact⟨_,((KO.put 0 false 0 13).on (grownBy_putObj' _ D (.deferred none)) (by simp;omega) (by simp;omega)).res rfl rfl,⟨_,_,_,_,rfl,fun h=>by simp at h⟩,(Sy.below fB.out _ _ _ _).trans (belowK_b (w:=W0) (by omega) _ D _ _ hD hK2 rfl rfl)⟩
  case stop=>
   rintro D c pre W hD iN ⟨⟨⟨q1,q2,c,b,sz,er⟩,⟨rfl,rfl,hq0⟩,hSq⟩,hB⟩ hK;have ZM:=af hSq;have hx:q2∈iM (s.extract p s.size):=by obtain⟨rest,hr⟩:=iN;rw[←hr];simp
   have hq':=af hq0;clear hSq hq0
   gi_wp2
   refine⟨by simp,.inl ⟨_,_,rfl,run_takeDeferred hK,?_⟩⟩;exact⟨_,(ZM.on (grownBy_putObj' _ D (.deferred none)) (by simp;omega) (by simp;omega)).res rfl rfl,⟨_,_,_,_,rfl,fun h=>by obtain⟨h1,h2⟩:=hq'.out h;rw[h2];exact Ge _ _ hx h1⟩,hB.trans (belowK_b (w:=W0) (by omega) _ D _ _ hD hK rfl rfl)⟩
end
section
open Go.Shelf
attribute [local go_sem] Oper.semAt_some
theorem Gg (s:ByteArray) (p:Nat) (w:World) (hs:s.size≤1048576) (hp:p<s.size):
  Calls Tryz.prog 255 #[.string s,.int .i64 p] w fun e w'=>(∃(k:Nat) (b:Bool),e=.returned (.tuple #[.int .i64 k,.bool b])∧(b=true→p<k∧k≤s.size))∧w'=w:=by
 go_enter Tryz.func255,Tryz.ntmps255;go_wp2_with fail
 go_loopw [6] (fun x wr=>∃k:Nat,x=.int .i64 k∧p<k∧k≤s.size+1∧wr=w) (fun x _=>s.size+2- (intOf x).toNat)
 case atStart=>exact⟨p+1,by go_num,by omega,by omega,rfl⟩
 case round=>
  obtain⟨k,rfl,hk,hk2,rfl⟩:=hrel;by_cases hlt:k<s.size
  ·go_wp2_with fail
   ·go_ret2;exact⟨⟨k+1,true,by go_num,fun _=>by omega⟩,rfl⟩
   ·go_roundw
    case rel=>exact⟨k+2,by go_num,by omega,by omega,trivial⟩
    case measure=>simp[intOf];omega
   ·go_ret2;exact⟨⟨0,false,rfl,fun h=>by cases h⟩,rfl⟩
   ·go_roundw
    case rel=>exact⟨k+1,by go_num,by omega,by omega,trivial⟩
    case measure=>simp[intOf];omega
  ·go_wp2_with fail
   go_ret2;exact⟨⟨0,false,rfl,fun h=>by cases h⟩,rfl⟩
def Lit (w:World) (e:Ending) (w':World):Prop:=(∃(v:Value) (p er:Int),e=.returned (.tuple #[v,.int .i64 p,.int .i64 er]))∧Below w.heap.size w w'
theorem oT.nil (B:Nat) (w:World):oT B 0 (.slice none 0 0) w:=⟨[],World.ownsRow_nil _ _ _ _⟩
theorem oT.on {B m:Nat} {v:Value} {w w':World} (h:oT B m v w) (hb:Below w.heap.size w w'):oT B m v w':=by
 obtain⟨xs,ho⟩:=h;refine⟨xs,ho.kept (ah hb) ?_⟩;cases h:v.ownBlock
 ·exact .inl rfl
 ·exact .inr (by simp)
theorem KP (s:ByteArray) (w:World) (hs:s.size≤1048576):Calls Tryz.prog 256 #[.string s] w (Lit w):=by
  go_enter Tryz.func256,Tryz.ntmps256;by_cases h0:s.size=0
  · have:s=ByteArray.empty:=by simpa using h0
    subst this;go_wp2_with fail
    go_ret3
    exact⟨⟨_,_,_,rfl⟩,Below.refl _ _⟩
  · cases hE:s.toList.isEmpty
    rotate_left
    · go_wp2_with fail
      go_ret3
      exact⟨⟨_,_,_,rfl⟩,Below.refl _ _⟩
    have h9:0<s.size:=by omega
    by_cases SJ:(s[0]'h9).toNat=34;rotate_left
    · have hq:(((s[0]'h9).toNat:Int)!=34)=true:=by simp;omega
      go_wp2_with fail
      go_ret3
      exact⟨⟨_,_,_,rfl⟩,Below.refl _ _⟩
    have hq:(((s[0]'h9).toNat:Int)!=34)=false:=by simp;omega
    go_wp2_with fail
    go_loopw [5,6] (fun x i wr=>∃(k m:Nat),i=.int .i64 k∧1≤k∧k≤s.size+6∧m≤4*k∧oT w.heap.size m x wr∧Below w.heap.size w wr) (fun _ i _=>s.size+6- (intOf i).toNat)
    case atStart=>exact⟨1,0,rfl,by omega,by omega,by omega,oT.nil _ _,Below.refl _ _⟩
    case round=>
      obtain⟨k,m,rfl,hk,hk2,hm,hrow,hb⟩:=hrel;by_cases hlt:k<s.size
      · have bT:=af (Gf s k wr hs hlt)
        have hR:=af hrow;have hB:=af hb;clear hrow hb;go_wp2_with fail
        · go_ret3
          exact⟨⟨_,_,_,rfl⟩,hB.out⟩
        · go_ret3
          exact⟨⟨_,_,_,rfl⟩,hB.out⟩
        refine bT.mono ?_;rintro e w1 ⟨⟨c,b,sz,er,rfl,hsz⟩,hb1⟩;have iU:=af ((hB.trans (hb1.mono hB.size)).alloc (by have:=hB.size;have:=hb1.size;omega) (.cells #[.int .i32 c,.bool b,.int .i64 sz] 337));have zN:=af (And.intro hb1.size (fun k hk=>by obtain⟨xs,ho⟩:=hR.out;exact ho.lt k hk:∀k,u5.ownBlock=some k→w.heap.size≤k∧k<wr.heap.size));have oC:=af ((hR.on hb1).on ((Below.refl _ _).alloc (Nat.le_refl _) (.cells #[.int .i32 c,.bool b,.int .i64 sz] 337)));clear hb1;by_cases her:er=0
        · subst her
          obtain⟨sn,rfl⟩:∃n:Nat,sz=n:=⟨sz.toNat,by have:=hsz rfl;omega⟩;have hZ:1≤sn∧sn≤6:=by have:=hsz rfl;omega
          clear hsz;obtain⟨xs,TN⟩:=oC.out;have hO:=af TN;have hne:some w1.heap.size≠u5.ownBlock:=fun e=>by
            have:=(zN.2 _ e.symm).2;have:=zN.1;omega
          have qu:w.heap.size≤(w1.alloc (.cells #[.int .i32 c,.bool b,.int .i64 sn] 337)).heap.size:=iU.size;clear TN;have zO:=fun r=>af (Dz w.heap.size m _ r _ oC.out (by omega) qu)
          cases b
          all_goals go_wp2_with (first
            |(go_loud (at_builtin;refine aG rfl _ _ 295 rfl w.heap.size 5 5 (.int .u8 0) 1 1 1 Tryz.underlying295 (by kernel_rfl) rfl (by decide) _ m _ [_] (0,0) hO.out rfl (by simp[Value.oneCell']) (by unfold maxLen;omega) (by omega) qu rfl (by first|rfl|exact congrArg (fun n=>Value.slice (some ⟨n,0,none⟩) 1 1) (by simp)|(simp[go_sem];done)) ?_;intro v' w' hA;have hA':=af (uX hA hO.out qu (by omega));have hX:=(Bx.new w1 #[.int .i32 c,.bool true,.int .i64 sn] 337).on hA.grown hne;have p0:=hX.cell 0;have p1:=hX.cell 1;have p2:=hX.cell 2;have Gh:=hX.lt;clear hX;clear hA))
            |(go_at_call 279;refine(zO _).out.mono ?_;intro e2 w2 hA;have hA':=af hA;clear hA;obtain⟨v3,m3,rfl,_,_,_,hG⟩:=hA'.out;have hX:=(Bx.new w1 #[.int .i32 c,.bool false,.int .i64 sn] 337).on hG hne;have p0:=hX.cell 0;have p1:=hX.cell 1;have p2:=hX.cell 2;have Gh:=hX.lt;clear hX hG))
          all_goals
            obtain⟨v2,m2,hv2,h2,h3,h4,h5⟩:=hA'.out;cases hv2
            go_roundw
            case rel=>exact⟨k+sn,m2,by go_num,by omega,by omega,by omega,h2,iU.trans h4⟩
            case measure=>simp[intOf];omega
        · go_wp2_with fail
          all_goals
            first
              | (go_ret3
                 exact⟨⟨_,_,_,rfl⟩,iU.out⟩)
              |(exfalso;simp_all;done)
      · go_wp2_with fail
        go_ret3
        exact⟨⟨_,_,_,rfl⟩,hb⟩
end
section
open Go.Shelf
attribute [local go_sem] Oper.semAt_some
theorem KQ (s:ByteArray) (w:World) (hs:s.size≤1048576):Calls Tryz.prog 257 #[.string s] w (Lit w):=by
  go_enter Tryz.func257,Tryz.ntmps257;by_cases h0:s.size=0
  · have:s=ByteArray.empty:=by simpa using h0
    subst this;go_wp2_with fail
    go_ret3
    exact⟨⟨_,_,_,rfl⟩,Below.refl _ _⟩
  · cases hE :s.toList.isEmpty
    rotate_left
    · go_wp2_with fail
      go_ret3
      exact⟨⟨_,_,_,rfl⟩,Below.refl _ _⟩
    have h9:0<s.size:=by omega
    by_cases SJ:(s[0]'h9).toNat=39;rotate_left
    · have hq:(((s[0]'h9).toNat:Int)!=39)=true:=by simp;omega
      go_wp2_with fail
      go_ret3
      exact⟨⟨_,_,_,rfl⟩,Below.refl _ _⟩
    have hq:(((s[0]'h9).toNat:Int)!=39)=false:=by simp;omega
    by_cases h1:s.size=1
    · have jx:((s.size:Int)==1)=true:=by simp;omega
      go_wp2_with fail
      go_ret3
      exact⟨⟨_,_,_,rfl⟩,Below.refl _ _⟩
    have jx:((s.size:Int)==1)=false:=by simp;omega
    have h2:1<s.size:=by omega
    by_cases Yr:(s[1]'h2).toNat=39
    · have jy:(((s[1]'h2).toNat:Int)==39)=true:=by simp;omega
      go_wp2_with fail
      go_ret3
      exact⟨⟨_,_,_,rfl⟩,Below.refl _ _⟩
    have jy:(((s[1]'h2).toNat:Int)==39)=false:=by simp;omega
    have bT:=af (Gf s 1 w hs h2);go_wp2_with fail
    refine bT.mono ?_;rintro e w1 ⟨⟨c,b,sz,er,rfl,hsz⟩,hb1⟩;have iU:=af (hb1.alloc (by have:=hb1.size;omega) (.cells #[.int .i32 c,.bool b,.int .i64 sz] 337));clear hb1;by_cases her:er=0
    · subst her
      obtain⟨sn,rfl⟩:∃n:Nat,sz=n:=⟨sz.toNat,by have:=hsz rfl;omega⟩;have hZ:1≤sn∧sn≤6:=by have:=hsz rfl;omega
      clear hsz;by_cases Fu:s.size≤1+sn
      · go_wp2_with fail
        all_goals
          go_ret3
          exact⟨⟨_,_,_,rfl⟩,iU.out⟩
      · go_wp2_with fail
        all_goals
          go_ret3
          exact⟨⟨_,_,_,rfl⟩,iU.out⟩
    · go_wp2_with fail
      all_goals
        first
          | (go_ret3
             exact⟨⟨_,_,_,rfl⟩,iU.out⟩)
          |(exfalso;simp_all;done)
theorem DA (s:ByteArray) (p:Nat) (w:World) (hs:s.size≤1048576) (hp:p<s.size):Calls Tryz.prog 234 #[.string s,.int .i64 p] w
    fun e w'=>(∃k er:Int,e=.returned (.tuple #[.int .i64 k,.int .i64 er])∧(er=0→∃n:Nat,k=n∧p<n∧n≤s.size))∧Below w.heap.size w w':=by
  have ZN:=af (Gg s p w hs hp);go_enter Tryz.func234,Tryz.ntmps234;go_wp2_with fail
  refine ZN.mono ?_;rintro e w1 ⟨⟨k,b,rfl,hb⟩,rfl⟩;have hb':=af hb;clear hb;cases b
  · go_wp2_with fail
    go_ret2;exact⟨⟨_,_,rfl,fun h=>by simp at h⟩,Below.refl _ _⟩
  have hk:=hb'.out rfl;have hex:(s.extract p k).size≤1048576:=by simp;omega
  have ZO:=af (KP (s.extract p k) w1 hex);have TP:=af (KQ (s.extract p k) w1 hex);by_cases hq:(s[p]'hp).toNat=34
  · have jy:(((s[p]'hp).toNat:Int)==34)=true:=by simp;omega
    go_wp2_with fail
    refine ZO.mono ?_;rintro e w2 ⟨⟨v,p2,er,rfl⟩,hB⟩;have TQ:=af hB;clear hB;by_cases her:er=0
    · subst her
      go_wp2_with fail
      go_ret2;exact⟨⟨_,_,rfl,fun h=>⟨k,rfl,hk.1,hk.2⟩⟩,TQ.out⟩
    · go_wp2_with fail
      first
        | (go_ret2
           exact⟨⟨_,_,rfl,fun h=>absurd h her⟩,TQ.out⟩)
  · have jy:(((s[p]'hp).toNat:Int)==34)=false:=by simp;omega
    go_wp2_with fail
    refine TP.mono ?_;rintro e w2 ⟨⟨v,p2,er,rfl⟩,hB⟩;have TQ:=af hB;clear hB;by_cases her:er=0
    · subst her
      go_wp2_with fail
      go_ret2;exact⟨⟨_,_,rfl,fun h=>⟨k,rfl,hk.1,hk.2⟩⟩,TQ.out⟩
    · go_wp2_with fail
      first
        | (go_ret2
           exact⟨⟨_,_,rfl,fun h=>absurd h her⟩,TQ.out⟩)
end
section
open Go.Shelf
attribute [local go_sem] Oper.semAt_some
theorem Pr {P:Program} {ops} {b:Bool} {y:Code} {Q:Exit→Act→World→Prop} {a:Act} {w:World} (R:Act→World→Prop)
  (h1:∀K:Act→World→Prop,(∀a w,R a w→K a w)→(Code.region 8 ops b).wp P (Exit.then K Q) a w) (h2:∀a w,R a w→y.wp P Q a w):(Code.seq (Code.region 8 ops b) y).wp P Q a w:=
 wp_seq_k fun K hK=>h1 K (fun a w h=>hK a w (h2 a w h))
theorem DB (s:ByteArray) (p:Nat) (w:World) (hs:s.size≤1048576) (hp:p<s.size) (hd:cR ((s[p]'hp).toNat:Int)=true):Calls Tryz.prog 233 #[.string s,.int .i64 p] w
    fun e w'=>(∃k:Nat,e=.returned (.int .i64 k)∧p<k∧k≤s.size)∧w'=w:=by
  have bT:=fun t (ht:t.size=2)=>wZ (s.extract p s.size) t w (by simp;omega) (by omega)
  have Gi:=fun r=>uW r w
  go_enter Tryz.func233,Tryz.ntmps233;go_wp2_with (go_at_call 254;refine(bT _ rfl).mono ?_;rintro e w' ⟨rfl,hw⟩;subst w')
  rotate_left;cases hP:fg (s.extract p s.size) ⟨#[48,88]⟩
  all_goals
    go_loopw [6] (fun x wr=>∃k:Nat,x=.int .i64 k∧p≤k∧k≤s.size∧wr=w) (fun x _=>s.size- (intOf x).toNat)
    case atStart=>exact⟨p,rfl,Nat.le_refl _,by omega,rfl⟩
    case round=>
      obtain⟨k,rfl,hk,hk2,hw⟩:=hrel;subst wr;by_cases hlt:k<s.size
      · have hwr :wrap32 ((s[k]'hlt).toNat:Int)=((s[k]'hlt).toNat:Int):=by have:=(s[k]'hlt).toNat_lt;unfold wrap32;omega
        by_cases Ys:k=p
        · subst Ys
          have KR:=Gi ((s[k]'hlt).toNat:Int);rw[hd] at KR;go_wp2_with fail
          refine KR.mono ?_;rintro e w' ⟨rfl,hw⟩;subst w';go_wp2_with fail
          all_goals
            go_roundw
            case rel=>exact⟨k+1,by go_num,by omega,by omega,trivial⟩
            case measure=>simp[intOf];omega
        · have uZ:p<k:=by omega
          have KR:=Gi ((s[k]'hlt).toNat:Int);clear Gi bT;refine wp_seq_k fun K1 h1=>?_
          have oD:=af h1;clear h1;go_wp2_with fail
          refine oD.out _ _ (wp_block ?_);clear oD K1
          iterate 3
            refine wp_seq_k fun K1 h1=>?_
            have oD:=af h1;clear h1;go_wp2_with fail
            refine oD.out _ _ ?_;clear oD K1
          apply Pr (fun a' w'=>w'=w∧∃(b9:Bool) (x8 N8 N9 Oa Ob TR TU TV TW T4 T7 T8 x42 T9 x44 x45 x46 Ua Ub:Value),a'=⟨#[_,_,_,_,_,_,_,_,x8,.bool b9,_,_,_,_,_,_,_,_,_,_,_,_,_,_,_,_,_,_,_,_,_,N8,N9,Oa,Ob,TR,TU,TV,TW,T4,T7,T8,x42,T9,x44,x45,x46,Ua,Ub,_,_,_,_,_,_,_,_,_,_,_,_,_,_,_,_,_,_,_,_,_,_,_,_,_,_,_,_,_,_,_,_,_,_],[]⟩)
          case h1=>
            intro K hK;have hK':=af hK;clear hK;go_wp2_with fail
            all_goals
              have hK:=hK'.out;exact hK _ _ ⟨rfl,_,_,_,_,_,_,_,_,_,_,_,_,_,_,_,_,_,_,_,_,rfl⟩
          case h2=>
            rintro _ _ ⟨rfl,b9,x8,N8,N9,Oa,Ob,TR,TU,TV,TW,T4,T7,T8,x42,T9,x44,x45,x46,Ua,Ub,rfl⟩;go_wp2_with (go_at_call 231;refine KR.mono ?_;rintro e w' ⟨rfl,hw⟩;subst w')
            all_goals first
              | (go_roundw
                 case rel=>exact⟨k+1,by go_num,by omega,by omega,trivial⟩
                 case measure=>simp[intOf];omega)
              | (go_ret
                 exact⟨⟨k,rfl,by omega,hk2⟩,rfl⟩)
      · go_wp2_with fail
        go_ret;exact⟨⟨k,rfl,by omega,hk2⟩,rfl⟩
end
section
open Go.Shelf
attribute [local go_sem] Oper.semAt_some
theorem Gj (s:ByteArray) (p:Nat) (w:World):Calls Tryz.prog 235 #[.string s,.int .i64 p,.slice none 0 0] w fun e w'=>e=.returned (.string ⟨#[]⟩)∧w'=w:=by
 go_enter Tryz.func235,Tryz.ntmps235;go_wp2_with fail
 go_loopw [7,12] (fun y x wr=>y=.string ⟨#[]⟩∧x=.int .i64 0∧wr=w) (fun _ _ _=>0)
 case atStart=>exact⟨rfl,rfl,rfl⟩
 case round=>
  obtain⟨rfl,rfl,rfl⟩:=hrel;go_wp2_with fail
  go_ret;exact⟨rfl,rfl⟩
theorem Uc (w:World):Calls Tryz.prog 202 #[.slice none 0 0] w fun e w'=>e=.returned (.bool true)∧w'=w:=by
 go_enter Tryz.func202,Tryz.ntmps202;go_wp2_with fail
 go_loopw [10] (fun x wr=>x=.int .i64 0∧wr=w) (fun _ _=>0)
 case atStart=>exact⟨rfl,rfl⟩
 case round=>
  obtain⟨rfl,rfl⟩:=hrel;go_wp2_with fail
  go_ret;exact⟨rfl,rfl⟩
theorem KU (s:ByteArray) (c:Int) (w:World):Calls Tryz.prog 227 #[.string s,.int .u8 c] w fun e w'=>e=.returned (.int .i64 (Lib.indexByte s.data.toList c.toNat.toUInt8))∧w'=w:=by
 go_enter Tryz.func227,Tryz.ntmps227
 go_wp2
 rw[run_callFunc_extern Tryz.func252 (by kernel_rfl) (by kernel_rfl) (by kernel_rfl) (e:=Extern.BytealgIndexByte.indexByte) (by kernel_rfl),Lib.run_indexByteString];simp only[Result.andThen];rw[Oper.upon_value]
 go_wp2
 go_ret;exact⟨rfl,rfl⟩
theorem KY (s:ByteArray) (c:Int) (w:World):Calls Tryz.prog 203 #[.string s,.int .u8 c] w fun e w'=>e=.returned (.int .i64 (Lib.indexByte s.data.toList c.toNat.toUInt8))∧w'=w:=by
 have h:=KU s c w;go_enter Tryz.func203,Tryz.ntmps203;go_wp2_with fail
 refine h.mono ?_;rintro e w2 ⟨rfl,rfl⟩;go_wp2_with fail
 go_ret;exact⟨rfl,rfl⟩
theorem nz:∀(l:List UInt8) (c:UInt8),l≠[]→Lib.indexByte l c<l.length
 |[],_,h=>absurd rfl h
 | b::l,c,_=>by
  simp only[Lib.indexByte]
  repeat' split
  ·simp<;>omega
  ·simp<;>omega
  ·rename_i h1 h2;have:l≠[]:=fun e=>by subst e;simp[Lib.indexByte] at h2
   have:=nz l c this;simp;omega
end
section
open Go.Shelf
attribute [local go_sem] Oper.semAt_some
def cv (L:List ByteArray) (x:ByteArray):Bool:=L.any fun y=>x.toList==y.toList
theorem KZ (L:List ByteArray) (B:Nat) (x:ByteArray) (w:World) (hn:L.length≤1000) (h:∀i (hi:i<L.length),w.cell? ⟨B,i,none⟩=some (.string L[i])):
  Calls Tryz.prog 236 #[.slice (some ⟨B,0,none⟩) L.length L.length,.string x] w fun e w'=>(∃r:Int,e=.returned (.int .i64 r)∧decide (0≤r)=cv L x)∧w'=w:=by
 go_enter Tryz.func236,Tryz.ntmps236;go_wp2_with fail
 go_loopw [8] (fun y wr=>∃k:Nat,y=.int .i64 k∧k≤L.length∧(∀j (hj:j<L.length),j<k→(x.toList==L[j].toList)=false)∧wr=w) (fun y _=>L.length- (intOf y).toNat)
 case atStart=>exact⟨0,rfl,Nat.zero_le _,fun j _ hj=>by omega,rfl⟩
 case round=>
  obtain⟨k,rfl,hk,hno,hw⟩:=hrel;subst wr;have Gk:=af hno;clear hno;by_cases hlt:k<L.length
  ·have hc:=h k hlt;cases hq:x.toList==L[k].toList
   ·have key:Hid (∀j (hj:j<L.length),j<k+1→(x.toList==L[j].toList)=false):=af (fun j hj hjk=>by
     rcases Nat.lt_or_ge j k with h1|h1
     ·exact Gk.out j hj h1
     ·have e:j=k:=by omega
      subst e;exact hq)
    go_wp2_with fail
    go_roundw
    case rel=>exact⟨k+1,by go_num,by omega,key.out,trivial⟩
    case measure=>simp[intOf];omega
   ·go_wp2_with fail
    go_ret;refine⟨⟨k,rfl,?_⟩,rfl⟩;have:cv L x=true:=List.any_eq_true.2 ⟨L[k],List.getElem_mem _,hq⟩;rw[this];simp
  ·go_wp2_with fail
   go_ret;refine⟨⟨-1,rfl,?_⟩,rfl⟩;have:cv L x=false:=List.any_eq_false.2 (fun y hy=>by
    obtain⟨j,hj,rfl⟩:=List.getElem_of_mem hy;rw[Gk.out j hj (by omega)];simp)
   rw[this];rfl
theorem jY (L:List ByteArray) (B:Nat) (x:ByteArray) (w:World) (hn:L.length≤1000) (h:∀i (hi:i<L.length),w.cell? ⟨B,i,none⟩=some (.string L[i])):
  Calls Tryz.prog 207 #[.slice (some ⟨B,0,none⟩) L.length L.length,.string x] w fun e w'=>e=.returned (.bool (cv L x))∧w'=w:=by
 have bT:=KZ L B x w hn h;go_enter Tryz.func207,Tryz.ntmps207;go_wp2_with fail
 refine bT.mono ?_;rintro e w2 ⟨⟨r,rfl,hr⟩,hw⟩;subst w2;go_wp2_with fail
 go_ret;exact⟨aq (by rw[←hr]),rfl⟩
def tH:List ByteArray:=[⟨#[118,97,114]⟩,⟨#[105,110,116]⟩,⟨#[102,108,111,97,116]⟩,⟨#[104,111,115,116]⟩,⟨#[102,117,110,99]⟩,⟨#[111,112,101,110]⟩,⟨#[105,102]⟩,⟨#[101,108,115,101]⟩,⟨#[119,104,105,108,101]⟩,⟨#[98,114,101,97,107]⟩,⟨#[99,111,110,116,105,110,117,101]⟩,⟨#[114,101,116,117,114,110]⟩]
theorem zP (s:ByteArray) (w:World):Calls Tryz.prog 205 #[.string s] w fun e w'=>e=.returned (.bool (cv tH s))∧Below w.heap.size w w':=by
 have bT:=jY tH w.heap.size s (w.alloc (.cells (tH.map Value.string).toArray 9 (0,0))) (by decide) (fun i hi=>by
  rw[World.cell?_alloc_mark];simp[hi])
 go_enter Tryz.func205,Tryz.ntmps205;go_wp2_with fail
 refine bT.mono ?_;rintro e w2 ⟨rfl,hw⟩;subst w2;go_wp2_with fail
 go_ret;exact⟨rfl,(Below.refl _ _).alloc (Nat.le_refl _) _⟩
end
section
open Go.Shelf
attribute [local go_sem] Oper.semAt_some
theorem Ps (s:ByteArray) (h:3≤s.size):(s.extract 0 3).toList=[s.get! 0,s.get! 1,s.get! 2]:=by
 rw[ByteArray.toList_eq];have hl:(s.extract 0 3).data.toList.length=3:=by
  show(s.extract 0 3).size=3
  simp;omega
 refine List.ext_getElem (by rw[hl];rfl) (fun i h1 h2=>?_);have hi:i<3:=by rw[hl] at h1;exact h1
 have hb:=ByteArray.getElem_extract (b:=s) (start:=0) (stop:=3) (i:=i) (by simp;omega);have:(s.extract 0 3).data.toList[i]=s[i]'(by omega):=by
  have h0:(s.extract 0 3).data.toList[i]=(s.extract 0 3)[i]'(by simp;omega):=rfl;rw[h0,hb];simp
 rw[this];have hg:=get_at s i (by omega);rw[Nat.add_zero] at hg;have hc:i=0∨i=1∨i=2:=by omega
 rcases hc with h|h|h<;>subst h<;>exact hg.symm
theorem kK (s:ByteArray) (p j:Nat) (h:p+j<s.size):(s.extract p s.size).get! j=s.get! (p+j):=by
 have h1:=get_at (s.extract p s.size) j (by simp;omega);have h2:=get_at s (p+j) h;rw[Nat.add_zero] at h1 h2;rw[h1,h2];exact ByteArray.getElem_extract (by simp;omega)
theorem DC (s:ByteArray) (p:Nat) (hp:p≤s.size):fg (s.extract p s.size) ⟨#[239,191,189]⟩=(decide (p+3≤s.size)&&(s.get! p==239&&(s.get! (p+1)==191&&s.get! (p+2)==189))):=by
 have hsz:(s.extract p s.size).size=s.size-p:=by simp
 unfold fg;have e1:(⟨#[239,191,189]⟩:ByteArray).size=3:=rfl;rw[e1];by_cases h:p+3≤s.size
 ·have x0:=kK s p 0 (by omega);have x1:=kK s p 1 (by omega);have x2:=kK s p 2 (by omega);rw[Nat.add_zero] at x0;rw[Ps _ (by omega),x0,x1,x2,ByteArray.toList_eq];have:decide (3≤(s.extract p s.size).size)=true:=by simp;omega
  rw[this];simp[h]
 ·have:decide (3≤(s.extract p s.size).size)=false:=by simp;omega
  rw[this];simp[h]
theorem kL (s:ByteArray) (p:Nat) (hp:p<s.size):p+ (Utf8.decode s p).2≤s.size:=by
 simp only[Utf8.decode]
 repeat' split
 all_goals simp_all
 all_goals omega
theorem nA (s:ByteArray) (p:Nat) (hp:p<s.size):fP s p=true↔Utf8.decode s p=(65533,1):=by
 unfold fP;rw[DC s p (by omega)];have h0:=(s.get! p).toNat_lt;have h1:=(s.get! (p+1)).toNat_lt;have h2:=(s.get! (p+2)).toNat_lt;have h3:=(s.get! (p+3)).toNat_lt;have e0:(s.get! p==239)=decide ((s.get! p).toNat=239):=by rw[Bool.eq_iff_iff];simp[←UInt8.toNat_inj]
 have e1:(s.get! (p+1)==191)=decide ((s.get! (p+1)).toNat=191):=by rw[Bool.eq_iff_iff];simp[←UInt8.toNat_inj]
 have e2:(s.get! (p+2)==189)=decide ((s.get! (p+2)).toNat=189):=by rw[Bool.eq_iff_iff];simp[←UInt8.toNat_inj]
 rw[e0,e1,e2];simp only[Utf8.decode,Nat.add_zero]
 repeat' split
 all_goals simp_all [Utf8.runeError,Utf8.valid]
 all_goals omega
end
section
open Go.Shelf
attribute [local go_sem] Oper.semAt_some
def by' (s:ByteArray) (k i:Nat):Nat:=(s.get! (k+i)).toNat
theorem dt (s:ByteArray) (k i:Nat):by' s k i<256:=(s.get! (k+i)).toNat_lt
theorem l4 (s:ByteArray) (k i:Nat) (h:k+i<s.size):((s[k+i]'h).toNat:Int)=by' s k i:=by
 unfold by';have:=get_at s (k+i) h;rw[Nat.add_zero] at this;rw[this]
def val (s:ByteArray) (k:Nat) (base:Int):Nat→Int
 |0=>base
 |j+1=>val s k base j*64+by' s k (j+1) -128
def fQ (s:ByteArray) (k:Nat) (r:Int) (n:Nat):Prop:=(fP s k=true∧n=0)∨(fP s k=false∧r=((Utf8.decode s k).1:Int)∧n=(Utf8.decode s k).2)
theorem cB {s:ByteArray} {k:Nat} {r:Int} (hk:k<s.size) (h:Utf8.decode s k=(65533,1)):fQ s k r 0:=.inl ⟨(nA s k hk).2 h,rfl⟩
theorem lr {s:ByteArray} {k c n:Nat} {r:Int} (hk:k<s.size) (h:Utf8.decode s k=(c,n)) (hn:(c,n)≠(65533,1)) (hr:r=c):fQ s k r n:=.inr ⟨by
 cases hl:fP s k
 ·rfl
 ·rw[(nA s k hk).1 hl] at h;exact absurd h.symm hn,by rw[h];exact hr,by rw[h]⟩
theorem Pu (s:ByteArray) (k:Nat) (h:by' s k 0<128):Utf8.decode s k=(by' s k 0,1):=by
 have h0:=dt s k 0;simp only[by',Nat.add_zero] at*;simp only[Utf8.decode,Nat.add_zero];rw[if_pos (by omega)]
theorem ZP (s:ByteArray) (k:Nat) (h:128≤by' s k 0) (h2:by' s k 0<192∨248≤by' s k 0):Utf8.decode s k=(65533,1):=by
 have h0:=dt s k 0;simp only[by',Nat.add_zero] at*;simp only[Utf8.decode,Nat.add_zero,Utf8.runeError]
 repeat' split
 all_goals simp_all
 all_goals omega
theorem Oc (s:ByteArray) (k:Nat) (h:192≤by' s k 0) (h2:by' s k 0<224) (hx:s.size<k+2∨by' s k 1<128∨191<by' s k 1):Utf8.decode s k=(65533,1):=by
 have h0:=dt s k 0;have h1:=dt s k 1;simp only[by',Nat.add_zero] at*;simp only[Utf8.decode,Nat.add_zero,Utf8.runeError]
 repeat' split
 all_goals simp_all
 all_goals omega
theorem Ud (s:ByteArray) (k:Nat) (h:192≤by' s k 0) (h2:by' s k 0<224) (hk:k+2≤s.size) (hc1:128≤by' s k 1∧by' s k 1≤191):
  (val s k (by' s k 0-192) 1<128∨1114111<val s k (by' s k 0-192) 1∨(55296≤val s k (by' s k 0-192) 1∧val s k (by' s k 0-192) 1≤57343)→Utf8.decode s k=(65533,1))∧
  (¬(val s k (by' s k 0-192) 1<128∨1114111<val s k (by' s k 0-192) 1∨(55296≤val s k (by' s k 0-192) 1∧val s k (by' s k 0-192) 1≤57343))→Utf8.decode s k=((val s k (by' s k 0-192) 1).toNat,2)):=by
 have h0:=dt s k 0;have h1:=dt s k 1;simp only[val];simp only[by',Nat.add_zero] at*;constructor
 all_goals
  intro hv;unfold Utf8.decode;simp only[Nat.add_zero]
  repeat' split
  all_goals simp_all [Utf8.runeError,Utf8.valid]
  all_goals omega
theorem Gl (s:ByteArray) (k:Nat) (h:224≤by' s k 0) (h2:by' s k 0<240) (hx:s.size<k+3∨by' s k 1<128∨191<by' s k 1∨by' s k 2<128∨191<by' s k 2):Utf8.decode s k=(65533,1):=by
 have h0:=dt s k 0;have h1:=dt s k 1;have h2:=dt s k 2;simp only[by',Nat.add_zero] at*;simp only[Utf8.decode,Nat.add_zero,Utf8.runeError]
 repeat' split
 all_goals simp_all
 all_goals omega
theorem Ue (s:ByteArray) (k:Nat) (h:224≤by' s k 0) (h2:by' s k 0<240) (hk:k+3≤s.size) (hc1:128≤by' s k 1∧by' s k 1≤191) (hc2:128≤by' s k 2∧by' s k 2≤191):
  (val s k (by' s k 0-224) 2<2048∨1114111<val s k (by' s k 0-224) 2∨(55296≤val s k (by' s k 0-224) 2∧val s k (by' s k 0-224) 2≤57343)→Utf8.decode s k=(65533,1))∧
  (¬(val s k (by' s k 0-224) 2<2048∨1114111<val s k (by' s k 0-224) 2∨(55296≤val s k (by' s k 0-224) 2∧val s k (by' s k 0-224) 2≤57343))→Utf8.decode s k=((val s k (by' s k 0-224) 2).toNat,3)):=by
 have h0:=dt s k 0;have h1:=dt s k 1;have h2:=dt s k 2;simp only[val];simp only[by',Nat.add_zero] at*;constructor
 all_goals
  intro hv;unfold Utf8.decode;simp only[Nat.add_zero]
  repeat' split
  all_goals simp_all [Utf8.runeError,Utf8.valid]
  all_goals omega
theorem BV (s:ByteArray) (k:Nat) (h:240≤by' s k 0) (h2:by' s k 0<248) (hx:s.size<k+4∨by' s k 1<128∨191<by' s k 1∨by' s k 2<128∨191<by' s k 2∨by' s k 3<128∨191<by' s k 3):Utf8.decode s k=(65533,1):=by
 have h0:=dt s k 0;have h1:=dt s k 1;have h2:=dt s k 2;have h3:=dt s k 3;simp only[by',Nat.add_zero] at*;simp only[Utf8.decode,Nat.add_zero,Utf8.runeError]
 repeat' split
 all_goals simp_all
 all_goals omega
theorem Uf (s:ByteArray) (k:Nat) (h:240≤by' s k 0) (h2:by' s k 0<248) (hk:k+4≤s.size) (hc1:128≤by' s k 1∧by' s k 1≤191) (hc2:128≤by' s k 2∧by' s k 2≤191) (hc3:128≤by' s k 3∧by' s k 3≤191):
  (val s k (by' s k 0-240) 3<65536∨1114111<val s k (by' s k 0-240) 3∨(55296≤val s k (by' s k 0-240) 3∧val s k (by' s k 0-240) 3≤57343)→Utf8.decode s k=(65533,1))∧
  (¬(val s k (by' s k 0-240) 3<65536∨1114111<val s k (by' s k 0-240) 3∨(55296≤val s k (by' s k 0-240) 3∧val s k (by' s k 0-240) 3≤57343))→Utf8.decode s k=((val s k (by' s k 0-240) 3).toNat,4)):=by
 have h0:=dt s k 0;have h1:=dt s k 1;have h2:=dt s k 2;have h3:=dt s k 3;simp only[val];simp only[by',Nat.add_zero] at*;constructor
 all_goals
  intro hv;unfold Utf8.decode;simp only[Nat.add_zero]
  repeat' split
  all_goals simp_all [Utf8.runeError,Utf8.valid]
  all_goals omega
end
end Go.Proofs.YtlabadkfkbenoaaGreatDoor
