/- Walks and plain laws, merged: RefC TokI TokJ TokL RefD RefG RefJ. No condition. -/
import Derived.Test.YtlabadkfkbenoaaGreatDoorProg
import Derived.Test.YtlabadkfkbenoaaGreatDoorKp02
import Derived.WalkMore
import Derived.Test.YtlabadkfkbenoaaGreatDoorKp01
import Derived.Laws.BytesArg
namespace Go.Proofs.YtlabadkfkbenoaaGreatDoor
open Go.RowKit
set_option linter.unusedVariables false
set_option linter.unusedSimpArgs false
set_option maxRecDepth 100000
set_option maxHeartbeats 64000000
section
open Go.Shelf
attribute [local go_sem] Oper.semAt_some
theorem jB {C:Nat→Prop} {j:Nat} (h:∀i,1≤i→i<j→C i) (hj:C j):∀i,1≤i→i<j+1→C i:=fun i h1 h2=>by
 rcases Nat.lt_or_ge i j with h3|h3
 ·exact h i h1 h3
 ·have e:i=j:=by omega
  rw[e];exact hj
theorem ry (s:ByteArray) (k:Nat) (w:World) (hs:s.size≤1048576) (hk:k<s.size):Calls Tryz.prog 189 #[.string s,.int .i64 k] w
  fun e w'=>(∃(r:Int) (n:Nat),e=.returned (.tuple #[.int .i32 r,.int .i64 n])∧fQ s k r n)∧w'=w:=by
 go_enter Tryz.func189,Tryz.ntmps189;have hb0:((s[k]'hk).toNat:Int)=by' s k 0:=l4 s k 0 hk;have hl0:=dt s k 0;have hw0:wrap32 ((s[k]'hk).toNat:Int)=((s[k]'hk).toNat:Int):=by unfold wrap32;omega
 by_cases Pv:by' s k 0<128
 ·have hlt:((s[k]'hk).toNat:Int)<128:=by omega
  go_wp2_with fail
  go_ret2;exact⟨⟨_,1,rfl,lr hk (Pu s k Pv) (by intro e;injection e with e _;omega) rfl⟩,rfl⟩
 have Fu:128≤((s[k]'hk).toNat:Int):=by omega
 by_cases hX:by' s k 0<192∨248≤by' s k 0
 ·have hres:fQ s k 0 0:=cB hk (ZP s k (by omega) hX);rcases hX with hX|hX
  ·have hx:((s[k]'hk).toNat:Int)<192:=by omega
   go_wp2_with fail
   go_ret2;exact⟨⟨0,0,rfl,hres⟩,rfl⟩
  ·have hx:248≤((s[k]'hk).toNat:Int):=by omega
   go_wp2_with fail
   go_ret2;exact⟨⟨0,0,rfl,hres⟩,rfl⟩
 by_cases h224:by' s k 0<224
 ·have x1:192≤((s[k]'hk).toNat:Int):=by omega
  have x2:((s[k]'hk).toNat:Int)<224:=by omega
  have y1:192≤by' s k 0:=by omega
  have y2:by' s k 0<224:=by omega
  by_cases mE:s.size<k+2
  ·have hres:fQ s k 0 0:=cB hk (Oc s k y1 y2 (.inl mE));go_wp2_with fail
   go_ret2;exact⟨⟨0,0,rfl,hres⟩,rfl⟩
  go_wp2_with fail
  go_loopw [8,10] (fun x y wr=>∃(j:Nat) (v:Int),x=.int .i32 v∧y=.int .i64 j∧1≤j∧j≤2∧v=val s k (by' s k 0-192) (j-1)∧0≤v∧(j=1→v<32)∧(j=2→v<2048)∧(∀i,1≤i→i<j→128≤by' s k i∧by' s k i≤191)∧wr=w) (fun _ y _=>2- (intOf y).toNat)
  case atStart=>exact⟨1,_,rfl,rfl,by omega,by omega,rfl,by omega,by omega,by omega,fun i h1 h2=>by omega,rfl⟩
  case round=>
   obtain⟨j,v,rfl,rfl,Pw,qC,hv,hv0,z1,z2,Od,hw⟩:=hrel;subst wr;have nC:=af Od;have hv':=af hv;clear Od hv;have xq:j=1∨j=2:=by omega
   rcases xq with hc|hc
   ·subst j;have l6:v<32:=z1 rfl;clear z1 z2;have hkj:k+1<s.size:=by omega
    have Ug:=l4 s k 1 hkj;have Uh:=dt s k 1;have Ui:wrap32 ((s[k+1]'hkj).toNat:Int)=((s[k+1]'hkj).toNat:Int):=by unfold wrap32;omega
    by_cases iz:by' s k 1<128∨191<by' s k 1
    ·have hres:fQ s k 0 0:=cB hk (Oc s k y1 y2 (.inr (by omega)));rcases iz with iz|iz
     ·have hx:((s[k+1]'hkj).toNat:Int)<128:=by omega
      go_wp2_with fail
      go_ret2;exact⟨⟨0,0,rfl,hres⟩,rfl⟩
     ·have hx:191<((s[k+1]'hkj).toNat:Int):=by omega
      go_wp2_with fail
      go_ret2;exact⟨⟨0,0,rfl,hres⟩,rfl⟩
    ·have hx1:128≤((s[k+1]'hkj).toNat:Int):=by omega
     have hx2:((s[k+1]'hkj).toNat:Int)≤191:=by omega
     go_wp2_with fail
     go_roundw
     case rel=>exact⟨2,_,rfl,by go_num,by omega,by omega,by rw[hv'.out];rfl,by omega,by omega,by omega,jB nC.out (by omega),trivial⟩
     case measure=>simp[intOf]
   ·subst j;have l6:v<2048:=z2 rfl;clear z1 z2;have hY:=Ud s k y1 y2 (by omega) (nC.out 1 (by omega) (by omega));have Oe:val s k (by' s k 0-192) 1=v:=hv'.symm;rw[Oe] at hY;have Og:=af hY.1;have oF:=af hY.2;clear hY Oe;go_wp2_with fail
    all_goals
     go_ret2
     first
      |exact⟨⟨0,0,rfl,cB hk (Og.out (by omega))⟩,rfl⟩
      |exact⟨⟨v,2,rfl,lr hk (oF.out (by omega)) (by simp) (by omega)⟩,rfl⟩
 by_cases h240:by' s k 0<240
 ·have x1:224≤((s[k]'hk).toNat:Int):=by omega
  have x2:((s[k]'hk).toNat:Int)<240:=by omega
  have y1:224≤by' s k 0:=by omega
  have y2:by' s k 0<240:=by omega
  by_cases mE:s.size<k+3
  ·have hres:fQ s k 0 0:=cB hk (Gl s k y1 y2 (.inl mE));go_wp2_with fail
   go_ret2;exact⟨⟨0,0,rfl,hres⟩,rfl⟩
  go_wp2_with fail
  go_loopw [8,10] (fun x y wr=>∃(j:Nat) (v:Int),x=.int .i32 v∧y=.int .i64 j∧1≤j∧j≤3∧v=val s k (by' s k 0-224) (j-1)∧0≤v∧(j=1→v<16)∧(j=2→v<1024)∧(j=3→v<65536)∧(∀i,1≤i→i<j→128≤by' s k i∧by' s k i≤191)∧wr=w) (fun _ y _=>3- (intOf y).toNat)
  case atStart=>exact⟨1,_,rfl,rfl,by omega,by omega,rfl,by omega,by omega,by omega,by omega,fun i h1 h2=>by omega,rfl⟩
  case round=>
   obtain⟨j,v,rfl,rfl,Pw,qC,hv,hv0,z1,z2,z3,Od,hw⟩:=hrel;subst wr;have nC:=af Od;have hv':=af hv;clear Od hv;have xq:j=1∨j=2∨j=3:=by omega
   rcases xq with hc|hc|hc
   ·subst j;have l6:v<16:=z1 rfl;clear z1 z2 z3;have hkj:k+1<s.size:=by omega
    have Ug:=l4 s k 1 hkj;have Uh:=dt s k 1;have Ui:wrap32 ((s[k+1]'hkj).toNat:Int)=((s[k+1]'hkj).toNat:Int):=by unfold wrap32;omega
    by_cases iz:by' s k 1<128∨191<by' s k 1
    ·have hres:fQ s k 0 0:=cB hk (Gl s k y1 y2 (.inr (by omega)));rcases iz with iz|iz
     ·have hx:((s[k+1]'hkj).toNat:Int)<128:=by omega
      go_wp2_with fail
      go_ret2;exact⟨⟨0,0,rfl,hres⟩,rfl⟩
     ·have hx:191<((s[k+1]'hkj).toNat:Int):=by omega
      go_wp2_with fail
      go_ret2;exact⟨⟨0,0,rfl,hres⟩,rfl⟩
    ·have hx1:128≤((s[k+1]'hkj).toNat:Int):=by omega
     have hx2:((s[k+1]'hkj).toNat:Int)≤191:=by omega
     go_wp2_with fail
     go_roundw
     case rel=>exact⟨2,_,rfl,by go_num,by omega,by omega,by rw[hv'.out];rfl,by omega,by omega,by omega,by omega,jB nC.out (by omega),trivial⟩
     case measure=>simp[intOf]
   ·subst j;have l6:v<1024:=z2 rfl;clear z1 z2 z3;have hkj:k+2<s.size:=by omega
    have Ug:=l4 s k 2 hkj;have Uh:=dt s k 2;have Ui:wrap32 ((s[k+2]'hkj).toNat:Int)=((s[k+2]'hkj).toNat:Int):=by unfold wrap32;omega
    by_cases iz:by' s k 2<128∨191<by' s k 2
    ·have hres:fQ s k 0 0:=cB hk (Gl s k y1 y2 (.inr (by omega)));rcases iz with iz|iz
     ·have hx:((s[k+2]'hkj).toNat:Int)<128:=by omega
      go_wp2_with fail
      go_ret2;exact⟨⟨0,0,rfl,hres⟩,rfl⟩
     ·have hx:191<((s[k+2]'hkj).toNat:Int):=by omega
      go_wp2_with fail
      go_ret2;exact⟨⟨0,0,rfl,hres⟩,rfl⟩
    ·have hx1:128≤((s[k+2]'hkj).toNat:Int):=by omega
     have hx2:((s[k+2]'hkj).toNat:Int)≤191:=by omega
     go_wp2_with fail
     go_roundw
     case rel=>exact⟨3,_,rfl,by go_num,by omega,by omega,by rw[hv'.out];rfl,by omega,by omega,by omega,by omega,jB nC.out (by omega),trivial⟩
     case measure=>simp[intOf]
   ·subst j;have l6:v<65536:=z3 rfl;clear z1 z2 z3;have hY:=Ue s k y1 y2 (by omega) (nC.out 1 (by omega) (by omega)) (nC.out 2 (by omega) (by omega));have Oe:val s k (by' s k 0-224) 2=v:=hv'.symm;rw[Oe] at hY;have Og:=af hY.1;have oF:=af hY.2;clear hY Oe;go_wp2_with fail
    all_goals
     go_ret2
     first
      |exact⟨⟨0,0,rfl,cB hk (Og.out (by omega))⟩,rfl⟩
      |exact⟨⟨v,3,rfl,lr hk (oF.out (by omega)) (by simp) (by omega)⟩,rfl⟩
 have x1:240≤((s[k]'hk).toNat:Int):=by omega
 have x2:((s[k]'hk).toNat:Int)<248:=by omega
 have y1:240≤by' s k 0:=by omega
 have y2:by' s k 0<248:=by omega
 by_cases mE:s.size<k+4
 ·have hres:fQ s k 0 0:=cB hk (BV s k y1 y2 (.inl mE));go_wp2_with fail
  go_ret2;exact⟨⟨0,0,rfl,hres⟩,rfl⟩
 have qd:decide (((by' s k 0:Nat):Int)<248)=true:=by simp;omega
 go_wp2_with fail
 go_loopw [8,10] (fun x y wr=>∃(j:Nat) (v:Int),x=.int .i32 v∧y=.int .i64 j∧1≤j∧j≤4∧v=val s k (by' s k 0-240) (j-1)∧0≤v∧(j=1→v<8)∧(j=2→v<512)∧(j=3→v<32768)∧(j=4→v<2097152)∧(∀i,1≤i→i<j→128≤by' s k i∧by' s k i≤191)∧wr=w) (fun _ y _=>4- (intOf y).toNat)
 case atStart=>exact⟨1,_,rfl,rfl,by omega,by omega,rfl,by omega,by omega,by omega,by omega,by omega,fun i h1 h2=>by omega,rfl⟩
 case round=>
  obtain⟨j,v,rfl,rfl,Pw,qC,hv,hv0,z1,z2,z3,z4,Od,hw⟩:=hrel;subst wr;have nC:=af Od;have hv':=af hv;clear Od hv;have xq:j=1∨j=2∨j=3∨j=4:=by omega
  rcases xq with hc|hc|hc|hc
  ·subst j;have l6:v<8:=z1 rfl;clear z1 z2 z3 z4;have hkj:k+1<s.size:=by omega
   have Ug:=l4 s k 1 hkj;have Uh:=dt s k 1;have Ui:wrap32 ((s[k+1]'hkj).toNat:Int)=((s[k+1]'hkj).toNat:Int):=by unfold wrap32;omega
   by_cases iz:by' s k 1<128∨191<by' s k 1
   ·have hres:fQ s k 0 0:=cB hk (BV s k y1 y2 (.inr (by omega)));rcases iz with iz|iz
    ·have hx:((s[k+1]'hkj).toNat:Int)<128:=by omega
     go_wp2_with fail
     go_ret2;exact⟨⟨0,0,rfl,hres⟩,rfl⟩
    ·have hx:191<((s[k+1]'hkj).toNat:Int):=by omega
     go_wp2_with fail
     go_ret2;exact⟨⟨0,0,rfl,hres⟩,rfl⟩
   ·have hx1:128≤((s[k+1]'hkj).toNat:Int):=by omega
    have hx2:((s[k+1]'hkj).toNat:Int)≤191:=by omega
    go_wp2_with fail
    go_roundw
    case rel=>exact⟨2,_,rfl,by go_num,by omega,by omega,by rw[hv'.out];rfl,by omega,by omega,by omega,by omega,by omega,jB nC.out (by omega),trivial⟩
    case measure=>simp[intOf]
  ·subst j;have l6:v<512:=z2 rfl;clear z1 z2 z3 z4;have hkj:k+2<s.size:=by omega
   have Ug:=l4 s k 2 hkj;have Uh:=dt s k 2;have Ui:wrap32 ((s[k+2]'hkj).toNat:Int)=((s[k+2]'hkj).toNat:Int):=by unfold wrap32;omega
   by_cases iz:by' s k 2<128∨191<by' s k 2
   ·have hres:fQ s k 0 0:=cB hk (BV s k y1 y2 (.inr (by omega)));rcases iz with iz|iz
    ·have hx:((s[k+2]'hkj).toNat:Int)<128:=by omega
     go_wp2_with fail
     go_ret2;exact⟨⟨0,0,rfl,hres⟩,rfl⟩
    ·have hx:191<((s[k+2]'hkj).toNat:Int):=by omega
     go_wp2_with fail
     go_ret2;exact⟨⟨0,0,rfl,hres⟩,rfl⟩
   ·have hx1:128≤((s[k+2]'hkj).toNat:Int):=by omega
    have hx2:((s[k+2]'hkj).toNat:Int)≤191:=by omega
    go_wp2_with fail
    go_roundw
    case rel=>exact⟨3,_,rfl,by go_num,by omega,by omega,by rw[hv'.out];rfl,by omega,by omega,by omega,by omega,by omega,jB nC.out (by omega),trivial⟩
    case measure=>simp[intOf]
  ·subst j;have l6:v<32768:=z3 rfl;clear z1 z2 z3 z4;have hkj:k+3<s.size:=by omega
   have Ug:=l4 s k 3 hkj;have Uh:=dt s k 3;have Ui:wrap32 ((s[k+3]'hkj).toNat:Int)=((s[k+3]'hkj).toNat:Int):=by unfold wrap32;omega
   by_cases iz:by' s k 3<128∨191<by' s k 3
   ·have hres:fQ s k 0 0:=cB hk (BV s k y1 y2 (.inr (by omega)));rcases iz with iz|iz
    ·have hx:((s[k+3]'hkj).toNat:Int)<128:=by omega
     go_wp2_with fail
     go_ret2;exact⟨⟨0,0,rfl,hres⟩,rfl⟩
    ·have hx:191<((s[k+3]'hkj).toNat:Int):=by omega
     go_wp2_with fail
     go_ret2;exact⟨⟨0,0,rfl,hres⟩,rfl⟩
   ·have hx1:128≤((s[k+3]'hkj).toNat:Int):=by omega
    have hx2:((s[k+3]'hkj).toNat:Int)≤191:=by omega
    go_wp2_with fail
    go_roundw
    case rel=>exact⟨4,_,rfl,by go_num,by omega,by omega,by rw[hv'.out];rfl,by omega,by omega,by omega,by omega,by omega,jB nC.out (by omega),trivial⟩
    case measure=>simp[intOf]
  ·subst j;have l6:v<2097152:=z4 rfl;clear z1 z2 z3 z4;have hY:=Uf s k y1 y2 (by omega) (nC.out 1 (by omega) (by omega)) (nC.out 2 (by omega) (by omega)) (nC.out 3 (by omega) (by omega));have Oe:val s k (by' s k 0-240) 3=v:=hv'.symm;rw[Oe] at hY;have Og:=af hY.1;have oF:=af hY.2;clear hY Oe;go_wp2_with fail
   all_goals
    go_ret2
    first
     |exact⟨⟨0,0,rfl,cB hk (Og.out (by omega))⟩,rfl⟩
     |exact⟨⟨v,4,rfl,lr hk (oF.out (by omega)) (by simp) (by omega)⟩,rfl⟩
end
section
open Go.Shelf
attribute [local go_sem] Oper.semAt_some
def cP (c:Int):Bool:=eR c||c==95
def codeFrom (s:ByteArray) (p:Nat):Int:=aM (s.extract p s.size) 0
def fR (s:ByteArray) (p:Nat):Nat:=p+jk (iM (s.extract p s.size)) (s.size-p)
theorem rz (s:ByteArray) (h:0<s.size):∃l,iM s=(0,aM s 0)::l:=by
 unfold iM;obtain⟨n,hn⟩:∃n,s.size=n+1:=⟨s.size-1,by omega⟩;rw[hn];simp only[eB];rw[if_pos (by omega)];exact⟨_,rfl⟩
theorem Gm {l:List (Nat×Int)} {c:Int} {s:ByteArray} (hl:iM s=(0,c)::l) (hc:cS c=true) (h0:∀n i (x:Nat×Int),x∈eB s n i→i≤x.1):0<s.size→0<jk (iM s) s.size∧jk (iM s) s.size≤s.size:=by
 intro hs;unfold jk;split
 ·rename_i x hx;have h1:=List.find?_some hx;have h2:=List.mem_of_find?_eq_some hx;refine⟨?_,by have:=BU s x h2;omega⟩;rw[hl] at h2;rcases List.mem_cons.1 h2 with rfl|h3
  ·simp[hc] at h1
  ·unfold iM at hl;obtain⟨n,hn⟩:∃n,s.size=n+1:=⟨s.size-1,by omega⟩;rw[hn] at hl;simp only[eB] at hl;rw[if_pos (by omega)] at hl;injection hl with _ hl;rw[←hl] at h3;have:=h0 _ _ _ h3;have:=eJ s 0;omega
 ·omega
theorem rA (s:ByteArray):∀n i (x:Nat×Int),x∈eB s n i→i≤x.1
 |0,_,_,h=>by cases h
 | n+1,i,x,h=>by
  simp only[eB] at h;split at h
  ·rcases List.mem_cons.1 h with rfl|h'
   ·exact Nat.le_refl _
   ·have:=rA s n _ x h';omega
  ·cases h
theorem zQ (s:ByteArray) (p:Nat) (hp:p<s.size) (hc:cS (codeFrom s p)=true):p<fR s p∧fR s p≤s.size:=by
 have hsz:(s.extract p s.size).size=s.size-p:=by simp
 obtain⟨l,hl⟩:=rz (s.extract p s.size) (by omega);have:=Gm hl hc (rA _) (by omega);rw[hsz] at this;unfold fR;omega
theorem DF (s:ByteArray) (p:Nat) (hp:p<s.size) (h:0≤codeFrom s p) (h2:codeFrom s p<128):codeFrom s p=((s[p]'hp).toNat:Int):=by
 have hsz:(s.extract p s.size).size=s.size-p:=by simp
 have hg:(s.extract p s.size).get! 0=s[p]'hp:=by
  rw[get_at (s.extract p s.size) 0 (by omega)];have:=ByteArray.getElem_extract (b:=s) (start:=p) (stop:=s.size) (i:=0) (by omega:0<(s.extract p s.size).size);simpa using this
 unfold codeFrom aM at h h2⊢;split at h
 ·omega
 ·rename_i hn;rw[if_neg hn] at h2⊢;have hb:∀k,((s.extract p s.size).get! (0+k)).toNat<256:=fun k=>((s.extract p s.size).get! (0+k)).toNat_lt
  have h0:=hb 0;have h1:=hb 1;have h3:=hb 2;have h4:=hb 3;rw[←hg];revert h h2;simp only[Utf8.decode]
  repeat' split
  all_goals simp_all [Utf8.runeError,Utf8.valid]
  all_goals omega
def Tk (s:ByteArray) (p:Nat) (kd en er:Int):Prop:=
 (er=0→∃n:Nat,en=n∧p<n∧n≤s.size)∧(cP (codeFrom s p)=true→kd=1∧er=0∧en=(fR s p:Nat))∧(cP (codeFrom s p)=false→kd≠1)
def TkR (s:ByteArray) (p:Nat) (w:World) (e:Ending) (w':World):Prop:=
 (∃kd en er:Int,e=.returned (.tuple #[.int .u8 kd,.int .i64 en,.int .i64 er])∧Tk s p kd en er)∧Below w.heap.size w w'
theorem Tk.word {s:ByteArray} {p:Nat} (hs:cP (codeFrom s p)=true) (hp:p<s.size):Tk s p 1 (fR s p:Nat) 0:=by
 have h:=zQ s p hp (by unfold cP at hs;unfold cS;revert hs;cases eR (codeFrom s p)<;>simp<;>intro h<;>simp[h]);exact⟨fun _=>⟨_,rfl,h⟩,fun _=>⟨rfl,rfl,rfl⟩,fun h=>by rw[hs] at h;cases h⟩
theorem Tk.other {s:ByteArray} {p:Nat} {kd en er:Int} (hs:cP (codeFrom s p)=false) (hk:kd≠1) (h:er=0→∃n:Nat,en=n∧p<n∧n≤s.size):Tk s p kd en er:=
 ⟨h,fun h=>(by rw[hs] at h;cases h),fun _=>hk⟩
theorem K6 (s:ByteArray) (p:Nat) (w:World) (hs:s.size≤1048576) (hp:p<s.size):Calls Tryz.prog 204 #[.string s,.int .i64 p,.slice none 0 0] w (TkR s p w):=by
 refine(callsIn_wide (n:=5)).1 ?_;refine callsIn_of_wp_marks Tryz.func204 rfl trivial ?_ rfl;simp only[Tryz.ntmps204,List.size_toArray,List.length_cons,List.length_nil,Nat.reduceAdd,Nat.reduceSub,Array.replicate_succ,Array.replicate_zero,List.push_toArray,List.append_toArray,List.nil_append,List.cons_append]
 gi_wp2_with (refine⟨trivial,?_⟩;gi_at_call 228;refine(callsIn_wide.2 (oP _ _)).mono ?_;rintro e w' ⟨rfl,rfl⟩)
 obtain⟨W0,hW0⟩:∃W0,W0=(w.alloc (.cells #[.int .i32 (-1)] 21)).alloc (.cells #[.string (s.extract p s.size)] 9):=⟨_,rfl⟩;rw[←hW0];have hsz:W0.heap.size=w.heap.size+2:=by rw[hW0];simp
 have cF:Below w.heap.size w W0:=by rw[hW0];exact((Below.refl _ w).alloc (Nat.le_refl _) _).alloc (by simp) _
 have b4:Boxed W0 w.heap.size 21 (.int .i32 (-1)):=by rw[hW0];exact(Boxed.new w 21 _).alloc _
 have b7:Boxed W0 (w.heap.size+1) 9 (.string (s.extract p s.size)):=by
  rw[hW0];have:=Boxed.new (w.alloc (.cells #[.int .i32 (-1)] 21)) 9 (.string (s.extract p s.size));simpa using this
 clear hW0;have hext:(s.extract p s.size).size=s.size-p:=by simp
 obtain⟨lc,hlc⟩:=rz (s.extract p s.size) (by omega);refine wpIn_rangeFunc_ownF (w0:=W0) rfl (by omega) (gf:=253) (lb:=#[.pointer (some ⟨w.heap.size+1,0,none⟩)]) rfl trivial (enters_of Tryz.func253 (by kernel_rfl) rfl)
  (oQ 4 (by omega) (w.heap.size+1) W0.heap.size (s.extract p s.size) (by simp;omega) W0 (by omega) (Nat.le_refl _) b7.cell) Kc.t (Kc.b (Nat.le_refl _)) (Below.refl _ _) (fun _=>rfl)
  (fun pre W=>pre=[]∧Below W0.heap.size W0 W)
  (fun c pre W=>((∃x,c=.exit 0∧pre=[x]∧W.cell? ⟨w.heap.size,0,none⟩=some (.int .i32 x.2))∧Below w.heap.size w W))
  (OwnFrom.and (ownFrom_pure _ _) (ownFrom_below (Nat.le_refl _) (Nat.le_refl _)))
  (fun c=>OwnFrom.and (Own.from (fun s A B row hs hg hr=>by obtain⟨x,h1,h2,h3⟩:=hs;exact⟨x,h1,h2,cell_kept h3 hg hr⟩) _) (ownFrom_below (Nat.le_refl _) (by omega)))
  ⟨rfl,Below.refl _ _⟩
  (fun x=>{tmps:=#[.string s,.int .i64 p,.slice none 0 0,undef,undef,undef,.int .u8 0,.int .i64 0,.int .i64 0,.pointer (some ⟨w.heap.size,0,none⟩),undef,.int .i32 x.2,undef,undef,undef,undef,undef,undef,.string s,.int .i64 p,.string (s.extract p s.size),.func (.func 253) #[] #[.pointer (some ⟨w.heap.size+1,0,none⟩)],.int .i64 x.1,.int .i32 x.2,undef,undef,undef,undef,undef,undef,undef,undef,undef,undef,undef,undef,undef,undef,undef,undef,undef,undef,undef,undef,undef,undef,undef,undef,undef,undef,undef,undef,undef,undef,undef,undef,undef,undef,undef,undef,undef,undef,undef,undef,undef,undef,undef,undef,undef,undef,undef,undef,undef,undef,undef,undef,undef,undef,undef,undef,undef,undef,undef],defers:=[]}) ?assign ?body ?done ?stop
 case assign=>
  intro l x W K hK
  gi_wp2
  exact hK
 case body=>
  rintro l pre x W ⟨rfl,hB⟩ _;have d4:=(hB.block w.heap.size (by omega)).trans b4;have c4:=Boxed.cell d4;have f4:=Boxed.frozen d4
  gi_wp2
  exact⟨KeepsOthers.setCell _ _ _,⟨x,rfl,rfl,World.cell?_setCell_same' _ _ _ (by rw[c4];rfl)⟩,(cF.trans (hB.mono (by omega))).setCell (by simp) _⟩
 case done=>
  rintro D ys W hD rfl ⟨h1,hB⟩ hK;rw[hlc] at h1;cases h1
 case stop=>
  rintro D c pre W hD iN ⟨⟨x,rfl,rfl,h5⟩,hB⟩ hK;have hx:x.2=codeFrom s p:=by
   obtain⟨rest,hr⟩:=iN;rw[hlc] at hr;injection hr with h1 _;rw[h1];rfl
  rw[hx] at h5;clear hx iN hlc b4 b7;have fB:=af hB;have hK':=af hK;clear hB hK;have hDl:D<W.heap.size:=by
   rcases Nat.lt_or_ge D W.heap.size with h|h
   ·exact h
   ·have:=hK'.out;rw[Array.getElem?_eq_none h] at this;cases this
  have Px:=xe (codeFrom s p) W;have c77:=uW (codeFrom s p) W;have hW:w.heap.size≤W.heap.size:=fB.size;by_cases h10:codeFrom s p=10
  ·have hns:cP (codeFrom s p)=false:=by rw[h10];decide
   have hq:(codeFrom s p==10)=true:=by simp[h10]
   gi_wp2
   refine⟨by simp,.inl ⟨_,_,rfl,run_takeDeferred hK'.out,?_⟩⟩;exact⟨.tuple #[.int .u8 6,.int .i64 (p+1),.int .i64 0],by simp[results,Tryz.results204,go_sem],⟨_,_,_,rfl,.other hns (by decide) (fun _=>⟨p+1,by omega,by omega,by omega⟩)⟩,fB.trans (belowK_b (w:=W0) (by omega) _ D _ _ hD hK'.out rfl rfl)⟩
  have hq10:(codeFrom s p==10)=false:=by simp[h10]
  have rB:=TL s p W hs (by omega);have A78:∀{e:Ending} {w2:World},e=.returned (.int .i64 (p+jk (iM (s.extract p s.size)) (s.size-p):Nat))→e=.returned (.int .i64 (fR s p:Nat)):=fun h=>h
  gi_wp2
  refine⟨trivial,?_⟩;refine(callsIn_wide.2 Px).mono ?_;rintro e w' ⟨rfl,hw⟩;subst w';clear Px;cases ZQ:eR (codeFrom s p);rotate_left
  ·have hend:=Tk.word (s:=s) (p:=p) (by unfold cP;rw[ZQ];rfl) hp
   gi_wp2
   refine⟨trivial,?_⟩;refine(callsIn_wide.2 rB).mono ?_;rintro e w2 ⟨he,hb2⟩;obtain rfl:=A78 (w2:=w2) he;clear he;have hK2:=af (show w2.heap[D]? =some (.deferred (some [])) from(hb2.block D hDl).trans hK'.out);have aQ:=af (fB.trans (hb2.mono hW));clear hb2
   gi_wp2
   refine⟨by simp,.inl ⟨_,_,rfl,run_takeDeferred hK2.out,?_⟩⟩;exact⟨.tuple #[.int .u8 1,.int .i64 (fR s p:Nat),.int .i64 0],by simp[results,Tryz.results204,go_sem],⟨_,_,_,rfl,hend⟩,aQ.trans (belowK_b (w:=W0) (by omega) _ D _ _ hD hK2.out rfl rfl)⟩
  by_cases Uj:codeFrom s p=95
  ·have ZR:(codeFrom s p==95)=true:=by simp[Uj]
   have hend:=Tk.word (s:=s) (p:=p) (by unfold cP;rw[ZR];simp) hp
   gi_wp2
   refine⟨trivial,?_⟩;refine(callsIn_wide.2 rB).mono ?_;rintro e w2 ⟨he,hb2⟩;obtain rfl:=A78 (w2:=w2) he;clear he;have hK2:=af (show w2.heap[D]? =some (.deferred (some [])) from(hb2.block D hDl).trans hK'.out);have aQ:=af (fB.trans (hb2.mono hW));clear hb2
   gi_wp2
   refine⟨by simp,.inl ⟨_,_,rfl,run_takeDeferred hK2.out,?_⟩⟩;exact⟨.tuple #[.int .u8 1,.int .i64 (fR s p:Nat),.int .i64 0],by simp[results,Tryz.results204,go_sem],⟨_,_,_,rfl,hend⟩,aQ.trans (belowK_b (w:=W0) (by omega) _ D _ _ hD hK2.out rfl rfl)⟩
  have ZR:(codeFrom s p==95)=false:=by simp[Uj]
  have hst:cP (codeFrom s p)=false:=by unfold cP;rw[ZQ,ZR];rfl
  clear rB
  gi_wp2
  refine⟨trivial,?_⟩;refine(callsIn_wide.2 c77).mono ?_;rintro e w' ⟨rfl,hw⟩;subst w';clear c77;cases Uk:cR (codeFrom s p);rotate_left
  ·have hcb:codeFrom s p=((s[p]'hp).toNat:Int):=DF s p hp (by unfold cR at Uk;simp at Uk;omega) (by unfold cR at Uk;simp at Uk;omega);have zR:=DB s p W hs hp (by rw[←hcb];exact Uk)
   gi_wp2
   refine⟨trivial,?_⟩;refine(callsIn_wide.2 zR).mono ?_;rintro e w2 ⟨⟨k,rfl,dH,hk2⟩,hw⟩;subst w2;have hk3:=af (And.intro dH hk2);clear dH hk2
   gi_wp2
   refine⟨by simp,.inl ⟨_,_,rfl,run_takeDeferred hK'.out,?_⟩⟩;exact⟨.tuple #[.int .u8 2,.int .i64 k,.int .i64 0],by simp[results,Tryz.results204,go_sem],⟨_,_,_,rfl,.other hst (by decide) (fun _=>⟨k,rfl,hk3.out⟩)⟩,fB.trans (belowK_b (w:=W0) (by omega) _ D _ _ hD hK'.out rfl rfl)⟩
  have ZT:=DA s p W hs hp;obtain⟨z,hz0⟩:∃z,z=(⟨#[]⟩:ByteArray):=⟨_,rfl⟩;have hz:z.toList.isEmpty=true:=by rw[hz0,ByteArray.toList_eq];rfl
  have c81:Calls Tryz.prog 235 #[.string s,.int .i64 p,.slice none 0 0] W fun e w'=>e=.returned (.string z)∧w'=W:=by rw[hz0];exact Gj s p W
  clear hz0;by_cases SJ:codeFrom s p=34
  ·have ZU:(codeFrom s p==34)=true:=by simp[SJ]
   gi_wp2
   refine⟨trivial,?_⟩;refine(callsIn_wide.2 ZT).mono ?_;rintro e w2 ⟨⟨k,er,rfl,hk⟩,hb2⟩;have hK2:=af (show w2.heap[D]? =some (.deferred (some [])) from(hb2.block D hDl).trans hK'.out);have aQ:=af (fB.trans (hb2.mono hW));clear hb2;have Fw:=af hk;clear hk
   gi_wp2
   refine⟨by simp,.inl ⟨_,_,rfl,run_takeDeferred hK2.out,?_⟩⟩;exact⟨.tuple #[.int .u8 3,.int .i64 k,.int .i64 er],by simp[results,Tryz.results204,go_sem],⟨_,_,_,rfl,.other hst (by decide) Fw.out⟩,aQ.trans (belowK_b (w:=W0) (by omega) _ D _ _ hD hK2.out rfl rfl)⟩
  have ZU:(codeFrom s p==34)=false:=by simp[SJ]
  by_cases SK:codeFrom s p=39
  ·have ZV:(codeFrom s p==39)=true:=by simp[SK]
   gi_wp2
   refine⟨trivial,?_⟩;refine(callsIn_wide.2 ZT).mono ?_;rintro e w2 ⟨⟨k,er,rfl,hk⟩,hb2⟩;have hK2:=af (show w2.heap[D]? =some (.deferred (some [])) from(hb2.block D hDl).trans hK'.out);have aQ:=af (fB.trans (hb2.mono hW));clear hb2;have Fw:=af hk;clear hk
   gi_wp2
   refine⟨by simp,.inl ⟨_,_,rfl,run_takeDeferred hK2.out,?_⟩⟩;exact⟨.tuple #[.int .u8 4,.int .i64 k,.int .i64 er],by simp[results,Tryz.results204,go_sem],⟨_,_,_,rfl,.other hst (by decide) Fw.out⟩,aQ.trans (belowK_b (w:=W0) (by omega) _ D _ _ hD hK2.out rfl rfl)⟩
  have ZV:(codeFrom s p==39)=false:=by simp[SK]
  clear ZT
  gi_wp2
  refine⟨trivial,?_⟩;refine(callsIn_wide.2 c81).mono ?_;rintro e w' ⟨rfl,hw⟩;subst w';clear c81;by_cases tI:codeFrom s p<0
  ·have hng:decide (codeFrom s p<0)=true:=by simp[tI]
   gi_wp2
   refine⟨by simp,.inl ⟨_,_,rfl,run_takeDeferred hK'.out,?_⟩⟩;exact⟨.tuple #[.int .u8 0,.int .i64 p,.int .i64 13],by simp[results,Tryz.results204,go_sem],⟨_,_,_,rfl,.other hst (by decide) (fun h=>absurd h (by decide))⟩,fB.trans (belowK_b (w:=W0) (by omega) _ D _ _ hD hK'.out rfl rfl)⟩
  ·have hng:decide (codeFrom s p<0)=false:=by simp;omega
   gi_wp2
   refine⟨by simp,.inl ⟨_,_,rfl,run_takeDeferred hK'.out,?_⟩⟩;exact⟨.tuple #[.int .u8 0,.int .i64 p,.int .i64 10],by simp[results,Tryz.results204,go_sem],⟨_,_,_,rfl,.other hst (by decide) (fun h=>absurd h (by decide))⟩,fB.trans (belowK_b (w:=W0) (by omega) _ D _ _ hD hK'.out rfl rfl)⟩
end
section
open Go.Shelf
attribute [local go_sem] Oper.semAt_some
def bP (s:ByteArray):Bool:=decide (0<s.size)&&cP (codeFrom s 0)&&(fR s 0==s.size)
theorem DG (s:ByteArray) (p:Nat) (hp:p<s.size) (h:(s[p]'hp).toNat<128):codeFrom s p=((s[p]'hp).toNat:Int):=by
 have hsz:(s.extract p s.size).size=s.size-p:=by simp
 have hg:(s.extract p s.size).get! 0=s[p]'hp:=by
  rw[get_at (s.extract p s.size) 0 (by omega)];have:=ByteArray.getElem_extract (b:=s) (start:=p) (stop:=s.size) (i:=0) (by omega:0<(s.extract p s.size).size);simpa using this
 have hd:Utf8.decode (s.extract p s.size) 0=((s[p]'hp).toNat,1):=by
  have h8:((s.extract p s.size).get! 0).toNat<128:=by rw[hg];exact h
  rw[←hg];simp[Utf8.decode,h8]
 unfold codeFrom aM fP;rw[hd];have:((s[p]'hp).toNat==65533)=false:=by simp;omega
 simp only[this,Bool.false_and];rfl
theorem xr (s:ByteArray) (h0:0<s.size) (h:(s[0]'h0).toNat=9∨(s[0]'h0).toNat=13∨(s[0]'h0).toNat=32∨(s[0]'h0).toNat=35):bP s=false:=by
 have:cP (codeFrom s 0)=false:=by
  rw[DG s 0 h0 (by omega)];rcases h with h|h|h|h<;>rw[h]<;>decide
 simp[bP,this]
structure jZ (s:ByteArray) (k n:Nat) (xs:List Value):Prop where
 t:bP s=true→(k=0∧n=0)∨(k=s.size∧n=1∧xs=[.int .u8 1,.int .i64 0,.string s])
 f:bP s=false→n=1→∀(kd at':Int) (txt:ByteArray),xs=[.int .u8 kd,.int .i64 at',.string txt]→¬(kd=1∧txt=s)
 z:n=0→xs=[]
 one:n=1→∃(kd at':Int) (txt:ByteArray),xs=[.int .u8 kd,.int .i64 at',.string txt]
theorem jZ.start (s:ByteArray):jZ s 0 0 []:=⟨fun _=>.inl ⟨rfl,rfl⟩,(fun _ h=>by cases h),fun _=>rfl,fun h=>by cases h⟩
theorem jZ.on {s:ByteArray} {k n:Nat} {xs:List Value} (h:jZ s k n xs) (hk:k<s.size) (k':Nat) (hb:∀h0:0<s.size,k=0→(s[0]'h0).toNat=9∨(s[0]'h0).toNat=13∨(s[0]'h0).toNat=32∨(s[0]'h0).toNat=35):jZ s k' n xs where
 t:=fun hq=>by
  rcases h.t hq with⟨h1,_⟩|⟨h1,_⟩
  ·rw[xr s (by omega) (hb (by omega) h1)] at hq;cases hq
  ·omega
 f:=h.f
 z:=h.z
 one:=h.one
theorem jZ.add {s:ByteArray} {k n:Nat} {xs:List Value} (h:jZ s k n xs) (hk:k<s.size) {kd:Int} {en:Nat} (ht:Tk s k kd en 0) (h1:k<en) (h2:en≤s.size):jZ s en (n+1) (xs++[.int .u8 kd,.int .i64 k,.string (s.extract k en)]) where
 t :=fun hq=>by
  rcases h.t hq with⟨rfl,rfl⟩|⟨h1,_⟩
  ·simp only[bP,Bool.and_eq_true,beq_iff_eq,decide_eq_true_eq] at hq;obtain⟨e1,_,e2⟩:=ht.2.1 hq.1.2;have e3:en=s.size:=by omega
   subst e3;refine .inr ⟨rfl,rfl,?_⟩;rw[h.z rfl,e1];simp
  ·omega
 f :=fun hq hn kd' at' txt hx ⟨dH,hk2⟩=>by
  have wM:n=0:=by omega
  rw[h.z wM] at hx;simp at hx;obtain⟨hx1,hx2,hx3⟩:=hx;have hs:(s.extract k en).size=s.size:=by rw[hx3,hk2]
  simp at hs;have gJ:k=0:=by omega
  subst gJ;have hen:en=s.size:=by omega
  cases hst:cP (codeFrom s 0)
  ·exact ht.2.2 hst (by omega)
  ·obtain⟨_,_,e2⟩:=ht.2.1 hst;have:bP s=true:=by
    simp only[bP,hst,Bool.and_true,Bool.and_eq_true,beq_iff_eq,decide_eq_true_eq];omega
   rw[this] at hq;cases hq
 z:=fun h=>by omega
 one:=fun hn=>by
  have wM:n=0:=by omega
  rw[h.z wM];exact⟨_,_,_,rfl⟩
def Oh (s:ByteArray) (w:World) (e:Ending) (w':World):Prop:=
 (∃(v:Value) (en er:Int),e=.returned (.tuple #[v,.int .i64 en,.int .i64 er])∧(er=0→∃(n:Nat) (xs:List Value),w'.ownsRow w.heap.size 222 3 v n xs∧jZ s s.size n xs)∧(er≠0→bP s=true→32<s.size))∧Below w.heap.size w w'
theorem K8 (s:ByteArray) (k:Nat) (hlt:k<s.size) (h:(s[k]'hlt).toNat=35):Lib.indexByte (s.extract k s.size).data.toList (10:Int).toNat.toUInt8= -1∨∃j:Nat,Lib.indexByte (s.extract k s.size).data.toList (10:Int).toNat.toUInt8=j∧1≤j∧k+j<s.size:=by
 have hsz:(s.extract k s.size).size=s.size-k:=by simp
 have hlen:(s.extract k s.size).data.toList.length=s.size-k:=by rw[←hsz];rfl
 have hb:=ByteArray.getElem_extract (b:=s) (start:=k) (stop:=s.size) (i:=0) (by omega:0<(s.extract k s.size).size);have h2:(s.extract k s.size).data.toList[0]? =some (s[k]'hlt):=by
  rw[List.getElem?_eq_getElem (by omega)];exact congrArg some hb
 have Fu:=Lib.indexByte_ge (s.extract k s.size).data.toList (10:Int).toNat.toUInt8;have hne:(s.extract k s.size).data.toList≠[]:=fun e=>by rw[e] at hlen;simp at hlen;omega
 have lQ:=nz _ (10:Int).toNat.toUInt8 hne;rw[hlen] at lQ;generalize hx:Lib.indexByte (s.extract k s.size).data.toList (10:Int).toNat.toUInt8=x at*;rcases Int.lt_or_le x 0 with hn|hn
 ·exact .inl (by omega)
 ·refine .inr ⟨x.toNat,by omega,?_,by omega⟩;rcases Int.lt_or_le 0 x with hp|hp
  ·omega
  ·exfalso
   obtain rfl:x=0:=by omega
   revert hx h2;cases (s.extract k s.size).data.toList with
   |nil=>intro h2;simp at h2
   | cons b l=>
    intro h2 hx;simp only[Lib.indexByte] at hx;have:b=s[k]'hlt:=by simpa using h2
    split at hx
    ·rename_i he;have he:b=(10:Int).toNat.toUInt8:=by simpa using he
     rw[←this,he] at h;revert h;decide
    ·have:=Lib.indexByte_ge l (10:Int).toNat.toUInt8;split at hx
     ·cases hx
     ·rename_i hh;have:Lib.indexByte l (10:Int).toNat.toUInt8≠ -1:=by simpa using hh
      omega
theorem rC {B:Nat} {t:TypeId} {m:Nat} {v:Value} {n:Nat} {xs:List Value} {w w':World} (h:w.ownsRow B t m v n xs) (hb:Below w.heap.size w w'):w'.ownsRow B t m v n xs:=by
 refine h.kept (ah hb) ?_;cases h:v.ownBlock
 ·exact .inl rfl
 ·exact .inr (by simp)
theorem Gn (s:ByteArray) (w:World) (hs:s.size≤1048576):Calls Tryz.prog 165 #[.string s,.slice none 0 0] w (Oh s w):=by
  have mE:=Uc w;go_enter Tryz.func165,Tryz.ntmps165;go_wp2_with fail
  go_step3
  go_wp2_with fail
  refine mE.mono ?_;rintro e w2 ⟨rfl,hw⟩;subst w2;by_cases Ul:524288<s.size
  · go_wp2_with fail
    rw[Exit.noGoto_ret]
    go_ret3
    exact⟨⟨_,_,_,rfl,(fun h=>by cases h),fun _ _=>by omega⟩,Below.refl _ _⟩
  go_wp2_with fail
  go_step3
  go_wp2_with fail
  go_loopw [7,8] (fun x y wr=>∃(k n:Nat) (xs:List Value),y=.int .i64 k∧k≤s.size∧n≤k∧wr.ownsRow w.heap.size 222 3 x n xs∧jZ s k n xs∧Below w.heap.size w wr) (fun _ y _=>s.size- (intOf y).toNat)
  case atStart=>exact⟨0,0,[],rfl,by omega,by omega,World.ownsRow_nil _ _ _ _,jZ.start s,Below.refl _ _⟩
  case round =>
    obtain⟨k,n,xs,rfl,hk,hnk,hown,hF,hb⟩:=hrel;have hO:=af hown;have hF':=af hF;have hB:=af hb;clear hown hF hb;by_cases hlt:k<s.size;rotate_left
    · obtain rfl:k=s.size:=by omega
      go_wp2_with fail
      rw[Exit.noGoto_ret]
      go_ret3
      exact⟨⟨_,_,_,rfl,fun _=>⟨n,xs,hO.out,hF'.out⟩,fun h=>absurd rfl h⟩,hB.out⟩
    by_cases zT:(s[k]'hlt).toNat=9∨(s[k]'hlt).toNat=13∨(s[k]'hlt).toNat=32
    · have hF2:=af (hF'.on hlt (k+1) (fun h0 e=>by subst e;omega))
      rcases zT with h|h|h
      all_goals
        have tJ:((s[k]'hlt).toNat:Int)=_:=congrArg (Nat.cast (R:=Int)) h;go_wp2_with fail
        all_goals first
          | (go_roundw
             case rel=>exact⟨k+1,n,xs,by go_num,by omega,by omega,hO.out,hF2.out,hB.out⟩
             case measure=>simp[intOf];omega)
          |(exfalso;simp_all;done)
    have Ka:(s[k]'hlt).toNat≠9∧(s[k]'hlt).toNat≠13∧(s[k]'hlt).toNat≠32:=by omega
    have jx:(((s[k]'hlt).toNat:Int)==9)=false:=by simp;omega
    have jy:(((s[k]'hlt).toNat:Int)==13)=false:=by simp;omega
    have tK:(((s[k]'hlt).toNat:Int)==32)=false:=by simp;omega
    by_cases Yr:(s[k]'hlt).toNat=35
    · have Yt:(((s[k]'hlt).toNat:Int)==35)=true:=by simp[Yr]
      have Yu:=KY (s.extract k s.size) 10 wr;rcases K8 s k hlt Yr with hx|⟨j,hx,Pw,qC⟩
      · rw[hx] at Yu
        go_wp2_with (go_at_call 203;refine Yu.mono ?_;rintro e w' ⟨rfl,hw⟩;subst w')
        rw[Exit.noGoto_ret]
        go_ret3
        refine⟨⟨_,_,_,rfl,(fun _=>⟨n,xs,hO.out,hF'.on hlt _ (fun h0 e=>by subst e;omega)⟩),fun h=>absurd rfl h⟩,hB.out⟩
      · rw[hx] at Yu
        go_wp2_with (go_at_call 203;refine Yu.mono ?_;rintro e w' ⟨rfl,hw⟩;subst w')
        go_roundw
        case rel=>exact⟨k+j,n,xs,by go_num,by omega,by omega,hO.out,hF'.on hlt _ (fun h0 e=>by subst e;omega),hB.out⟩
        case measure=>simp[intOf];omega
    have Yt:(((s[k]'hlt).toNat:Int)==35)=false:=by simp;omega
    have c56:=K6 s k wr hs hlt;go_wp2_with fail
    refine c56.mono ?_;rintro e w2 ⟨⟨kd,en,er,rfl,ht⟩,hb2⟩;have oU:=af (rC hO.out hb2);have aQ:=af (hB.trans (hb2.mono hB.size));have Fx:=af ht;clear hb2 ht;by_cases her:er=0;rotate_left
    · have ZW:(er !=0)=true:=by simpa using her
      go_wp2_with fail
      rw[Exit.noGoto_ret]
      go_ret3
      refine⟨⟨_,_,_,rfl,(fun h=>absurd h her),fun _ hq=>?_⟩,aQ.out⟩
      exfalso
      rcases hF'.t hq with⟨rfl,_⟩|⟨h1,_⟩
      · simp only[bP,Bool.and_eq_true] at hq
        exact her (Fx.2.1 hq.1.2).2.1
      ·omega
    subst her;obtain⟨m,hm,h1,h2⟩:=Fx.1 rfl;subst hm;have hF2:=af (hF'.add hlt Fx.out h1 h2);have u9:w.heap.size≤w2.heap.size:=aQ.size;go_wp2_with (at_builtin;refine aG rfl _ _ 217 rfl w.heap.size 222 222 (.agg #[.int .u8 0,.int .i64 0,.string ⟨#[]⟩]) 3 32 1 Tryz.underlying217 (by kernel_rfl) rfl (by decide) _ n _ [_,_,_] (0,0) oU.out rfl (by simp[Value.oneCell']) (by unfold maxLen;omega) (by omega) u9 rfl rfl ?_;intro v' w3 hA;have La:=af hA.own;have Py:=af hA.grown;clear hA)
    go_roundw
    case rel=>exact⟨m,n+1,_,rfl,h2,by omega,La.out,hF2.out,aQ.grown Py.out u9 (fun k hk=>(oU.lt k hk).1)⟩
    case measure=>simp[intOf];omega
end
section
open Go.Shelf
attribute [local go_sem] Oper.semAt_some
def aS (s:ByteArray):Bool:=bP s&& !cv tH s&&decide (s.size≤32)
theorem uf {w:World} {base size n:Nat} {e:TypeId} {v:Value} {xs:List Value} (h:w.ownsRow base e size v n xs):(v=.slice none 0 0∧n=0)∨∃g cap,v=.slice (some ⟨g,0,none⟩) n cap:=by
 rcases h.2 with⟨h1,h2⟩|⟨g,cap,_,h1,_⟩
 ·exact .inl ⟨h1,by first|exact h2|omega⟩
 ·exact .inr ⟨g,cap,h1⟩
theorem Lb (kd at':Int) (txt:ByteArray) (w:World) (hs:txt.size≤1048576):Calls Tryz.prog 166 #[.agg #[.int .u8 kd,.int .i64 at',.string txt]] w fun e w'=>e=.returned (.bool (kd==1&& !cv tH txt&&decide (txt.size≤32)))∧Below w.heap.size w w':=by
 have bT:=af (zP txt (w.alloc (.cells #[.int .u8 kd,.int .i64 at',.string txt] 222)));have hX:=af (Bx.new w #[.int .u8 kd,.int .i64 at',.string txt] 222);go_enter Tryz.func166,Tryz.ntmps166;cases hk:kd==1
 ·go_wp2_with fail
  go_ret;exact⟨aq (by simp),(Below.refl _ _).alloc (Nat.le_refl _) _⟩
 ·go_wp2_with fail
  refine bT.mono ?_;rintro e w2 ⟨rfl,hb⟩;have aL:=hX.on (ah hb) (by simp);have p2:=aL.cell 2;have hB:=af (((Below.refl w.heap.size w).alloc (Nat.le_refl _) (.cells #[.int .u8 kd,.int .i64 at',.string txt] 222)).trans (hb.mono (by simp)));clear hb aL;cases hr:cv tH txt
  ·go_wp2_with fail
   go_ret;refine⟨aq ?_,hB.out⟩;by_cases ZX:txt.size≤32
   ·simp[ZX,hr]
    try omega
   ·simp[ZX,hr]
    try omega
  ·go_wp2_with fail
   go_ret;exact⟨aq (by simp[hr]),hB.out⟩
theorem xt (s:ByteArray):(s.toList==s.toList)=true:=by simp
theorem ug {a b:ByteArray} (h:a≠b):(a.toList==b.toList)=false:=by
 simp only[beq_eq_false_iff_ne,ne_eq,ByteArray.toList_eq];intro e;exact h (ByteArray.ext (by rw[←Array.toList_inj];exact e))
theorem fS (s:ByteArray) (w:World) (hs:s.size≤1048576):Calls Tryz.prog 134 #[.string s] w fun e w'=>e=.returned (.bool (aS s))∧Below w.heap.size w w':=by
 have bT:=af (Gn s w hs);go_enter Tryz.func134,Tryz.ntmps134;go_wp2_with fail
 refine bT.mono ?_;rintro e w2 ⟨⟨v,en,er,rfl,h0,h1⟩,hb⟩;have hB:=af hb;clear hb bT;by_cases her:er=0;rotate_left
 ·have hq:(er==0)=false:=by simpa using her
  have oD:=af (h1 her);clear h0 h1;go_wp2_with fail
  go_ret;refine⟨aq ?_,hB.out⟩;unfold aS;cases ho:bP s
  ·rfl
  ·have:=oD.out ho;have h2:decide (s.size≤32)=false:=by simp;omega
   simp[h2]
 obtain⟨n,xs,hO,hF⟩:=h0 her;subst her;clear h1 h0;have hF':=af hF;clear hF;have hname:Hid (n≠1→bP s=false):=af (fun hn=>by
  cases ho:bP s
  ·rfl
  ·rcases hF'.t ho with⟨h1,_⟩|⟨_,h2,_⟩
   ·simp only[bP,Bool.and_eq_true,decide_eq_true_eq] at ho;omega
   ·exact absurd h2 hn)
 rcases uf hO with⟨rfl,rfl⟩|⟨g,cap,rfl⟩
 ·clear hO;go_wp2_with fail
  go_ret;exact⟨aq (by simp[aS,hname.out (by decide)]),hB.out⟩
 have Dw:=hO.1;by_cases hn:n=1;rotate_left
 ·have hq:((n:Int)==1)=false:=by simp;omega
  have hO':=af hO;clear hO Dw;go_wp2_with fail
  go_ret;exact⟨aq (by simp[aS,hname.out hn]),hB.out⟩
 subst hn;obtain⟨kd,at',txt,rfl⟩:=hF'.one rfl;have p0:w2.cell? ⟨g,0,none⟩=some (.int .u8 kd):=(hO.cellAt 0 (by decide)).trans rfl;have p1:w2.cell? ⟨g,1,none⟩=some (.int .i64 at'):=(hO.cellAt 1 (by decide)).trans rfl;have p2:w2.cell? ⟨g,2,none⟩=some (.string txt):=(hO.cellAt 2 (by decide)).trans rfl;clear hO Dw;by_cases ht:txt=s;rotate_left
 ·have hq:=ug ht;go_wp2_with fail
  go_ret;refine⟨aq ?_,hB.out⟩;cases ho:bP s
  ·simp[aS,ho]
  ·rcases hF'.t ho with⟨_,h2⟩|⟨_,_,h3⟩
   ·cases h2
   ·simp at h3;exact absurd h3.2.2 ht
 subst ht;have hq:=xt txt;have zO:=af (Lb kd at' txt w2 hs);go_wp2_with fail
 refine zO.mono ?_;rintro e w3 ⟨rfl,hb3⟩;have gQ:=af (hB.trans (hb3.mono hB.size));clear hb3;go_wp2_with fail
 go_ret;refine⟨aq ?_,gQ.out⟩;have hk:(kd==1)=bP txt:=by
  cases ho:bP txt
  ·have:=hF'.f ho rfl kd at' txt rfl;simp at this;simpa using this
  ·rcases hF'.t ho with⟨_,h2⟩|⟨_,_,h3⟩
   ·cases h2
   ·simp at h3;simp[h3.1]
 unfold aS;rw[hk]
 try simp
end
section
open Go.Shelf
attribute [local go_sem] Oper.semAt_some
def kM (b:Int):Bool:=decide (65≤b∧b≤90)||decide (97≤b∧b≤122)
theorem l7 (b:Int) (w:World):Calls Tryz.prog 216 #[.int .u8 b] w fun e w'=>e=.returned (.bool (kM b))∧w'=w:=by
 go_enter Tryz.func216,Tryz.ntmps216;go_wp2_with fail
 all_goals
  go_ret;exact⟨aq (by unfold kM;rw[Bool.eq_iff_iff];simp;omega),rfl⟩
theorem qE (b:Int) (w:World):Calls Tryz.prog 184 #[.int .u8 b] w fun e w'=>e=.returned (.bool (cR b))∧w'=w:=by
 go_enter Tryz.func184,Tryz.ntmps184;go_wp2_with fail
 all_goals
  go_ret;exact⟨aq (by unfold cR;rw[Bool.eq_iff_iff];simp;omega),rfl⟩
theorem rD (s:ByteArray):∀n m i,s.size-i≤n→s.size-i≤m→eB s n i=eB s m i
 |0,m,i,h,_=>by rw[iu s 0 i (by omega),iu s m i (by omega)]
 |n+1,0,i,_,h=>by rw[iu s 0 i (by omega),iu s (n+1) i (by omega)]
 |n+1,m+1,i,h1,h2=>by
  have hd:=eJ s i;simp only[eB];rw[rD s n m (i+ (Utf8.decode s i).2) (by omega) (by omega)]
def bV (s:ByteArray) (p:Nat):Nat:=match (eB s (s.size-p) p).find? (fun x=>!cS x.2) with
 |some x=>x.1
 |none=>s.size
theorem rE (s:ByteArray) (p:Nat) (hp:p<s.size):eB s (s.size-p) p=(p,aM s p)::eB s (s.size- (p+ (Utf8.decode s p).2)) (p+ (Utf8.decode s p).2):=by
 have hd:=eJ s p;obtain⟨m,hm⟩:∃m,s.size-p=m+1:=⟨s.size-p-1,by omega⟩;rw[hm];simp only[eB];rw[if_pos hp,rD s m (s.size- (p+ (Utf8.decode s p).2)) _ (by omega) (by omega)]
theorem vd (s:ByteArray):bV s s.size=s.size:=by
 unfold bV;rw[iu s _ _ (Nat.le_refl _)];rfl
theorem kN (s:ByteArray) (p:Nat) (hp:p<s.size) (h:cS (aM s p)=false):bV s p=p:=by
 unfold bV;rw[rE s p hp];simp[h]
theorem pI (s:ByteArray) (p:Nat) (hp:p<s.size) (h:cS (aM s p)=true):bV s p=bV s (p+ (Utf8.decode s p).2):=by
 unfold bV;rw[rE s p hp];simp[h]
theorem iV (s:ByteArray) (p:Nat) (hp:p≤s.size):p≤bV s p∧bV s p≤s.size:=by
 unfold bV;split
 ·rename_i x hx;have h2:=List.mem_of_find?_eq_some hx;exact⟨rA s _ _ x h2,Nat.le_of_lt (rq s _ _ x h2)⟩
 ·exact⟨hp,Nat.le_refl _⟩
theorem xu (s:ByteArray) (p:Nat) (hp:p<s.size):p<bV s p↔cS (aM s p)=true:=by
 constructor
 ·intro h;cases hn:cS (aM s p)
  ·rw[kN s p hp hn] at h;omega
  ·rfl
 ·intro h;rw[pI s p hp h];have:=eJ s p;have:=(iV s _ (kL s p hp)).1;omega
theorem pJ (s:ByteArray):s.extract 0 s.size=s:=by simp
theorem nD (s:ByteArray):fR s 0=bV s 0:=by
 unfold fR;rw[pJ,Nat.zero_add];rfl
theorem jl (s:ByteArray):codeFrom s 0=aM s 0:=by unfold codeFrom;rw[pJ]
theorem uh {s:ByteArray} {k n:Nat} {r:Int} (h:fQ s k r n):(n=0∧aM s k<0)∨(n=(Utf8.decode s k).2∧aM s k=r∧0≤r):=by
 rcases h with⟨h1,h2⟩|⟨h1,h2,h3⟩
 ·refine .inl ⟨h2,?_⟩;unfold aM;rw[if_pos h1];omega
 ·refine .inr ⟨h3,?_,by omega⟩;unfold aM;rw[h1];simp[h2]
theorem ui (s:ByteArray) (k:Nat) (hk:k<s.size) (h0:0≤aM s k) (h:aM s k<192):cS (aM s k)=(kM ((s[k]'hk).toNat:Int)||cR ((s[k]'hk).toNat:Int)||((s[k]'hk).toNat:Int)==95):=by
 have hb:=l4 s k 0 hk;have hl:=dt s k 0;have hb':((s[k]'hk).toNat:Int)=by' s k 0:=hb;rw[hb'];by_cases h1:by' s k 0<128
 ·have hd:=Pu s k h1;have hl:fP s k=false:=by
   cases hq:fP s k
   ·rfl
   ·have:=(nA s k hk).1 hq;rw[hd] at this;injection this;omega
  have:aM s k=by' s k 0:=by unfold aM;rw[hl,hd];rfl
  rw[this];unfold cS eR kM cR;rw[Bool.eq_iff_iff];simp;omega
 ·have hd:(by' s k 0<192∨248≤by' s k 0)∨192≤by' s k 0∧by' s k 0<248:=by omega
  have e1:kM (by' s k 0)=false:=by unfold kM;simp;omega
  have e2:cR (by' s k 0)=false:=by unfold cR;simp;omega
  have e3:((by' s k 0:Int)==95)=false:=by simp;omega
  rw[e1,e2,e3];have Pv:128≤aM s k:=by
   unfold aM at h0⊢;split at h0
   ·omega
   ·rename_i hq;rw[if_neg hq];have h0:=dt s k 0;have h2:=dt s k 1;have h3:=dt s k 2;have h4:=dt s k 3;simp only[by',Nat.add_zero] at*;unfold Utf8.decode;simp only[Nat.add_zero]
    repeat' split
    all_goals simp_all [Utf8.runeError,Utf8.valid]
    all_goals omega
  unfold cS eR cR;rw[Bool.eq_iff_iff];simp;omega
theorem vn {P:Program} {n:Nat} {ops} {b:Bool} {y:Code} {Q:Exit→Act→World→Prop} {a:Act} {w:World} (R:Act→World→Prop)
  (h1:∀K:Act→World→Prop,(∀a w,R a w→K a w)→(Code.region n ops b).wp P (Exit.then K Q) a w) (h2:∀a w,R a w→y.wp P Q a w):(Code.seq (Code.region n ops b) y).wp P Q a w:=
 wp_seq_k fun K hK=>h1 K (fun a w h=>hK a w (h2 a w h))
theorem DI (s:ByteArray) (p:Nat) (w:World) (hs:s.size≤1048576) (hp:p≤s.size):Calls Tryz.prog 186 #[.string s,.int .i64 p] w fun e w'=>e=.returned (.int .i64 (bV s p:Nat))∧w'=w:=by
 go_enter Tryz.func186,Tryz.ntmps186;go_wp2_with fail
 go_loopw [1] (fun x wr=>∃k:Nat,x=.int .i64 k∧p≤k∧k≤s.size∧bV s k=bV s p∧wr=w) (fun x _=>s.size- (intOf x).toNat)
 case atStart=>exact⟨p,rfl,Nat.le_refl _,hp,rfl,rfl⟩
 case round=>
  obtain⟨k,rfl,hk,hk2,hst,hw⟩:=hrel;subst wr;have Pz:=af hst;clear hst;by_cases hlt:k<s.size;rotate_left
  ·obtain rfl:k=s.size:=by omega
   go_wp2_with fail
   go_ret;exact⟨fy (by rw[←Pz.out,vd]),rfl⟩
  have bT:=ry s k w hs hlt;have Um:=l7 ((s[k]'hlt).toNat:Int) w;have Un:=qE ((s[k]'hlt).toNat:Int) w;refine wp_seq_k fun K1 h1=>?_
  have oD:=af h1;clear h1;go_wp2_with fail
  refine oD.out _ _ (wp_block ?_);clear oD K1;refine wp_seq_k fun K1 h1=>?_
  have oD:=af h1;clear h1;go_wp2_with fail
  refine bT.mono ?_;rintro e w2 ⟨⟨r,n,rfl,hr⟩,hw⟩;subst w2;go_wp2_with fail
  refine oD.out _ _ ?_;clear oD K1;have mE:=kL s k hlt;have ZY:=eJ s k;have Yv:(Hid (n=0)∧aM s k<0)∨(Hid (n=(Utf8.decode s k).2)∧aM s k=r∧0≤r):=(uh hr).imp (fun h=>⟨af h.1,h.2⟩) (fun h=>⟨af h.1,h.2⟩);have Ka:=ui s k hlt;clear bT hr;refine wp_seq_k fun K2 hK2=>?_
  apply vn (fun a' w'=>w'=w∧∃(Uo:Bool) (Up Uq Ur Us Ut Uu Uv Uw Ux Uy Uz UA UB UC N8 N9 Oa Ob TR TU TV TW T4 T7 T8:Value),a'=⟨#[_,_,_,_,_,_,_,_,_,_,_,_,_,_,_,_,_,Up,Uq,Ur,Us,Ut,Uu,Uv,Uw,Ux,Uy,Uz,UA,UB,UC,N8,N9,Oa,Ob,TR,TU,TV,TW,T4,T7,T8,.bool Uo,_,_,_,_,_],[]⟩∧Uo= !cS (aM s k))
  case h1=>
   intro K hK;have hK':=af hK;clear hK;have UD:=Um;have UE:=Un;rcases Yv with⟨hn,tI⟩|⟨hn,hcr,oV⟩
   ·have wM:((n:Int)==0)=true:=by have:=hn.out;simp;omega
    have hno:cS (aM s k)=false:=by unfold cS eR cR;simp;omega
    go_wp2_with fail
    exact hK'.out _ _ ⟨rfl,_,_,_,_,_,_,_,_,_,_,_,_,_,_,_,_,_,_,_,_,_,_,_,_,_,_,rfl,by rw[hno];rfl⟩
   ·have wM:((n:Int)==0)=false:=by have:=hn.out;simp;omega
    by_cases h192:r<192
    ·have hq:=Ka (by omega) (by omega);cases h84:kM ((s[k]'hlt).toNat:Int)
     ·rw[h84] at UD hq;cases h64:cR ((s[k]'hlt).toNat:Int)
      ·rw[h64] at UE hq;go_wp2_with (first|(go_at_call 216;refine UD.mono ?_;rintro e w' ⟨rfl,hw⟩;subst w')|(go_at_call 184;refine UE.mono ?_;rintro e w' ⟨rfl,hw⟩;subst w'))
       all_goals exact hK'.out _ _ ⟨rfl,_,_,_,_,_,_,_,_,_,_,_,_,_,_,_,_,_,_,_,_,_,_,_,_,_,_,rfl,by rw[hq];simp[bne,wM];done⟩
      ·rw[h64] at UE hq;go_wp2_with (first|(go_at_call 216;refine UD.mono ?_;rintro e w' ⟨rfl,hw⟩;subst w')|(go_at_call 184;refine UE.mono ?_;rintro e w' ⟨rfl,hw⟩;subst w'))
       exact hK'.out _ _ ⟨rfl,_,_,_,_,_,_,_,_,_,_,_,_,_,_,_,_,_,_,_,_,_,_,_,_,_,_,rfl,by rw[hq];rfl⟩
     ·rw[h84] at UD hq;go_wp2_with (first|(go_at_call 216;refine UD.mono ?_;rintro e w' ⟨rfl,hw⟩;subst w')|(go_at_call 184;refine UE.mono ?_;rintro e w' ⟨rfl,hw⟩;subst w'))
      exact hK'.out _ _ ⟨rfl,_,_,_,_,_,_,_,_,_,_,_,_,_,_,_,_,_,_,_,_,_,_,_,_,_,_,rfl,by rw[hq];rfl⟩
    ·have hq:cS (aM s k)=true:=by rw[hcr];unfold cS eR;simp;omega
     go_wp2_with fail
     exact hK'.out _ _ ⟨rfl,_,_,_,_,_,_,_,_,_,_,_,_,_,_,_,_,_,_,_,_,_,_,_,_,_,_,rfl,by rw[hq];rfl⟩
  case h2=>
   intro a1 w1 hR
   dsimp only at hR
   obtain⟨rfl,Uo,Up,Uq,Ur,Us,Ut,Uu,Uv,Uw,Ux,Uy,Uz,UA,UB,UC,N8,N9,Oa,Ob,TR,TU,TV,TW,T4,T7,T8,rfl,Lc⟩:=hR;clear Um Un Ka;cases hq:cS (aM s k)
   ·have hno:=af (kN s k hlt hq);obtain rfl:Uo=true:=by rw[Lc,hq];rfl
    clear Lc Yv;go_wp2_with fail
    go_ret;exact⟨fy (by rw[←Pz.out,hno.out]),rfl⟩
   ·have Yw:=af ((pI s k hlt hq).symm.trans Pz.out);obtain rfl:Uo=false:=by rw[Lc,hq];rfl
    have hn:n=(Utf8.decode s k).2:=by
     rcases Yv with⟨_,tI⟩|⟨hn,_,_⟩
     ·unfold cS eR cR at hq;simp at hq;omega
     ·exact hn.out
    subst hn;clear Lc Yv;go_wp2_with fail
    go_roundw
    case rel=>exact⟨k+ (Utf8.decode s k).2,by go_num,by omega,by omega,Yw.out,trivial⟩
    case measure=>simp[intOf];omega
end
section
open Go.Shelf
attribute [local go_sem] Oper.semAt_some
theorem xv (s:ByteArray) (p:Nat) (w:World) (hs:s.size≤1048576) (hp:p<s.size):Calls Tryz.prog 185 #[.string s,.int .i64 p] w
  fun e w'=>(∃k:Nat,e=.returned (.int .i64 k)∧p<k∧k≤s.size)∧w'=w:=by
 have Gi:=fun r=>qE r w
 have ZZ:=fun r=>l7 r w
 go_enter Tryz.func185,Tryz.ntmps185;refine wp_seq_k fun K1 h1=>?_
 have oD:=af h1;clear h1;go_wp2_with fail
 refine oD.out _ _ ?_;clear oD K1;apply vn (fun a' w'=>w'=w∧∃(b5:Bool) (SL SN SQ SS SU SV SX Up Uq Ur Us Ut Uu Uv Uw Ux Uy Uz UA UB UC N8 N9 Oa Ob:Value),a'=⟨#[_,_,_,_,_,.bool b5,_,_,_,_,SL,SN,SQ,SS,SU,SV,SX,Up,Uq,Ur,Us,Ut,Uu,Uv,Uw,Ux,Uy,Uz,UA,UB,UC,N8,N9,Oa,Ob,_,_,_,_,_,_,_,_,_,_,_,_,_,_,_,_,_,_,_,_,_,_,_,_,_,_,_,_,_,_,_,_,_,_,_,_,_,_,_,_,_,_,_,_,_,_,_,_,_,_,_,_,_,_,_,_,_,_,_,_,_,_,_,_,_,_],[]⟩)
 case h1=>
  intro K hK;have hK':=af hK;clear hK;go_wp2_with fail
  all_goals exact hK'.out _ _ ⟨rfl,_,_,_,_,_,_,_,_,_,_,_,_,_,_,_,_,_,_,_,_,_,_,_,_,_,_,rfl⟩
 case h2=>
  intro a1 w1 hR
  dsimp only at hR
  obtain⟨gO,b5,SL,SN,SQ,SS,SU,SV,SX,Up,Uq,Ur,Us,Ut,Uu,Uv,Uw,Ux,Uy,Uz,UA,UB,UC,N8,N9,Oa,Ob,rfl⟩:=hR;subst w1;cases b5
  all_goals
   go_wp2_with fail
   go_loopw [6] (fun x wr=>∃k:Nat,x=.int .i64 k∧p<k∧k≤s.size∧wr=w) (fun x _=>s.size- (intOf x).toNat)
   case atStart=>exact⟨p+1,by go_num,by omega,by omega,rfl⟩
   case round=>
    obtain⟨k,rfl,hk,hk2,hw⟩:=hrel;subst wr;by_cases hlt:k<s.size;rotate_left
    ·go_wp2_with fail
     go_ret;exact⟨⟨k,rfl,by omega,hk2⟩,rfl⟩
    refine wp_seq_k fun K1 h1=>?_
    have oD:=af h1;clear h1;go_wp2_with fail
    refine oD.out _ _ (wp_block ?_);clear oD K1;refine wp_seq_k fun K1 h1=>?_
    have oD:=af h1;clear h1;go_wp2_with fail
    refine oD.out _ _ ?_;clear oD K1;refine wp_seq_k fun K1 h1=>?_
    have oD:=af h1;clear h1;go_wp2_with fail
    refine oD.out _ _ ?_;clear oD K1;apply vn (fun a' w'=>w'=w∧∃(b9:Bool) (x8 Ua Ub x49 x50 x51 x52 x53 x54 x55 x56 x57 x58 x59 x60 x61 x62 x63 x64 x65 x66 x67 x68:Value),a'=⟨#[_,_,_,_,_,_,_,_,x8,.bool b9,_,_,_,_,_,_,_,_,_,_,_,_,_,_,_,_,_,_,_,_,_,_,_,_,_,_,_,_,_,_,_,_,_,_,_,_,_,Ua,Ub,x49,x50,x51,x52,x53,x54,x55,x56,x57,x58,x59,x60,x61,x62,x63,x64,x65,x66,x67,x68,_,_,_,_,_,_,_,_,_,_,_,_,_,_,_,_,_,_,_,_,_,_,_,_,_,_,_,_,_,_,_,_],[]⟩)
    case h1=>
     intro K hK;have hK':=af hK;clear hK;go_wp2_with fail
     all_goals exact hK'.out _ _ ⟨rfl,_,_,_,_,_,_,_,_,_,_,_,_,_,_,_,_,_,_,_,_,_,_,_,_,rfl⟩
    case h2=>
     intro a1 w1 hR
     dsimp only at hR
     obtain⟨gO,b9,x8,Ua,Ub,x49,x50,x51,x52,x53,x54,x55,x56,x57,x58,x59,x60,x61,x62,x63,x64,x65,x66,x67,x68,rfl⟩:=hR;subst w1;refine wp_seq_k fun K2 hK2=>?_
     apply vn (fun a' w'=>w'=w∧∃(Z1:Bool) (x7 x9 T9 x69 x70 x71 x72 x73 x74 x75 x76 x77 x78 x79 x80 x81 x82 x83 x84 x85 x86 x87 x88 x89 x90 x91 x92 x93 x94 x95:Value),a'=⟨#[_,_,_,_,_,_,_,x7,_,x9,_,_,_,_,_,_,_,_,_,_,_,_,_,_,_,_,_,_,_,_,_,_,_,_,_,_,_,_,_,_,_,_,_,T9,_,_,_,_,_,_,_,_,_,_,_,_,_,_,_,_,_,_,_,_,_,_,_,_,_,x69,x70,x71,x72,x73,x74,x75,x76,x77,x78,x79,x80,x81,x82,x83,x84,x85,x86,x87,x88,x89,x90,x91,x92,x93,x94,x95,.bool Z1,_,_,_,_],[]⟩)
     case h1=>
      intro K hK;have hK':=af hK;clear hK;go_wp2_with (first|(go_at_call 184;refine(Gi _).mono ?_;rintro e w' ⟨rfl,hw⟩;subst w')|(go_at_call 216;refine(ZZ _).mono ?_;rintro e w' ⟨rfl,hw⟩;subst w'))
      all_goals exact hK'.out _ _ ⟨rfl,_,_,_,_,_,_,_,_,_,_,_,_,_,_,_,_,_,_,_,_,_,_,_,_,_,_,_,_,_,_,_,rfl⟩
     case h2=>
      intro a1 w1 hR
      dsimp only at hR
      obtain⟨gO,Z1,x7,x9,T9,x69,x70,x71,x72,x73,x74,x75,x76,x77,x78,x79,x80,x81,x82,x83,x84,x85,x86,x87,x88,x89,x90,x91,x92,x93,x94,x95,rfl⟩:=hR;subst w1;cases Z1
      ·go_wp2_with fail
       go_roundw
       case rel=>exact⟨k+1,by go_num,by omega,by omega,trivial⟩
       case measure=>simp[intOf];omega
      ·go_wp2_with fail
       go_ret;exact⟨⟨k,rfl,by omega,hk2⟩,rfl⟩
theorem Gp (s:ByteArray) (p:Nat) (q:Int) (w:World) (hs:s.size≤1048576) (hp:p<s.size):Calls Tryz.prog 217 #[.string s,.int .i64 p,.int .u8 q] w
  fun e w'=>(∃x:Int,e=.returned (.int .i64 x)∧(0≤x→∃k:Nat,x=k∧p<k∧k≤s.size))∧w'=w:=by
 go_enter Tryz.func217,Tryz.ntmps217;go_wp2_with fail
 go_loopw [7] (fun x wr=>∃k:Nat,x=.int .i64 k∧p<k∧k≤s.size+1∧wr=w) (fun x _=>s.size+2- (intOf x).toNat)
 case atStart=>exact⟨p+1,by go_num,by omega,by omega,rfl⟩
 case round=>
  obtain⟨k,rfl,hk,hk2,hw⟩:=hrel;subst wr;by_cases hlt:k<s.size;rotate_left
  ·go_wp2_with fail
   go_ret;exact⟨⟨-1,rfl,fun h=>by omega⟩,rfl⟩
  by_cases h92:(s[k]'hlt).toNat=92
  ·have hq:(((s[k]'hlt).toNat:Int)==92)=true:=by simp;omega
   go_wp2_with fail
   go_roundw
   case rel=>exact⟨k+2,by go_num,by omega,by omega,trivial⟩
   case measure=>simp[intOf];omega
  have hq:(((s[k]'hlt).toNat:Int)==92)=false:=by simp;omega
  by_cases h10:(s[k]'hlt).toNat=10
  ·have jy:(((s[k]'hlt).toNat:Int)==10)=true:=by simp;omega
   go_wp2_with fail
   go_ret;exact⟨⟨-1,rfl,fun h=>by omega⟩,rfl⟩
  have jy:(((s[k]'hlt).toNat:Int)==10)=false:=by simp;omega
  cases tK:((s[k]'hlt).toNat:Int)==q
  ·go_wp2_with fail
   go_roundw
   case rel=>exact⟨k+1,by go_num,by omega,by omega,trivial⟩
   case measure=>simp[intOf];omega
  ·go_wp2_with fail
   go_ret;exact⟨⟨k+1,by go_num,fun _=>⟨k+1,by omega,by omega,by omega⟩⟩,rfl⟩
theorem xw (c:Int) (hc:0≤c∧c<256) (w:World):Calls Tryz.prog 300 #[.int .u8 c] w fun e w'=>(∃d:Int,e=.returned (.int .i32 d)∧ -1≤d∧d≤15)∧w'=w:=by
 have h:=qE c w;go_enter Tryz.func300,Tryz.ntmps300;go_wp2_with fail
 refine h.mono ?_;rintro e w2 ⟨rfl,hw⟩;subst w2;cases hd:cR c
 ·go_wp2_with fail
  all_goals
   go_ret;exact⟨⟨_,rfl,by omega,by omega⟩,rfl⟩
 ·have:48≤c∧c≤57:=by unfold cR at hd;simpa using hd
  go_wp2_with fail
  go_ret;exact⟨⟨_,rfl,by omega,by omega⟩,rfl⟩
open Go.Shelf
attribute [local go_sem] Oper.semAt_some
theorem j0 (l:List Int) (w:World) (n:Nat) (hn:n=l.length):(convert 295 9 (.slice (some ⟨w.heap.size,0,none⟩) n n)).run Tryz.prog (w.alloc (.cells (l.map (Value.int .u8)).toArray 5 (0,0)))=.ok (.string (strOfNums l)) (w.alloc (.cells (l.map (Value.int .u8)).toArray 5 (0,0))):=
 run_convert_bytes_arg _ 295 5 Tryz.underlying295 Tryz.underlying5 w.heap.size 0 n n l hn.symm (fun i hi=>by
  have hp:(⟨w.heap.size,0+i,none⟩:Addr)=⟨w.heap.size,i,none⟩:=by rw[Nat.zero_add]
  rw[hp,World.cell?_alloc_mark];simp[List.getD,List.getElem?_eq_getElem (show i<l.length by omega)]) 9 Tryz.underlying9
theorem Oi (w:World) (a:Int):(convert 295 9 (.slice (some ⟨w.heap.size,0,none⟩) 1 1)).run Tryz.prog (w.alloc (.cells #[.int .u8 a] 5 (0,0)))=.ok (.string (strOfNums [a])) (w.alloc (.cells #[.int .u8 a] 5 (0,0))):=j0 [a] w 1 rfl
theorem UF (w:World) (a b:Int):(convert 295 9 (.slice (some ⟨w.heap.size,0,none⟩) 2 2)).run Tryz.prog (w.alloc (.cells #[.int .u8 a,.int .u8 b] 5 (0,0)))=.ok (.string (strOfNums [a,b])) (w.alloc (.cells #[.int .u8 a,.int .u8 b] 5 (0,0))):=j0 [a,b] w 2 rfl
theorem UG (w:World) (a b c:Int):(convert 295 9 (.slice (some ⟨w.heap.size,0,none⟩) 3 3)).run Tryz.prog (w.alloc (.cells #[.int .u8 a,.int .u8 b,.int .u8 c] 5 (0,0)))=.ok (.string (strOfNums [a,b,c])) (w.alloc (.cells #[.int .u8 a,.int .u8 b,.int .u8 c] 5 (0,0))):=j0 [a,b,c] w 3 rfl
theorem UH (w:World) (a b c d:Int):(convert 295 9 (.slice (some ⟨w.heap.size,0,none⟩) 4 4)).run Tryz.prog (w.alloc (.cells #[.int .u8 a,.int .u8 b,.int .u8 c,.int .u8 d] 5 (0,0)))=.ok (.string (strOfNums [a,b,c,d])) (w.alloc (.cells #[.int .u8 a,.int .u8 b,.int .u8 c,.int .u8 d] 5 (0,0))):=j0 [a,b,c,d] w 4 rfl
theorem xx (s:ByteArray) (p n:Nat) (w:World) (hs:s.size≤1048576) (hp:p≤1048580) (hn:n≤4):Calls Tryz.prog 280 #[.string s,.int .i64 p,.int .i64 n] w
  fun e w'=>(∃x:Int,e=.returned (.int .i32 x)∧(0≤x→p+n≤s.size))∧w'=w:=by
 have Z2:=fun c (hc:0≤c∧c<256)=>xw c hc w
 go_enter Tryz.func280,Tryz.ntmps280;by_cases Ul:s.size<p+n
 ·go_wp2_with fail
  go_ret;exact⟨⟨-1,rfl,fun h=>by omega⟩,rfl⟩
 go_wp2_with fail
 go_loopw [7,8] (fun x y wr=>∃(j:Nat) (v:Int),x=.int .i32 v∧y=.int .i64 j∧j≤n∧wr=w) (fun _ y _=>n- (intOf y).toNat)
 case atStart=>exact⟨0,0,rfl,rfl,Nat.zero_le _,rfl⟩
 case round=>
  obtain⟨j,v,rfl,rfl,hj,hw⟩:=hrel;subst wr;by_cases hlt:j<n;rotate_left
  ·go_wp2_with fail
   go_ret;exact⟨⟨v,rfl,fun h=>by omega⟩,rfl⟩
  have PA:p+j<s.size:=by omega
  have hc:=Z2 ((s[p+j]'PA).toNat:Int) (by have:=(s[p+j]'PA).toNat_lt;omega);go_wp2_with fail
  refine hc.mono ?_;rintro e w2 ⟨⟨d,rfl,hd1,hd2⟩,hw⟩;subst w2;by_cases hd0:d<0
  ·go_wp2_with fail
   go_ret;exact⟨⟨-1,rfl,fun h=>by omega⟩,rfl⟩
  ·go_wp2_with fail
   go_roundw
   case rel=>exact⟨j+1,_,rfl,by go_num,by omega,trivial⟩
   case measure=>simp[intOf];omega
def UJ (r:Int) (w:World) (e:Ending) (w':World):Prop:=(∃(t:ByteArray) (b:Bool),e=.returned (.tuple #[.string t,.bool b])∧t.size≤4∧(b=true→0≤r))∧Below w.heap.size w w'
theorem Ld (r:Int) (w:World):Calls Tryz.prog 281 #[.int .i32 r] w (UJ r w):=by
 have k1:=Oi;have k2:=UF;have k3:=UG;have k4:=UH;have e0:(⟨#[]⟩:ByteArray).size≤4:=by decide
 go_enter Tryz.func281,Tryz.ntmps281;by_cases h0:r<0
 ·go_wp2_with fail
  go_ret2;exact⟨⟨_,_,rfl,e0,fun h=>by cases h⟩,Below.refl _ _⟩
 by_cases h1:1114111<r
 ·go_wp2_with fail
  go_ret2;exact⟨⟨_,_,rfl,e0,fun h=>by cases h⟩,Below.refl _ _⟩
 by_cases h2:55296≤r∧r≤57343
 ·go_wp2_with fail
  go_ret2;exact⟨⟨_,_,rfl,e0,fun h=>by cases h⟩,Below.refl _ _⟩
 have hB:∀o,Below w.heap.size w (w.alloc o):=fun o=>(Below.refl _ _).alloc (Nat.le_refl _) o
 by_cases h3:r<128
 ·go_wp2_with fail
  go_ret2;exact⟨⟨_,_,rfl,by rw[strOfNums_size];simp,fun _=>by omega⟩,hB _⟩
 by_cases h4:r<2048
 ·go_wp2_with fail
  go_ret2;exact⟨⟨_,_,rfl,by rw[strOfNums_size];simp,fun _=>by omega⟩,hB _⟩
 by_cases h5:r<65536
 ·rcases Int.lt_or_le r 55296 with h6|h6
  ·go_wp2_with fail
   go_ret2;exact⟨⟨_,_,rfl,by rw[strOfNums_size];simp,fun _=>by omega⟩,hB _⟩
  ·have h7:57343<r:=by omega
   go_wp2_with fail
   go_ret2;exact⟨⟨_,_,rfl,by rw[strOfNums_size];simp,fun _=>by omega⟩,hB _⟩
 ·have h7:57343<r:=by omega
  go_wp2_with fail
  go_ret2;exact⟨⟨_,_,rfl,by rw[strOfNums_size];simp,fun _=>by omega⟩,hB _⟩
open Go.Shelf
attribute [local go_sem] Oper.semAt_some
def Gq (s:ByteArray) (p:Nat) (w:World) (e:Ending) (w':World):Prop:=
 (∃(t:ByteArray) (r en:Int) (b:Bool) (er:Int),e=.returned (.tuple #[.string t,.int .i32 r,.int .i64 en,.bool b,.int .i64 er])∧t.size≤4∧(er=0→∃n:Nat,en=n∧p<n∧n≤s.size))∧Below w.heap.size w w'
theorem oW {P:Program} {fn:Func} {a b c d x:Tmp} {fr:Act} {w:World} {Q:Ending→World→Prop} (h:fn.results=#[.tmp a,.tmp b,.tmp c,.tmp d,.tmp x]) (hd:fr.defers=[])
  (hq:Q (.returned (.tuple #[fr.tmps.getD a undef,fr.tmps.getD b undef,fr.tmps.getD c undef,fr.tmps.getD d undef,fr.tmps.getD x undef])) w):bodyPost P fn Q .ret fr w:=
 bodyPost_ret (by simp[results,h,go_sem]) hd hq
theorem DJ (s:ByteArray) (p:Nat) (w:World) (hs:s.size≤1048576) (hp:p<s.size):Calls Tryz.prog 259 #[.string s,.int .i64 p] w (Gq s p w):=by
 have k1:=Oi;have e0:(⟨#[]⟩:ByteArray).size≤4:=by decide
 have hB:∀o,Below w.heap.size w (w.alloc o):=fun o=>(Below.refl _ _).alloc (Nat.le_refl _) o
 have hc2:Calls Tryz.prog 280 #[.string s,.int .i64 ((p:Int)+2),.int .i64 2] w fun e w'=>(∃x:Int,e=.returned (.int .i32 x)∧(0≤x→p+2+2≤s.size))∧w'=w:=xx s (p+2) 2 w hs (by omega) (by omega)
 have oG:Calls Tryz.prog 280 #[.string s,.int .i64 ((p:Int)+2),.int .i64 4] w fun e w'=>(∃x:Int,e=.returned (.int .i32 x)∧(0≤x→p+2+4≤s.size))∧w'=w:=xx s (p+2) 4 w hs (by omega) (by omega)
 have vo:=fun r=>Ld r w
 go_enter Tryz.func259,Tryz.ntmps259;by_cases h1:s.size≤p+1
 ·go_wp2_with fail
  refine oW rfl rfl ?_;exact⟨⟨_,_,_,_,_,rfl,e0,fun h=>absurd h (by decide)⟩,Below.refl _ _⟩
 have qw:p+1<s.size:=by omega
 have hwr:wrap32 ((s[p+1]'qw).toNat:Int)=((s[p+1]'qw).toNat:Int):=by have:=(s[p+1]'qw).toNat_lt;unfold wrap32;omega
 by_cases hsm:(s[p+1]'qw).toNat=110∨(s[p+1]'qw).toNat=116∨(s[p+1]'qw).toNat=114∨(s[p+1]'qw).toNat=48∨(s[p+1]'qw).toNat=92∨(s[p+1]'qw).toNat=34∨(s[p+1]'qw).toNat=39
 ·rcases hsm with h|h|h|h|h|h|h
  all_goals
   have hv:((s[p+1]'qw).toNat:Int)=_:=congrArg (Nat.cast (R:=Int)) h;go_wp2_with fail
   refine oW rfl rfl ?_;exact⟨⟨_,_,_,_,_,rfl,by rw[strOfNums_size];simp,fun _=>⟨p+2,by omega,by omega,by omega⟩⟩,hB _⟩
 have q1:(((s[p+1]'qw).toNat:Int)==110)=false:=by simp;omega
 have q2:(((s[p+1]'qw).toNat:Int)==116)=false:=by simp;omega
 have q3:(((s[p+1]'qw).toNat:Int)==114)=false:=by simp;omega
 have q4:(((s[p+1]'qw).toNat:Int)==48)=false:=by simp;omega
 have q5:(((s[p+1]'qw).toNat:Int)==92)=false:=by simp;omega
 have q6:(((s[p+1]'qw).toNat:Int)==34)=false:=by simp;omega
 have q7:(((s[p+1]'qw).toNat:Int)==39)=false:=by simp;omega
 clear hsm;by_cases hx:(s[p+1]'qw).toNat=120
 ·have q8:(((s[p+1]'qw).toNat:Int)==120)=true:=by simp;omega
  have q9:(((s[p+1]'qw).toNat:Int)==117)=false:=by simp;omega
  go_wp2_with fail
  refine hc2.mono ?_;rintro e w2 ⟨⟨x,rfl,hx2⟩,hw⟩;subst w2;by_cases hx0:0≤x
  ·have:=hx2 hx0;go_wp2_with fail
   refine oW rfl rfl ?_;exact⟨⟨_,_,_,_,_,rfl,by rw[strOfNums_size];simp,fun _=>⟨p+4,by omega,by omega,by omega⟩⟩,hB _⟩
  ·go_wp2_with fail
   refine oW rfl rfl ?_;exact⟨⟨_,_,_,_,_,rfl,e0,fun h=>absurd h (by decide)⟩,Below.refl _ _⟩
 have q8:(((s[p+1]'qw).toNat:Int)==120)=false:=by simp;omega
 by_cases hu:(s[p+1]'qw).toNat=117
 ·have q9:(((s[p+1]'qw).toNat:Int)==117)=true:=by simp;omega
  go_wp2_with fail
  refine oG.mono ?_;rintro e w2 ⟨⟨x,rfl,hx2⟩,hw⟩;subst w2;have UK:=af (vo x);go_wp2_with fail
  refine UK.mono ?_;rintro e w3 ⟨⟨t,b,rfl,ht,dT⟩,hb⟩;have hb':=af hb;have Fx:=af ht;have Z3:=af dT;clear hb ht dT;cases b
  ·go_wp2_with fail
   refine oW rfl rfl ?_;exact⟨⟨_,_,_,_,_,rfl,e0,fun h=>absurd h (by decide)⟩,hb'.out⟩
  ·have:=hx2 (Z3.out rfl);go_wp2_with fail
   refine oW rfl rfl ?_;exact⟨⟨_,_,_,_,_,rfl,Fx.out,fun _=>⟨p+6,by omega,by omega,by omega⟩⟩,hb'.out⟩
 have q9:(((s[p+1]'qw).toNat:Int)==117)=false:=by simp;omega
 go_wp2_with fail
 refine oW rfl rfl ?_;exact⟨⟨_,_,_,_,_,rfl,e0,fun h=>absurd h (by decide)⟩,Below.refl _ _⟩
theorem xy (s:ByteArray) (p:Nat):(Utf8.decode s p).2≤4:=by
 simp only[Utf8.decode]
 repeat' split
 all_goals simp
theorem xA (s:ByteArray) (p:Nat) (q:Int) (w:World) (hs:s.size≤1048576) (hp:p<s.size):Calls Tryz.prog 238 #[.string s,.int .i64 p,.int .u8 q] w (Gq s p w):=by
 have e0:(⟨#[]⟩:ByteArray).size≤4:=by decide
 have UL:=DJ s p w hs hp;have Yx:=ry s p w hs hp;have mE:=kL s p hp;have ZY:=eJ s p;have h4:=xy s p;go_enter Tryz.func238,Tryz.ntmps238;cases hq:((s[p]'hp).toNat:Int)==q;rotate_left
 ·go_wp2_with fail
  refine oW rfl rfl ?_;exact⟨⟨_,_,_,_,_,rfl,e0,fun _=>⟨p+1,by omega,by omega,by omega⟩⟩,Below.refl _ _⟩
 by_cases h92:(s[p]'hp).toNat=92
 ·have q1:(((s[p]'hp).toNat:Int)==92)=true:=by simp;omega
  go_wp2_with fail
  refine UL.mono ?_;rintro e w2 ⟨⟨t,r,en,b,er,rfl,ht,hen⟩,hb⟩;have H:=af (And.intro ht (And.intro hen hb));clear ht hen hb;go_wp2_with fail
  refine oW rfl rfl ?_;exact⟨⟨_,_,_,_,_,rfl,H.1,H.2.1⟩,H.2.2⟩
 have q1:(((s[p]'hp).toNat:Int)==92)=false:=by simp;omega
 clear UL;by_cases ZX:(s[p]'hp).toNat<32
 ·have q2:((s[p]'hp).toNat:Int)<32:=by omega
  go_wp2_with fail
  refine oW rfl rfl ?_;exact⟨⟨_,_,_,_,_,rfl,e0,fun h=>absurd h (by decide)⟩,Below.refl _ _⟩
 have q2:¬((s[p]'hp).toNat:Int)<32:=by omega
 by_cases h127:(s[p]'hp).toNat=127
 ·have q3:(((s[p]'hp).toNat:Int)==127)=true:=by simp;omega
  go_wp2_with fail
  refine oW rfl rfl ?_;exact⟨⟨_,_,_,_,_,rfl,e0,fun h=>absurd h (by decide)⟩,Below.refl _ _⟩
 have q3:(((s[p]'hp).toNat:Int)==127)=false:=by simp;omega
 go_wp2_with fail
 refine Yx.mono ?_;rintro e w2 ⟨⟨r,n,rfl,hr⟩,hw⟩;subst w2;rcases uh hr with⟨hn,_⟩|⟨hn,_,_⟩
 ·have wM:((n:Int)==0)=true:=by simp;omega
  have hn':=af hn;clear hn hr;go_wp2_with fail
  refine oW rfl rfl ?_;exact⟨⟨_,_,_,_,_,rfl,e0,fun h=>absurd h (by decide)⟩,Below.refl _ _⟩
 ·have wM:((n:Int)==0)=false:=by simp;omega
  have hx1:p+n≤s.size:=by omega
  have hx2:1≤n:=by omega
  have hx3:n≤4:=by omega
  clear hn hr;go_wp2_with fail
  refine oW rfl rfl ?_;exact⟨⟨_,_,_,_,_,rfl,by simp;omega,fun _=>⟨p+n,by omega,by omega,by omega⟩⟩,Below.refl _ _⟩
theorem PB (s:ByteArray) (w:World) (hs:s.size≤1048576):Calls Tryz.prog 219 #[.string s] w (Lit w):=by
 go_enter Tryz.func219,Tryz.ntmps219;by_cases h0:s.size=0
 ·have hq:((s.size:Int)==0)=true:=by rw[h0];rfl
  go_wp2_with fail
  go_ret3
  exact⟨⟨_,_,_,rfl⟩,Below.refl _ _⟩
 have hq:((s.size:Int)==0)=false:=beq_false_of_ne (by omega);have h9:0<s.size:=by omega
 by_cases SK:(s[0]'h9).toNat=39;rotate_left
 ·have jy:(((s[0]'h9).toNat:Int)!=39)=true:=by simp;omega
  go_wp2_with fail
  go_ret3
  exact⟨⟨_,_,_,rfl⟩,Below.refl _ _⟩
 have jy:(((s[0]'h9).toNat:Int)!=39)=false:=by simp;omega
 by_cases h1:s.size=1
 ·have jx:((s.size:Int)==1)=true:=by simp;omega
  go_wp2_with fail
  go_ret3
  exact⟨⟨_,_,_,rfl⟩,Below.refl _ _⟩
 have jx:((s.size:Int)==1)=false:=by simp;omega
 have hc:=af (xA s 1 39 w hs (by omega));go_wp2_with fail
 refine hc.mono ?_;rintro e w2 ⟨⟨t,r,en,b,er,rfl,ht,hen⟩,hb⟩;have hb':=af hb;clear hb hc ht;by_cases her:er=0;rotate_left
 ·have tK:(er !=0)=true:=by simpa using her
  go_wp2_with fail
  go_ret3
  exact⟨⟨_,_,_,rfl⟩,hb'.out⟩
 obtain⟨n,rfl,zU,Le⟩:=hen her;subst her;clear hen;cases b;rotate_left
 ·go_wp2_with fail
  go_ret3
  exact⟨⟨_,_,_,rfl⟩,hb'.out⟩
 by_cases hn:n<s.size
 ·go_wp2_with fail
  all_goals
   go_ret3
   exact⟨⟨_,_,_,rfl⟩,hb'.out⟩
 ·go_wp2_with fail
  all_goals
   go_ret3
   exact⟨⟨_,_,_,rfl⟩,hb'.out⟩
end
section
open Go.Shelf
attribute [local go_sem] Oper.semAt_some
theorem Lf (s:ByteArray) (w:World) (hs:s.size≤1048576):Calls Tryz.prog 218 #[.string s] w (Lit w):=by
 go_enter Tryz.func218,Tryz.ntmps218;by_cases h0:s.size=0
 ·have hq:((s.size:Int)==0)=true:=by rw[h0];rfl
  go_wp2_with fail
  go_ret3
  exact⟨⟨_,_,_,rfl⟩,Below.refl _ _⟩
 have hq:((s.size:Int)==0)=false:=beq_false_of_ne (by omega);have h9:0<s.size:=by omega
 by_cases SJ:(s[0]'h9).toNat=34;rotate_left
 ·have jy:(((s[0]'h9).toNat:Int)!=34)=true:=by simp;omega
  go_wp2_with fail
  go_ret3
  exact⟨⟨_,_,_,rfl⟩,Below.refl _ _⟩
 have jy:(((s[0]'h9).toNat:Int)!=34)=false:=by simp;omega
 go_wp2_with fail
 go_loopw [5,6] (fun x i wr=>∃(k m:Nat),i=.int .i64 k∧1≤k∧k≤s.size∧m≤4*k∧oT w.heap.size m x wr∧Below w.heap.size w wr) (fun _ i _=>s.size- (intOf i).toNat)
 case atStart=>exact⟨1,0,rfl,by omega,by omega,by omega,oT.nil _ _,Below.refl _ _⟩
 case round=>
  obtain⟨k,m,rfl,hk,hk2,hm,hrow,hb⟩:=hrel;have hR:=af hrow;have hB:=af hb;clear hrow hb;by_cases hlt:k<s.size;rotate_left
  ·go_wp2_with fail
   go_ret3
   exact⟨⟨_,_,_,rfl⟩,hB.out⟩
  have bT:=af (xA s k 34 wr hs hlt);go_wp2_with fail
  refine bT.mono ?_;rintro e w1 ⟨⟨t,r,en,b,er,rfl,ht,hen⟩,hb1⟩;have oC:=af (hR.on hb1);have iU:=af (hB.trans (hb1.mono hB.size));clear hb1 bT;by_cases her:er=0;rotate_left
  ·have tK:(er !=0)=true:=by simpa using her
   go_wp2_with fail
   go_ret3
   exact⟨⟨_,_,_,rfl⟩,iU.out⟩
  obtain⟨n,rfl,zU,Le⟩:=hen her;subst her;clear hen;cases b;rotate_left
  ·by_cases hn:n<s.size
   ·go_wp2_with fail
    go_ret3
    exact⟨⟨_,_,_,rfl⟩,iU.out⟩
   ·go_wp2_with fail
    go_ret3
    exact⟨⟨_,_,_,rfl⟩,iU.out⟩
  obtain⟨wo,hwo⟩:∃wo:World,wo=wr:=⟨_,rfl⟩;go_wp2_with fail
  go_loopw [5,12] (fun x i wr=>∃(j m2:Nat),i=.int .i64 j∧j≤t.size∧m2=m+j∧oT w.heap.size m2 x wr∧Below w.heap.size w wr) (fun _ i _=>t.size- (intOf i).toNat)
  case atStart=>exact⟨0,m,rfl,Nat.zero_le _,rfl,oC.out,iU.out⟩
  case round=>
   obtain⟨j,m2,rfl,hj,dX,hrow3,hb3⟩:=hrel;have hR3:=af hrow3;have gQ:=af hb3;clear hrow3 hb3;by_cases hjt:j<t.size
   ·obtain⟨xs,TN⟩:=hR3.out;have hO:=af TN;have qu:w.heap.size≤wr.heap.size:=gQ.size;clear TN;go_wp2_with (at_builtin;refine aG rfl _ _ 295 rfl w.heap.size 5 5 (.int .u8 0) 1 1 1 Tryz.underlying295 (by kernel_rfl) rfl (by decide) _ m2 _ [_] (0,0) hO.out rfl (by simp[Value.oneCell']) (by unfold maxLen;omega) (by omega) qu rfl rfl ?_;intro v' w' hA;have hA':=af (uX hA hO.out qu (by omega));have La:=af hA.own;clear hA)
    obtain⟨v2,m3,hv2,h2,h3,h4,h5⟩:=hA'.out
    go_roundw
    case rel=>exact⟨j+1,m2+1,by go_num,by omega,by omega,⟨_,La.out⟩,gQ.trans h4⟩
    case measure=>simp[intOf];omega
   ·go_wp2_with fail
    go_roundw
    case rel=>exact⟨n,m2,by go_num,by omega,by omega,by omega,hR3.out,gQ.out⟩
    case measure=>simp[intOf];omega
open Go.Shelf
attribute [local go_sem] Oper.semAt_some
def uj (s:ByteArray) (p k:Nat):Prop:=p≤k∧k≤s.size∧(k=p∨∀h0:0<s.size,p=0→(s[0]'h0).toNat=9∨(s[0]'h0).toNat=13∨(s[0]'h0).toNat=32∨(s[0]'h0).toNat=35)
theorem uj.step {s:ByteArray} {p k j:Nat} (h:uj s p k) (hk:k<s.size) (hj:k<j) (qC:j≤s.size) (hb:(s[k]'hk).toNat=9∨(s[k]'hk).toNat=13∨(s[k]'hk).toNat=32∨(s[k]'hk).toNat=35):uj s p j:=by
 obtain⟨h1,h2,h3⟩:=h;refine⟨by omega,qC,.inr fun h0 hp=>?_⟩;rcases h3 with rfl|h3
 ·subst hp;exact hb
 ·exact h3 h0 hp
theorem xB (s:ByteArray) (p:Nat) (w:World) (hs:s.size≤1048576) (hp:p≤s.size):Calls Tryz.prog 151 #[.string s,.int .i64 p] w
  fun e w'=>(∃k:Nat,e=.returned (.int .i64 k)∧uj s p k)∧w'=w:=by
 go_enter Tryz.func151,Tryz.ntmps151;go_wp2_with fail
 go_loopw [1] (fun x wr=>∃k:Nat,x=.int .i64 k∧uj s p k∧wr=w) (fun x _=>s.size- (intOf x).toNat)
 case atStart=>exact⟨p,rfl,⟨Nat.le_refl _,hp,.inl rfl⟩,rfl⟩
 case round=>
  obtain⟨k,rfl,hP,hw⟩:=hrel;subst wr;have hk2:k≤s.size:=hP.2.1;have UM:=af hP;clear hP;by_cases hlt:k<s.size;rotate_left
  ·go_wp2_with fail
   go_ret;exact⟨⟨k,rfl,UM.out⟩,rfl⟩
  by_cases zT:(s[k]'hlt).toNat=9∨(s[k]'hlt).toNat=13∨(s[k]'hlt).toNat=32
  ·have hN:=af (UM.step hlt (j:=k+1) (by omega) (by omega) (by omega));rcases zT with h|h|h
   all_goals
    have tJ:((s[k]'hlt).toNat:Int)=_:=congrArg (Nat.cast (R:=Int)) h;go_wp2_with fail
    go_roundw
    case rel=>exact⟨k+1,by go_num,hN.out,trivial⟩
    case measure=>simp[intOf];omega
  have jx:(((s[k]'hlt).toNat:Int)==9)=false:=by simp;omega
  have jy:(((s[k]'hlt).toNat:Int)==13)=false:=by simp;omega
  have tK:(((s[k]'hlt).toNat:Int)==32)=false:=by simp;omega
  by_cases Yr:(s[k]'hlt).toNat=35;rotate_left
  ·have Yt:(((s[k]'hlt).toNat:Int)!=35)=true:=by simp;omega
   go_wp2_with fail
   go_ret;exact⟨⟨k,rfl,UM.out⟩,rfl⟩
  have Yt:(((s[k]'hlt).toNat:Int)!=35)=false:=by simp;omega
  go_wp2_with fail
  clear jx jy tK Yt
  go_loopw [1] (fun x wr=>∃j:Nat,x=.int .i64 j∧k≤j∧j≤s.size∧(j=k→True)∧wr=w) (fun x _=>s.size- (intOf x).toNat)
  case atStart=>exact⟨k,rfl,Nat.le_refl _,hk2,fun _=>trivial,rfl⟩
  case round=>
   obtain⟨j,rfl,Pw,qC,-,hw⟩:=hrel;subst wr;by_cases Kd:j<s.size;rotate_left
   ·have hN:=af (UM.step hlt (j:=j) (by omega) (by omega) (by omega));go_wp2_with fail
    go_roundw
    case rel=>exact⟨j,rfl,hN.out,trivial⟩
    case measure=>simp[intOf];omega
   by_cases h10:(s[j]'Kd).toNat=10
   ·have hjk:k<j:=by
     rcases Nat.lt_or_ge k j with h|h
     ·exact h
     ·obtain rfl:j=k:=by omega
      omega
    have hN:=af (UM.step hlt (j:=j) hjk (by omega) (by omega));have ZW:(((s[j]'Kd).toNat:Int)!=10)=false:=by simp;omega
    go_wp2_with fail
    go_roundw
    case rel=>exact⟨j,rfl,hN.out,trivial⟩
    case measure=>simp[intOf];omega
   ·have ZW:(((s[j]'Kd).toNat:Int)!=10)=true:=by simp;omega
    go_wp2_with fail
    go_roundw
    case rel=>exact⟨j+1,by go_num,by omega,by omega,fun _=>trivial,trivial⟩
    case measure=>simp[intOf];omega
theorem zV (w:World):Calls Tryz.prog 150 #[.slice none 0 0] w fun e w'=>e=.returned (.bool true)∧w'=w:=by
 go_enter Tryz.func150,Tryz.ntmps150;go_wp2_with fail
 go_loopw [3] (fun x wr=>x=.int .i64 0∧wr=w) (fun _ _=>0)
 case atStart=>exact⟨rfl,rfl⟩
 case round=>
  obtain⟨rfl,rfl⟩:=hrel;go_wp2_with fail
  go_ret;exact⟨rfl,rfl⟩
theorem Gs (s:ByteArray) (p:Nat) (w:World):Calls Tryz.prog 188 #[.string s,.int .i64 p,.slice none 0 0] w fun e w'=>e=.returned (.string ⟨#[]⟩)∧w'=w:=by
 go_enter Tryz.func188,Tryz.ntmps188;go_wp2_with fail
 go_loopw [7,8] (fun y x wr=>y=.string ⟨#[]⟩∧x=.int .i64 0∧wr=w) (fun _ _ _=>0)
 case atStart=>exact⟨rfl,rfl,rfl⟩
 case round=>
  obtain⟨rfl,rfl,rfl⟩:=hrel;go_wp2_with fail
  go_ret;exact⟨rfl,rfl⟩
open Go.Shelf
attribute [local go_sem] Oper.semAt_some
def Z4 (s:ByteArray) (p:Nat) (kd at':Int) (txt:ByteArray) (er:Int):Prop:=kd≠1∧(er=0→at'=p∧∃n:Nat,txt=s.extract p n∧p<n∧n≤s.size)
def UQ (s:ByteArray) (p:Nat) (w:World) (e:Ending) (w':World):Prop:=
 (∃(kd at':Int) (txt:ByteArray) (en er:Int),e=.returned (.tuple #[.agg #[.int .u8 kd,.int .i64 at',.string txt],.int .i64 en,.int .i64 er])∧Z4 s p kd at' txt er)∧Below w.heap.size w w'
theorem vq {w w2:World} (h:Below w.heap.size w w2) (a b c:Value):Below w.heap.size w (((w2.setCell ⟨w.heap.size,0,none⟩ a).setCell ⟨w.heap.size,1,none⟩ b).setCell ⟨w.heap.size,2,none⟩ c):=
 ((h.setCell (by simp) _).setCell (by simp) _).setCell (by simp) _
theorem DK (s:ByteArray) (p:Nat) (w:World) (hs:s.size≤1048576) (hp:p<s.size):Calls Tryz.prog 187 #[.string s,.int .i64 p] w (UQ s p w):=by
 have hX:=af (Bx.new w #[.int .u8 0,.int .i64 0,.string ⟨#[]⟩] 222);have cF:=af ((Below.refl w.heap.size w).alloc (Nat.le_refl _) (.cells #[.int .u8 0,.int .i64 0,.string ⟨#[]⟩] 222));have bT:=af (Gp s p ((s[p]'hp).toNat:Int) (w.alloc (.cells #[.int .u8 0,.int .i64 0,.string ⟨#[]⟩] 222)) hs hp);go_enter Tryz.func187,Tryz.ntmps187;go_wp2_with fail
 refine bT.mono ?_;rintro e w2 ⟨⟨x,rfl,hx⟩,hw⟩;subst w2;have KI:=af hx;clear hx bT;by_cases hx0:x<0
 ·go_wp2_with fail
  exact bodyPost_ret (v:=.tuple #[.agg #[.int .u8 0,.int .i64 0,.string ⟨#[]⟩],.int .i64 p,.int .i64 11]) (by simp[results,Tryz.results187,go_sem]) rfl ⟨⟨_,_,_,_,_,rfl,by decide,fun h=>absurd h (by decide)⟩,by first|exact cF.out|exact vq cF.out _ _ _⟩
 obtain⟨k,hxk,dH,hk2⟩:=KI.out (by omega);subst hxk;clear KI hx0;by_cases SJ:(s[p]'hp).toNat=34
 ·have hq:(((s[p]'hp).toNat:Int)==34)=true:=by simp;omega
  have UR:=af (Lf (s.extract p k) (w.alloc (.cells #[.int .u8 0,.int .i64 0,.string ⟨#[]⟩] 222)) (by simp;omega));go_wp2_with fail
  refine UR.mono ?_;rintro e w2 ⟨⟨v,q,er,rfl⟩,hb⟩;have aL:=hX.on (ah hb) (by simp);have p0:=aL.cell 0;have p1:=aL.cell 1;have p2:=aL.cell 2;have pf:=aL.free;have hB:=af (cF.trans (hb.mono (by simp)));simp at p0 p1 p2;clear hb aL UR hq;go_wp2_with fail
  exact bodyPost_ret (v:=.tuple #[.agg #[.int .u8 3,.int .i64 p,.string (s.extract p k)],_,.int .i64 er]) (by simp[results,Tryz.results187,go_sem,p0,p1,p2,pf];rfl) rfl ⟨⟨_,_,_,_,_,rfl,by decide,fun _=>⟨rfl,k,rfl,dH,hk2⟩⟩,vq hB.out _ _ _⟩
 ·have hq:(((s[p]'hp).toNat:Int)==34)=false:=by simp;omega
  have UW:=af (PB (s.extract p k) (w.alloc (.cells #[.int .u8 0,.int .i64 0,.string ⟨#[]⟩] 222)) (by simp;omega));go_wp2_with fail
  refine UW.mono ?_;rintro e w2 ⟨⟨v,q,er,rfl⟩,hb⟩;have aL:=hX.on (ah hb) (by simp);have p0:=aL.cell 0;have p1:=aL.cell 1;have p2:=aL.cell 2;have pf:=aL.free;have hB:=af (cF.trans (hb.mono (by simp)));simp at p0 p1 p2;clear hb aL UW hq;go_wp2_with fail
  exact bodyPost_ret (v:=.tuple #[.agg #[.int .u8 4,.int .i64 p,.string (s.extract p k)],_,.int .i64 er]) (by simp[results,Tryz.results187,go_sem,p0,p1,p2,pf];rfl) rfl ⟨⟨_,_,_,_,_,rfl,by decide,fun _=>⟨rfl,k,rfl,dH,hk2⟩⟩,vq hB.out _ _ _⟩
end
end Go.Proofs.YtlabadkfkbenoaaGreatDoor
