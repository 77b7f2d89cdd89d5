/- SenseLocalsUpto: for every input whose bulk is at most 1048576 the call returns true, and nothing that was there is changed; the card. No other condition. -/
import Derived.Test.YtlabadkfkbenoaaGreatDoorCards
import Derived.Test.YtlabadkfkbenoaaGreatDoorTie
import Derived.Test.YtlabadkfkbenoaaGreatDoorKp21
import Derived.Test.YtlabadkfkbenoaaGreatDoorFacG
import Derived.Test.YtlabadkfkbenoaaGreatDoorFacH
import Derived.Deep.DeepHandedRow
import Derived.Lib.LaidTab
namespace Go.Proofs.YtlabadkfkbenoaaGreatDoor.lSenseLocalsUpto
open Go.ChangeShapes Go.WideShapes Go.ChangeAt Go.RowKit
open Go.ChangeMaps (open_string shut_string)
set_option linter.unusedVariables false
set_option linter.unusedSimpArgs false
set_option maxRecDepth 100000

theorem top (w:World) {H:Type} {enc:TypeId×Value→H} {base:Nat} {p0 p1 p2 p3 p4:List MemPlace} (v0 v1 v2 v3 v4:Value) (d0 d1 d2 d3 d4:DataW H) (hv0:Value.okWide Tryz.prog w .any base 26 v0) (h0:DataW.Trod enc Tryz.prog w 0 (fun _=>true) true 26 v0 d0 p0)
    (wT:Value.okWide Tryz.prog w .any base 3 v1) (h1:DataW.Trod enc Tryz.prog w 0 (fun _=>true) true 3 v1 d1 p1) (hv2:Value.okWide Tryz.prog w .any base 9 v2) (h2:DataW.Trod enc Tryz.prog w 0 (fun _=>true) true 9 v2 d2 p2)
    (hv3:Value.okWide Tryz.prog w .any base 9 v3) (h3:DataW.Trod enc Tryz.prog w 0 (fun _=>true) true 9 v3 d3 p3) (hv4:Value.okWide Tryz.prog w .any base 29 v4) (h4:DataW.Trod enc Tryz.prog w 0 (fun _=>true) true 29 v4 d4 p4)
    (hs0:Rows.uptoBulk d0≤1048576) (hs3:Rows.uptoBulk d3≤1048576) (zZ:Rows.uptoBulk d4≤1048576):
    Calls Tryz.prog 3 #[v0,v1,v2,v3,v4] w fun e w'=>e=.returned (.bool true)∧Below w.heap.size w w':=by
  obtain⟨u,hu,⟨ok,wf⟩,hl⟩:=Fs hv0 h0 hs0;obtain⟨fi,rfl,-,-,-⟩:=open_int Tryz.underlying3 wT h1;obtain⟨o,rfl,-,-,-⟩:=open_string Tryz.underlying9 hv2 h2;obtain⟨n,rfl,e3,-,-⟩:=open_string Tryz.underlying9 hv3 h3;have YZ:n.size≤1048576:=by
    rw[e3] at hs3;simp[Rows.uptoBulk] at hs3;have:n.data.toList.length=n.size:=by simp
    omega
  obtain⟨nm,va,vv,vl,st,mo,args,values,later,rfl,hst,hmo,hn,⟨r1,r2,r3⟩,⟨u1,u2,u3⟩,l1,l2,l3⟩:=J5 hv4 h4 zZ;exact NU u v0 fi o n nm args values later va vv vl st mo w ok wf (af hl) hu YZ r1 r2 r3 (af u1) (af u2) (by omega)

theorem contract (H:Type) (enc:TypeId×Value→H) (W:World) (base:Nat) (args:Array Value) (ds gs:List (DataW H)) (before:List MemPlace)
    (hval:∀(j:Nat) t v,Tryz.f3.params[j]? =some t→args[j]? =some v→Value.okWide Tryz.prog W .any base t v)
    (hW:DataW.Whole enc Tryz.prog Tryz.f3.params.toList Rows.senseLocalsSpec.vars false W args.toList ds gs before)
    (hk:Rows.uptoSmall H (ds++gs)=true):
    Calls Tryz.prog 3 args W fun e W'=>∃v,e=.returned v∧Rows.senseLocalsSpec.post enc Tryz.prog Tryz.f3 false true false false W args v W':=by
  have hW':=hW;obtain⟨p,q,hA0,hV,rfl,Kz,pE⟩:=hW;have hA:DataW.TrodAll enc Tryz.prog W 0 (fun _=>true) true Tryz.f3.params.toList args.toList ds p:=hA0;rw[Tryz.params3] at hA hval;obtain⟨v0,vs0,d0,ds0,p0,q0,Jc,rfl,rfl,h0,r0⟩:=trodAll_cons hA;obtain⟨v1,vs1,d1,ds1,p1,q1,rfl,rfl,rfl,h1,r1⟩:=trodAll_cons r0;obtain⟨v2,vs2,d2,ds2,p2,q2,rfl,rfl,rfl,h2,r2⟩:=trodAll_cons r1;obtain⟨v3,vs3,d3,ds3,p3,q3,rfl,rfl,rfl,h3,r3⟩:=trodAll_cons r2;obtain⟨v4,vs4,d4,ds4,p4,q4,rfl,rfl,rfl,h4,r4⟩:=trodAll_cons r3;obtain⟨rfl,rfl,rfl⟩:=trodAll_nil r4;obtain rfl:args=#[v0,v1,v2,v3,v4]:=by cases args;simp_all
  obtain⟨rfl,rfl⟩:=trodVars_none hV;have k0:=h0;have lt0:∀x∈p0,x.block<W.heap.size:=by obtain⟨m,hm⟩:=k0;exact DataW.trod_lt m _ _ _ hm
  have k1:=h1;have lt1:∀x∈p1,x.block<W.heap.size:=by obtain⟨m,hm⟩:=k1;exact DataW.trod_lt m _ _ _ hm
  have k2:=h2;have lt2:∀x∈p2,x.block<W.heap.size:=by obtain⟨m,hm⟩:=k2;exact DataW.trod_lt m _ _ _ hm
  have k3:=h3;have lt3:∀x∈p3,x.block<W.heap.size:=by obtain⟨m,hm⟩:=k3;exact DataW.trod_lt m _ _ _ hm
  have k4:=h4;have lt4:∀x∈p4,x.block<W.heap.size:=by obtain⟨m,hm⟩:=k4;exact DataW.trod_lt m _ _ _ hm
  have hB:=BQ hk;simp only[List.append_nil,List.cons_append,List.nil_append,Rows.uptoBulkAll] at hB;refine(top W v0 v1 v2 v3 v4 d0 d1 d2 d3 d4 (hval 0 26 v0 rfl rfl) h0 (hval 1 3 v1 rfl rfl) h1 (hval 2 9 v2 rfl rfl) h2 (hval 3 9 v3 rfl rfl) h3 (hval 4 29 v4 rfl rfl) h4 (by omega) (by omega) (by omega)).mono fun e W' ⟨he,TH⟩=>?_
  subst he;exact⟨_,rfl,_,_,_,[],_,[],hW',trodAll_mk1 (shut_bool Tryz.underlying4 _),(trodAll_cons_mk (Below.trod laidOut (by kernel_rfl) (of_decide_eq_true (by kernel_rfl)) k0 TH lt0) (trodAll_cons_mk (Below.trod laidOut (by kernel_rfl) (of_decide_eq_true (by kernel_rfl)) k1 TH lt1) (trodAll_cons_mk (Below.trod laidOut (by kernel_rfl) (of_decide_eq_true (by kernel_rfl)) k2 TH lt2) (trodAll_cons_mk (Below.trod laidOut (by kernel_rfl) (of_decide_eq_true (by kernel_rfl)) k3 TH lt3) (trodAll_cons_mk (Below.trod laidOut (by kernel_rfl) (of_decide_eq_true (by kernel_rfl)) k4 TH lt4) trodAll_mk0))))),rfl,TH.frame _,fun h=>by cases h⟩

def lay1:Obj→Obj
  | .cells _ t frozen=>.cells (Go.Pinned.utf8FirstZ.map fun(n:Nat)=>Value.int .u8 (n:Int)).toArray t frozen
  |o=>o
def lay2:Obj→Obj
  | .cells _ t frozen=>.cells ([128,191,160,191,128,159,144,191,128,143,0,0,0,0,0,0,0,0,0,0,0,0,0,0,0,0,0,0,0,0,0,0].map fun(n:Int)=>Value.int .u8 n).toArray t frozen
  |o=>o
/-- A world for the witness: the two tables hold what the program's text lays. -/
noncomputable def pG (os:Os):World:={World.holding Tryz.prog os ⟨#[],#[],[]⟩ with heap:=((World.holding Tryz.prog os ⟨#[],#[],[]⟩).heap.modify 2 lay1).modify 3 lay2}
theorem J6 (os:Os):laidMet Tryz.prog Rows.senseLocalsUptoRow.laid ((pG os).forCall (fun _ _=>0) ⟨#[],#[.agg #[.slice none 0 0,.slice none 0 0,.slice none 0 0],.int .i64 0,.string ⟨#[]⟩,.string ⟨#[]⟩,.agg #[.string ⟨#[]⟩,.slice none 0 0,.int .i64 0,.int .i64 0,.slice none 0 0,.slice none 0 0]],[]⟩).memory:=
  laidMet_of_run' 8 (by kernel_rfl) (by kernel_rfl)
theorem reads (os:Os) {H:Type} (enc:TypeId×Value→H):∃places,DataW.whole enc Tryz.prog ((pG os).forCall (fun _ _=>0) ⟨#[],#[.agg #[.slice none 0 0,.slice none 0 0,.slice none 0 0],.int .i64 0,.string ⟨#[]⟩,.string ⟨#[]⟩,.agg #[.string ⟨#[]⟩,.slice none 0 0,.int .i64 0,.int .i64 0,.slice none 0 0,.slice none 0 0]],[]⟩).memory Tryz.f3.params.toList Rows.senseLocalsSpec.vars false #[.agg #[.slice none 0 0,.slice none 0 0,.slice none 0 0],.int .i64 0,.string ⟨#[]⟩,.string ⟨#[]⟩,.agg #[.string ⟨#[]⟩,.slice none 0 0,.int .i64 0,.int .i64 0,.slice none 0 0,.slice none 0 0]].toList 8=some ([.agg [.nil,.nil,.nil],.lit (.int .i64 0),.lit (.string []),.lit (.string []),.agg [.lit (.string []),.nil,.lit (.int .i64 0),.lit (.int .i64 0),.nil,.nil]],[],places):=
  ⟨[],by kernel_rfl⟩

theorem lifted (os:Os) (started:os.Started) (H:Type) (enc:TypeId×Value→H) (F:Stop.Interp):
    ReturnsInHanded {} Tryz.checked os 3 .any ((Rows.OpenSpec.upto Rows.senseLocalsSpec).preRow enc Tryz.prog Tryz.f3 Rows.senseLocalsUptoRow.domain false Rows.senseLocalsUptoRow.laid) (((Rows.OpenSpec.upto Rows.senseLocalsSpec).at F).post enc Tryz.prog Tryz.f3 false true false false):=by
  obtain⟨places,hx⟩:=reads os enc;refine returnsInHanded_of_row (C:=Tryz.checked) (s:=Rows.OpenSpec.upto Rows.senseLocalsSpec) own started (by kernel_rfl) Tryz.func3
    (witness_row_at (enc:=enc) (C:=Tryz.checked) false (pG os) #[.agg #[.slice none 0 0,.slice none 0 0,.slice none 0 0],.int .i64 0,.string ⟨#[]⟩,.string ⟨#[]⟩,.agg #[.string ⟨#[]⟩,.slice none 0 0,.int .i64 0,.int .i64 0,.slice none 0 0,.slice none 0 0]] rfl (by kernel_rfl) (by kernel_rfl) (by kernel_rfl)
      (OpenSpec.preRow_of_cond 8 hx (by kernel_rfl) (fun k hk=>by cases hk;kernel_rfl) (by kernel_rfl) (J6 os))) ?_
  intro W base args ds gs before hval hW _ Yl _ _ _ _;exact contract H enc W base args ds gs before hval hW (Yl _ rfl)

theorem closed:joinedFacts Tryz.pinned.checked.prog 3 Tryz.f3 (Rows.OpenSpec.upto Rows.senseLocalsSpec).bare Rows.senseLocalsUptoRow=true:=by
  unfold joinedFacts;rw[qZ,ni,qp,uT]
  kernel_rfl

theorem over:Rows.SenseLocalsUptoSaid:=
  OpenClaim.holds_of_cond 3 Tryz.f3 rfl rfl rfl rfl rfl rfl rfl ⟨rfl,rfl,rfl,rfl,rfl⟩ rfl rfl rfl rfl rfl (by kernel_rfl) Tryz.func3 closed
    (of_decide_eq_true (by kernel_rfl)) (by unfold Func.isWrapper;first|(rw[if_pos (by decide+kernel)];kernel_rfl)|(rw[if_neg (by decide+kernel)];exact⟨rfl,rfl⟩))
    (fun os started H enc _ F=>by rw[OpenClaim.pre_eq_preRow];exact lifted os started H enc F)

theorem plain (f:FuncId) (fn:Func) (hf:Tryz.pinned.checked.prog.funcNamed "playpen/playpenlaw29.SenseLocals" =some f) (hfn:Tryz.pinned.checked.prog.funcs[f]? =some fn):
    true=Tryz.pinned.checked.prog.looks []∧∀(j:Nat) t,fn.params[j]? =some t→Tryz.pinned.checked.prog.wantsStandIn t=false:=by
  obtain rfl:f=3:=Option.some.inj ((show Tryz.prog.funcNamed "playpen/playpenlaw29.SenseLocals" =some 3 by kernel_rfl).symm.trans hf) |>.symm
  obtain rfl:fn=Tryz.f3:=(Option.some.inj (Tryz.func3.symm.trans hfn)).symm;refine⟨by kernel_rfl,fun j t ht=>?_⟩;rw[Tryz.params3] at ht;have hm:t∈[26,3,9,9,29]:=by simpa using Array.mem_of_getElem? ht
  have hall:([26,3,9,9,29].all fun u=>!Tryz.prog.wantsStandIn u)=true:=by kernel_rfl
  exact(show Tryz.prog.wantsStandIn t=false by simpa using List.all_eq_true.1 hall t hm)

theorem proved:Rows.SenseLocalsUptoCardSaid:=
  Claim7.holds_tied_plain_at .later [] _ _ _ _ over (fun _ h=>by cases h) (by kernel_rfl) (fun _ h=>by cases h) senseLocalsUpto_row_tie rfl ⟨rfl,rfl⟩ (by kernel_rfl) rfl plain (by kernel_rfl)
#print axioms proved
end Go.Proofs.YtlabadkfkbenoaaGreatDoor.lSenseLocalsUpto

