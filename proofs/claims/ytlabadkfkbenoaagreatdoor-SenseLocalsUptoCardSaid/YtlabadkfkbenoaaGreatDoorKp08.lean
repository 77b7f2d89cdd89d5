/- Walks and plain laws, merged: SenN SenO SenP EvlA. No condition. -/
import Derived.Outline
import Derived.Deep.RegionHeld3
import Derived.Test.YtlabadkfkbenoaaGreatDoorKp01
import Derived.Test.YtlabadkfkbenoaaGreatDoorKp07
import Derived.Test.YtlabadkfkbenoaaGreatDoorKp06
import Derived.Laws.ResultCell
namespace Go.Proofs.YtlabadkfkbenoaaGreatDoor
open Go.RowKit
set_option linter.unusedVariables false
set_option linter.unusedSimpArgs false
set_option maxRecDepth 100000
set_option maxHeartbeats 64000000
section
open Go.Shelf
theorem Mp.boxes {w w':World} {P q:Nat} {l:List (ByteArray×Value)} {cs:Array Value} {t:TypeId} (h:Bx w q cs t) (hm:Mp w P l) (hg:w.grownBy w' (some P)):Bx w' q cs t:=
 h.on hg (by have:=h.dF hm;simp;exact fun e=>this e.symm)
structure Km (w:World) (vs:List (ByteArray×(Int×Int))) (cs:List (ByteArray×eE)) (vb cb n:Nat) (box:Array Value) (ty:Int) (sc:Scope) (wr:World):Prop where
 b0:Bx wr n #[.map (some vb),.map (some cb)] 91
 b1:Bx wr (n+1) box 43
 b2:Bx wr (n+1+1) #[.map (some vb),.map (some cb),.slice none 0 0,.int .u8 ty,.int .i64 0,.int .i64 0,.int .i64 0] 193
 b3:Bx wr (n+1+1+1) #[.pointer (some ⟨n+1+1,0,none⟩)] 189
 mp:Mp wr (n+1+1+1+1) (Dp sc)
 below:Below n w wr
theorem Km.on {w wr w':World} {vs:List (ByteArray×(Int×Int))} {cs:List (ByteArray×eE)} {vb cb n:Nat} {box:Array Value} {ty:Int} {sc:Scope} (h:Km w vs cs vb cb n box ty sc wr) (hb:Below wr.heap.size wr w'):Km w vs cs vb cb n box ty sc w':=
 ⟨h.b0.on (ah hb) (by simp),h.b1.on (ah hb) (by simp),h.b2.on (ah hb) (by simp),h.b3.on (ah hb) (by simp),h.mp.mono hb,h.below.trans (hb.mono (by have:=h.b0.lt;omega))⟩
theorem Km.put {w wr w':World} {vs:List (ByteArray×(Int×Int))} {cs:List (ByteArray×eE)} {vb cb n:Nat} {box:Array Value} {ty:Int} {sc sc':Scope} (h:Km w vs cs vb cb n box ty sc wr) (hg:wr.grownBy w' (some (n+1+1+1+1))) (hm:Mp w' (n+1+1+1+1) (Dp sc')):Km w vs cs vb cb n box ty sc' w':=
 ⟨h.mp.boxes h.b0 hg,h.mp.boxes h.b1 hg,h.mp.boxes h.b2 hg,h.mp.boxes h.b3 hg,hm,h.below.grown hg (by have:=h.b0.lt;omega) (fun k e=>by cases e;omega)⟩
theorem Km.start {w wr:World} {vs:List (ByteArray×(Int×Int))} {cs:List (ByteArray×eE)} {vb cb:Nat} {box:Array Value} {ty:Int} {sc:Scope} (h:Km w vs cs vb cb w.heap.size box ty sc wr) (Ah:pH w vs cs vb cb):
  qK w vs cs ty vb cb (w.heap.size+1+1) [sc] 0 wr.heap.size 1 [w.heap.size+1+1+1+1] 0 0 ((wr.alloc (.cells #[.map (some (w.heap.size+1+1+1+1))] 194)).setCell ⟨w.heap.size+1+1,2,none⟩ (.slice (some ⟨wr.heap.size,0,none⟩) 1 1)):=by
 have hlt:=h.mp.lt;have hg:=aj (wr.alloc (.cells #[.map (some (w.heap.size+1+1+1+1))] 194)) ⟨w.heap.size+1+1,2,none⟩ (.slice (some ⟨wr.heap.size,0,none⟩) 1 1);have hx:=(Bx.new wr #[.map (some (w.heap.size+1+1+1+1))] 194).on hg (by simp;omega);refine⟨by simpa using(h.b2.al _).set 2 (.slice (some ⟨wr.heap.size,0,none⟩) 1 1),⟨by simp,.inr ⟨wr.heap.size,1,_,rfl,h.below.size,hx,by simp,by decide,by simp,by simp⟩⟩,by simp,?_,by simp,?_,by omega,Ah,?_⟩
 ·intro i h1 h2;simp at h1;subst i;exact(h.mp.al _).on hg (by simp;omega)
 ·intro m hm;simp at hm;omega
 ·exact(h.below.alloc (by have:=h.below.size;omega) _).setCell (by simp;omega) _
theorem Ai (vs:List (ByteArray×(Int×Int))) (cs:List (ByteArray×eE)) (vb cb:Nat) (t:Int) (f:FH) (pv bv:Value) (w:World) (Ah:pH w vs cs vb cb) (hp:Hid (∀s x,getM s cs=some x→x.params.length≤100000000))
    (tS:wW w f.params pv) (hb:dR w false none f.body bv) (hpl:f.params.length≤100000000) (tD:f.body.sz≤99999990) (kP:G9 f.body=true):
    Calls Tryz.prog 65 #[.agg #[.map (some vb),.map (some cb)],.agg #[.int .i64 t,.string f.name,pv,.int .u8 f.type,.bool f.opn,bv]] w fun e w'=>
      (∃s,e=.returned (.tuple #[.int .i64 s,.int .i64 (vG vs cs f)]))∧Below w.heap.size w w':=by
  have Eb:=af hb;obtain⟨ba,bc,rfl⟩:=hb.ay;obtain⟨pa,pb,po,pc,rfl,xF,Kn⟩:=tS;obtain⟨f0,f1,ps,f3,f4,body⟩:=f;simp only[] at xF Kn hpl tD kP Eb⊢;obtain⟨len,hlen⟩:∃m,m=ps.length:=⟨_,rfl⟩;rw[←hlen] at xF hpl⊢;have HL:=af hlen;have HP:=af Kn;have NM:=af Ah;have HS:=af (And.intro tD kP);obtain⟨R,hR⟩:∃r,r=vG vs cs ⟨f0,f1,ps,f3,f4,body⟩:=⟨_,rfl⟩;rw[←hR];have HR:=af hR;obtain⟨box,Qi⟩:∃b:Array Value,b=#[.int .i64 t,.string f1,.slice pa len pc,.int .u8 f3,.bool f4,.slice ba body.len bc]:=⟨_,rfl⟩;have LO:=af (show Km w vs cs vb cb w.heap.size box f3 [] (((((w.alloc (.cells #[.map (some vb),.map (some cb)] 91)).alloc (.cells box 43)).alloc (.cells #[.map (some vb),.map (some cb),.slice none 0 0,.int .u8 f3,.int .i64 0,.int .i64 0,.int .i64 0] 193)).alloc (.cells #[.pointer (some ⟨w.heap.size+1+1,0,none⟩)] 189)).alloc (.map #[] 0)) from
    ⟨((((Bx.new w _ _).al _).al _).al _).al _,by simpa using(((Bx.new (w.alloc (.cells #[.map (some vb),.map (some cb)] 91)) box 43).al _).al _).al _,
     by simpa using((Bx.new ((w.alloc (.cells #[.map (some vb),.map (some cb)] 91)).alloc (.cells box 43)) _ 193).al _).al _,by simpa using(Bx.new (((w.alloc (.cells #[.map (some vb),.map (some cb)] 91)).alloc (.cells box 43)).alloc (.cells #[.map (some vb),.map (some cb),.slice none 0 0,.int .u8 f3,.int .i64 0,.int .i64 0,.int .i64 0] 193)) _ 189).al _,
     by simpa[Dp,Nat.add_assoc] using Mp.new ((((w.alloc (.cells #[.map (some vb),.map (some cb)] 91)).alloc (.cells box 43)).alloc (.cells #[.map (some vb),.map (some cb),.slice none 0 0,.int .u8 f3,.int .i64 0,.int .i64 0,.int .i64 0] 193)).alloc (.cells #[.pointer (some ⟨w.heap.size+1+1,0,none⟩)] 189)),by(repeat(first|exact Below.refl _ _|refine Below.drew ?_ |refine Below.alloc ?_ (by simp<;>omega) _))⟩)
  rw[Qi] at LO;have HB:=af Qi;clear hlen Kn Ah tD kP hR hb Qi;have D6:∀w:World,(Instr.makeMap 194 none).run Tryz.prog w=.ok (.map (some w.heap.size)) (w.alloc (.map #[] 0)):=fun w=>run_makeMap 194 w
  go_enter Tryz.func65,Tryz.ntmps65;go_wp2_with fail
  go_loopw [22] (fun i wr=>∃(k:Nat) (sc:Scope),i=.int .i64 k∧k≤len∧cC vs cs ps []=cC vs cs (ps.drop k) sc∧Km w vs cs vb cb w.heap.size #[.int .i64 t,.string f1,.slice pa len pc,.int .u8 f3,.bool f4,.slice ba body.len bc] f3 sc wr) (fun i _=>len- (intOf i).toNat)
  case atStart=>exact⟨0,[],rfl,Nat.zero_le _,rfl,LO.out⟩
  case round=>
    clear LO;obtain⟨k,sc,rfl,hk,hadd,hF⟩:=hrel;have hA:=af hadd;have hFF:=af hF;clear hadd;have p2:=hF.b1.cell 2;simp at p2;by_cases gR:k=len
    · subst k
      have wO:=af (show cC vs cs ps []=.ok sc by rw[hA.out,HL.out,List.drop_length];rfl);have p5:=hF.b1.cell 5;simp at p5;have Aj:=iD body;have YK:=HS.1;have hwr:IntKind.i64.wrap ((len:Int)+ (dN body:Int))=(len:Int)+ (dN body:Int):=IntWalk.i64_in _ (by omega);clear hF;go_wp2_with fail
      refine wp_region_held_drew (S:=(Below wr.heap.size wr)) (by kernel_rfl) (Below.refl _ _).drew (fun hHeld=>?_);refine tk 0 ?_;refine tk 1 ?_ (hy:=by intro w' hSw;have q1:=ag p2 hSw;go_simp;(try with_reducible rfl));refine tk 2 ?_;refine tk 3 ?_;refine tk 4 ?_ (hy:=by intro w' hSw;have q1:=ag p5 hSw;go_simp;(try with_reducible rfl));refine tr 5 fun K hK=>?_
      go_simp;go_at_call 108;refine(LB (body.sz+1) body _ wr.drew (by omega) (by omega) (Eb.mono hFF.below.drew)).mono ?_;rintro e w2 ⟨rfl,hb2⟩;have hk:=((Below.refl wr.heap.size wr).drew).trans hb2;clear hHeld;go_wp2_with fail
      refine hK.out _ _ hk (fun hHeld=>?_);clear hK K hk
      try simp only[bK,bL,bM,bN,bO]
      refine tk 6 ?_ (hy:=by intro w' hSw;have q1:=hwr;go_simp;(try with_reducible rfl));refine tk 7 ?_;refine td ?_;have BZ:=af (hFF.on hHeld);clear hHeld hwr;by_cases Pv:(128:Int)<(len:Int)+ (dN body:Int)
      · have hh:=af (show R=296 by rw[HR.out];simp only[vG];rw[wO.out];simp only[];rw[if_pos (by have:=HL.out;omega)])
        go_wp2_with fail
        go_ret2;rw[hh.out];exact⟨⟨_,rfl⟩,BZ.below⟩
      · have c3:=BZ.b3.cell 0
        have c2:=(BZ.b2.al (.cells #[.map (some (w.heap.size+1+1+1+1))] 194)).cell 2;simp at c3 c2;have f2:=(BZ.b2.al (.cells #[.map (some (w.heap.size+1+1+1+1))] 194)).free 2;have iw:∀(fn:Fn) (first cap:Array Value) (w:World),(Instr.makeFunc fn first cap).run Tryz.prog w=.ok (.func fn first cap) w:=fun _ _ _ _=>rfl
        have CK:=af (BZ.start NM.out);have hgs:=aj (w2.alloc (.cells #[.map (some (w.heap.size+1+1+1+1))] 194)) ⟨w.heap.size+1+1,2,none⟩ (.slice (some ⟨w2.heap.size,0,none⟩) 1 1);have B1:=af ((BZ.b1.al (.cells #[.map (some (w.heap.size+1+1+1+1))] 194)).on hgs (by simp));have B3:=af ((BZ.b3.al (.cells #[.map (some (w.heap.size+1+1+1+1))] 194)).on hgs (by simp));have CC:=af CK.below;clear hgs;go_wp2_with fail
        generalize ((w2.alloc (.cells #[.map (some (w.heap.size+1+1+1+1))] 194)).setCell ⟨w.heap.size+1+1,2,none⟩ (.slice (some ⟨w2.heap.size,0,none⟩) 1 1))=W4 at*;have hE:=(Below.refl W4.heap.size W4).alloc (Nat.le_refl _) (.cells #[.int .i64 0] 32);have hCE:=CK.on hE;have B1e:=B1.al (.cells #[.int .i64 0] 32);have B3e:=B3.al (.cells #[.int .i64 0] 32);have BEe:=af (Bx.new W4 #[.int .i64 0] 32);have hT:=B3e.cell 0;have Tb:=B1e.cell 5;simp at hT Tb;have B1h:=af B1e;have B3h:=af B3e;clear B1e B3e;have cz:=af (Ag (w.heap.size+1+1+1) (w.heap.size+1) (w.heap.size+1+1) (.slice ba body.len bc) (W4.alloc (.cells #[.int .i64 0] 32)) (Post w vs cs f3 vb cb (w.heap.size+1+1) [sc] 0 (W4.alloc (.cells #[.int .i64 0] 32)) (bW (fO vs cs f3 body [sc] [] 0))) hT Tb ⟨body,Eb.mono hCE.below⟩ (af (Hl w vs cs f3 vb cb (w.heap.size+1+1) hp (body.sz+1) body _ [sc] 0 _ _ _ _ _ _ (Nat.lt_succ_self _) (by have:=HS.1;simp;omega) (by have:=HS.1;omega) HS.2 Eb.out hCE)) (af (fun e w9 hP=>by obtain⟨_,h2⟩:=hP;split at h2;exact .inr ⟨_,h2.1⟩;exact .inl h2.1)));have cy:=af (Ea ⟨w.heap.size+1+1+1,0,none⟩ ⟨w.heap.size+1,0,none⟩ W4 _ cz (af (fun e w9 hP=>by obtain⟨h1,h2⟩:=hP;refine⟨h1.kp _ _ 32 (by decide) (by decide) BEe.out,?_⟩;split at h2;exact .inr ⟨_,h2.1⟩;exact .inl h2.1)));clear hT Tb cz hE hCE;refine cy.mono ?_;clear cy;rintro e w8 ⟨e0,w7,⟨dH,hk2⟩,Vw⟩;have K7:=af (dH.kp _ _ 43 (by decide) (by decide) B1h.out);have K7b:=af (dH.kp _ _ 189 (by decide) (by decide) B3h.out);have K7e:=af (dH.kp _ _ 32 (by decide) (by decide) BEe.out);have B7:=af ((CC.alloc (by have:=CC.size;omega) (.cells #[.int .i64 0] 32)).trans dH.below);have hWs:w.heap.size≤W4.heap.size:=CC.size;have Qj:=af (fun v=>aj w7 ⟨W4.heap.size,0,none⟩ v);have hWn:w.heap.size+1+1+1<W4.heap.size:=B3.lt;cases hq:fO vs cs f3 body [sc] [] 0 with
        | error er=>
          rw[hq] at hk2;obtain⟨rfl,Hd,hst⟩:=hk2;have her:290≤er:=rK _ _ _ _ _ _ _ _ hq;rcases Vw with⟨h1,_⟩|⟨er2,h1,rfl,rfl⟩
          ·cases h1
          obtain rfl:er=er2:=by simp[nw] at h1;exact h1
          have hh:=af (show R=er by rw[HR.out];simp only[vG];rw[wO.out];simp only[];rw[if_neg (by have:=HL.out;omega),hq]);have q3:=((K7b.on (Qj.out (.int .i64 er)) (by simp;omega)).al (.cells #[.int .i64 er] 238)).cell 0;simp at q3;have q4:=ag (show(w7.setCell ⟨W4.heap.size,0,none⟩ (.int .i64 er)).cell? ⟨w.heap.size+1+1,4,none⟩=some (.int .i64 Hd) by rw[World.cell?_of_block (w:=w7) ((Qj.out (.int .i64 er)).block _ (World.block_lt_of_cell? w7 _ hst) (by simp;omega))];exact hst) ((Below.refl _ _).alloc (Nat.le_refl _) (.cells #[.int .i64 er] 238));have B8:=af ((B7.setCell (by simp;omega) (.int .i64 er) (p:=⟨W4.heap.size,0,none⟩)).alloc (by have:=B7.size;simp[World.setCell];omega) (.cells #[.int .i64 er] 238));have her2:(er==0)=false:=by simp;omega
          have her3:¬er=0:=by omega
          clear dH hst h1 B1 B3;go_wp2_with fail
          go_ret2;rw[hh.out];exact⟨⟨_,rfl⟩,B8.out⟩
        | ok u=>
          rw[hq] at hk2;obtain⟨rfl,-⟩:=hk2;rcases Vw with⟨h1,rfl,rfl⟩|⟨er2,h1,_⟩;rotate_left
          ·cases h1
          have q5:=(K7.on (Qj.out (.int .i64 0)) (by simp;omega)).cell 5;simp at q5;have B8:=af (B7.setCell (by simp;omega) (.int .i64 0) (p:=⟨W4.heap.size,0,none⟩));have cr:=af (Ae (body.sz+1) body (.slice ba body.len bc) (w7.setCell ⟨W4.heap.size,0,none⟩ (.int .i64 0)) (Nat.lt_succ_self _) (by have:=HS.1;omega) (Eb.mono B8.out));clear dH h1 B1 B3;cases hr:jH body with
          | true=>
            have hh:=af (show R=0 by rw[HR.out];simp only[vG];rw[wO.out];simp only[];rw[if_neg (by have:=HL.out;omega),hq];simp[hr]);rw[hr] at cr;go_wp2_with fail
            refine cr.mono ?_;rintro e w9 ⟨rfl,dS⟩;have B9:=af (B8.trans (dS.mono B8.size));clear dS cr;go_wp2_with fail
            go_ret2;rw[hh.out];exact⟨⟨_,rfl⟩,B9.out⟩
          | false=>
            have hh:=af (show R=295 by rw[HR.out];simp only[vG];rw[wO.out];simp only[];rw[if_neg (by have:=HL.out;omega),hq];simp[hr]);rw[hr] at cr;go_wp2_with fail
            refine cr.mono ?_;rintro e w9 ⟨rfl,dS⟩;have B9:=af (B8.trans (dS.mono B8.size));clear dS cr;go_wp2_with fail
            go_ret2;rw[hh.out];exact⟨⟨_,rfl⟩,B9.out⟩
    · have oB:k<len:=by omega
      have Ys:k<ps.length:=by have:=HL.out;omega
      have hpa2:pa=some ⟨pb,po,none⟩:=by rcases xF with q|q;(·omega);(·exact q)
      subst hpa2;obtain⟨y0,y1⟩:=HP.out k Ys;have hdr:=af (show ps.drop k=ps[k]::ps.drop (k+1) from List.drop_eq_getElem_cons Ys);generalize ps[k]=pk at y0 y1 hdr;obtain⟨nm,ty⟩:=pk;simp only[] at y0 y1;have Qk:=hF.below;have x0:=ag y0 Qk;have x1:=ag y1 Qk;have hF2:=af (hF.on ((Below.refl wr.heap.size wr).alloc (Nat.le_refl _) (.cells #[.string nm,.int .u8 ty] 46)));have hlk:=hF2.mp.lookup nk bm nm (.int .u8 0) (F4 _) true;rw[Dp,di (Value.int .u8)] at hlk;clear hF y0 y1 Qk;cases hg:getM nm sc with
      | some tt=>
        have hh:=af (show R=290 by rw[HR.out];simp only[vG];rw[hA.out,hdr.out];simp[cC,hg]);rw[hg] at hlk;simp only[Option.map_some,Option.getD_some,Option.isSome_some,if_true] at hlk;go_wp2_with fail
        go_ret2;rw[hh.out];exact⟨⟨_,rfl⟩,hF2.below⟩
      | none=>
        rw[hg] at hlk;simp only[Option.map_none,Option.getD_none,Option.isSome_none,if_true] at hlk;have cx:=af (wY nm vs cs vb cb (wr.alloc (.cells #[.string nm,.int .u8 ty] 46)) (NM.mono hF2.below));have b0:=hF2.b0.cell 0;have b0b:=hF2.b0.cell 1;simp at b0 b0b;cases ig:eQ vs cs nm with
        | true=>
          have hh:=af (show R=290 by rw[HR.out];simp only[vG];rw[hA.out,hdr.out];simp[cC,ig]);rw[ig] at cx;go_wp2_with fail
          refine cx.mono ?_;rintro e w2 ⟨rfl,hb2⟩;have BZ:=af (hF2.on hb2);clear hb2 cx;go_wp2_with fail
          go_ret2;rw[hh.out];exact⟨⟨_,rfl⟩,BZ.below⟩
        | false=>
          rw[ig] at cx;go_wp2_with fail
          refine cx.mono ?_;rintro e w2 ⟨rfl,hb2⟩;have BZ:=af (hF2.on hb2);have x0b:=ag (show(wr.alloc (.cells #[.string nm,.int .u8 ty] 46)).cell? ⟨wr.heap.size,0,none⟩=some (.string nm) by simp[(Bx.new wr #[.string nm,.int .u8 ty] 46).cell 0]) hb2;have x1b:=ag (show(wr.alloc (.cells #[.string nm,.int .u8 ty] 46)).cell? ⟨wr.heap.size,1,none⟩=some (.int .u8 ty) by simp[(Bx.new wr #[.string nm,.int .u8 ty] 46).cell 1]) hb2;clear hb2 cx;obtain⟨w3,hrun,hg3,xM,kA⟩:=BZ.mp.update nk bm nm (.int .u8 ty);have hF4:=af (BZ.put hg3 (sc':=aY nm ty sc) (by rw[Dp,←dA (Value.int .u8)];exact kA));clear hg3 xM kA;go_wp2_with fail
          exact⟨⟨k+1,aY nm ty sc,by go_num,by omega,by rw[hA.out,hdr.out];simp[cC,hg,ig],hF4.out⟩,by simp only[intOf];omega⟩
end
section
open Go.Shelf
def gV:List GH→Int
 |[]=>0
 |g::r=>(if g.len<1 then 1 else g.len)+gV r
theorem LQ (u:UT) (v:Value) (w:World) (ok:u.gs.length≤100000000) (hl:Hid (∀x∈u.gs,0≤x.len∧x.len<4294967296)) (hv:jR w false none u v):
  Calls Tryz.prog 64 #[v] w fun e w'=>e=.returned (.int .i64 (gV u.gs))∧Below w.heap.size w w':=by
 obtain⟨vg,vh,vf,rfl,hg,hh,hf⟩:=hv;obtain⟨ga,gb,go,gc,rfl,oH,tC⟩:=ei.open hg;obtain⟨ha,Ad,ho,hc,rfl,-,-⟩:=ei.open hh;obtain⟨fa,fb,fo,fc,rfl,-,-⟩:=ei.open hf;obtain⟨gs,hs,fs⟩:=u;simp only[] at*;have hG:=af tC;obtain⟨len,hlen⟩:∃m,m=gs.length:=⟨_,rfl⟩;rw[←hlen] at oH ok⊢;have HL:=af hlen;clear hg hh hf tC hlen;have cG:=af (gA.new (Below.refl w.heap.size w) #[.slice ga len gc,.slice ha hs.length hc,.slice fa fs.length fc] 26);go_enter Tryz.func64,Tryz.ntmps64;go_wp2_with fail
 go_loopw [3,9] (fun z i wr=>∃(k:Nat) (s:Int),z=.int .i64 s∧k≤len∧i=.int .i64 k∧gV gs=s+gV (gs.drop k)∧0≤s∧s≤k*4294967296∧gA w w.heap.size #[.slice ga len gc,.slice ha hs.length hc,.slice fa fs.length fc] 26 wr) (fun _ i _=>len- (intOf i).toNat)
 case atStart=>exact⟨0,0,rfl,Nat.zero_le _,rfl,by simp,by omega,by omega,cG.out⟩
 case round=>
  clear cG;obtain⟨k,s,rfl,hk,rfl,hw,hs0,hs1,hX⟩:=hrel;have aB:=af hX;have hb:=af hX.below;have hW:=af hw;clear hX hw;by_cases hlt:k<len
  ·have bH:k<gs.length:=by have:=HL.out;omega
   obtain⟨⟨t,y0,_⟩,y1,y2,y3,y4⟩:=hG.out k bH;have vH:=hl.out _ (List.getElem_mem bH);have hdr:=af (show gs.drop k=gs[k]::gs.drop (k+1) from List.drop_eq_getElem_cons bH);have x0:=ag y0 hb.out;have x1:=ag y1 hb.out;have x2:=ag y2 hb.out;have x3:=ag y3 hb.out;have x4:=ag y4 hb.out;have bG:ga=some ⟨gb,go,none⟩:=by rcases oH with q|q;(·omega);(·exact q)
   subst bG;generalize gs[k]=a at x1 x2 x3 x4 vH hdr;obtain⟨Cn,nm,ty,ln,wd⟩:=a;simp only[] at x1 x2 x3 x4 vH;have aL:=af (aB.on ((Below.refl wr.heap.size wr).alloc (Nat.le_refl _) (.cells #[.int .i64 t,.string nm,.int .u8 ty,.int .u32 ln,.int .u32 wd] 105)));clear oH y0 y1 y2 y3 y4;obtain⟨m,hm⟩:∃m,m=(if ln<1 then 1 else ln):=⟨_,rfl⟩;have fH:0≤m∧m<4294967296:=by rw[hm];split<;>omega
   have hM:=af hm;have hwr:wrap64 (s+m)=s+m:=by simp only[wrap64];omega
   have hE:=af (show gV gs=(s+m)+gV (gs.drop (k+1)) by rw[hW.out,hdr.out];simp only[gV];rw[←hM.out];omega);by_cases kt:ln<1
   ·have dX:m=1:=by rw[hm,if_pos kt]
    subst dX;clear hm;go_wp2_with fail
    exact⟨⟨k+1,s+1,by simp[hwr],by omega,by go_num,hE.out,by omega,by omega,aL.out⟩,by simp only[intOf];omega⟩
   ·have dX:m=ln:=by rw[hm,if_neg kt]
    subst dX;clear hm;go_wp2_with fail
    exact⟨⟨k+1,s+m,by simp[hwr],by omega,by go_num,hE.out,by omega,by omega,aL.out⟩,by simp only[intOf];omega⟩
  ·have hk2:k=len:=by omega
   subst k;have hE:=af (show gV gs=s by rw[hW.out,HL.out,List.drop_length];simp[gV]);go_wp2_with fail
   go_ret;rw[hE.out];exact⟨rfl,aB.below⟩
/-! ### names -/
abbrev VS:=List (ByteArray×(Int×Int))
abbrev dM:=List (ByteArray×eE)
def nM:List GH→VS→Option VS
 |[],vs=>some vs
 |g::r,vs=>if eQ vs [] g.name then none else nM r (aY g.name (g.type,g.len) vs)
def kQ:List HH→Nat→VS→dM→Option dM
 |[],_,_,cs=>some cs
 |h::r,i,vs,cs=>if eQ vs cs h.name then none else kQ r (i+1) vs (aY h.name ⟨h.params,h.type,i,-1⟩ cs)
def kR:List FH→Nat→VS→dM→Option dM
 |[],_,_,cs=>some cs
 |f::r,i,vs,cs=>if eQ vs cs f.name then none else kR r (i+1) vs (aY f.name ⟨f.params,f.type,-1,i⟩ cs)
def dJ (u:UT):Option (VS×dM):=
 match nM u.gs [] with
 |none=>none
 | some vs=>match kQ u.hs 0 vs [] with
  |none=>none
  |some c1=>match kR u.fs 0 vs c1 with
   |none=>none
   |some cs=>some (vs,cs)
theorem qs.lift {w w':World} {g:eE} {v:Value} (h:qs w g v) (hs:∀a u,w.cell? a=some u→w'.cell? a=some u):qs w' g v:=by
 obtain⟨pv,rfl,ka,kb,aD,aK,h1,h2,h3⟩:=h;exact⟨pv,rfl,ka,kb,aD,aK,h1,h2,fun i hi=>⟨hs _ _ (h3 i hi).1,hs _ _ (h3 i hi).2⟩⟩
theorem ie.lift {w w':World} {r:List (ByteArray×eE)} {l:List (ByteArray×Value)} (h:ie w r l) (hs:∀a u,w.cell? a=some u→w'.cell? a=some u):ie w' r l:=by
 induction h with
 |nil=>exact .nil
 |cons h _ ih=>exact .cons (h.lift hs) ih
structure xQ (w0 w:World) (n:Nat) (box:Array Value) (vs:VS) (cs:dM) (wr:World):Prop where
 b1:Bx wr n box 26
 b2:Bx wr (n+1) #[.map none,.map none] 91
 mv:Mp wr (n+1+1) (vs.map fun x=>(x.1,tG x.2))
 mc:∃l,Mp wr (n+1+1+1) l∧ie w0 cs l
 sub:∀a u,w0.cell? a=some u→w.cell? a=some u
 b4:Bx wr (n+1+1+1+1) #[.map (some (n+1+1)),.map (some (n+1+1+1))] 91
 below:Below n w wr
 size:n=w.heap.size
section
variable {w0 w wr w':World} {n:Nat} {box:Array Value} {vs:VS} {cs:dM}
theorem xQ.on (h:xQ w0 w n box vs cs wr) (hb:Below wr.heap.size wr w'):xQ w0 w n box vs cs w':=
 ⟨h.b1.on (ah hb) (by simp),h.b2.on (ah hb) (by simp),h.mv.mono hb,by obtain⟨l,h1,h2⟩:=h.mc;exact⟨l,h1.mono hb,h2⟩,h.sub,h.b4.on (ah hb) (by simp),h.below.trans (hb.mono (by have:=h.b1.lt;omega)),h.size⟩
theorem xQ.nm (h:xQ w0 w n box vs cs wr):pH wr vs cs (n+1+1) (n+1+1+1):=by
 obtain⟨l,h1,h2⟩:=h.mc;exact⟨h.mv,l,h1,(h2.lift h.sub).mono (h.size▸h.below)⟩
theorem xQ.gB {YL:VS} (h:xQ w0 w n box vs cs wr) (hg:wr.grownBy w' (some (n+1+1))) (hm:Mp w' (n+1+1) (YL.map fun x=>(x.1,tG x.2))):xQ w0 w n box YL cs w':=
 ⟨h.b1.on hg (by simp<;>omega),h.b2.on hg (by simp<;>omega),hm,by obtain⟨l,h1,h2⟩:=h.mc;exact⟨l,h1.on hg (by simp<;>omega),h2⟩,h.sub,h.b4.on hg (by simp<;>omega),h.below.grown hg (by have:=h.b1.lt;omega) (fun k e=>by cases e;omega),h.size⟩
theorem xQ.Vx {cs':dM} {l:List (ByteArray×Value)} (h:xQ w0 w n box vs cs wr) (hg:wr.grownBy w' (some (n+1+1+1))) (hm:Mp w' (n+1+1+1) l) (hc:ie w0 cs' l):xQ w0 w n box vs cs' w':=
 ⟨h.b1.on hg (by simp<;>omega),h.b2.on hg (by simp<;>omega),h.mv.on hg (by simp<;>omega),⟨l,hm,hc⟩,h.sub,h.b4.on hg (by simp<;>omega),h.below.grown hg (by have:=h.b1.lt;omega) (fun k e=>by cases e;omega),h.size⟩
theorem xQ.start (w0 w:World) (hs:∀a u,w0.cell? a=some u→w.cell? a=some u) (box:Array Value):xQ w0 w w.heap.size box [] [] (((((w.alloc (.cells box 26)).alloc (.cells #[.map none,.map none] 91)).alloc (.map #[] 0)).alloc (.map #[] 0)).alloc (.cells #[.map (some (w.heap.size+1+1)),.map (some (w.heap.size+1+1+1))] 91)):=
  ⟨((((Bx.new w box 26).al _).al _).al _).al _,by simpa using(((Bx.new (w.alloc (.cells box 26)) #[.map none,.map none] 91).al _).al _).al _,
   by simpa using((Mp.new ((w.alloc (.cells box 26)).alloc (.cells #[.map none,.map none] 91))).al _).al _,
   ⟨[],by simpa using(Mp.new (((w.alloc (.cells box 26)).alloc (.cells #[.map none,.map none] 91)).alloc (.map #[] 0))).al _,.nil⟩,hs,
   by simpa using Bx.new ((((w.alloc (.cells box 26)).alloc (.cells #[.map none,.map none] 91)).alloc (.map #[] 0)).alloc (.map #[] 0)) _ 91,by(repeat(first|exact Below.refl _ _|refine Below.drew ?_ |refine Below.alloc ?_ (by simp<;>omega) _)),rfl⟩
end
def FD (w:World) (u:UT) (e:Ending) (w':World):Prop:=
 ∃v0 b,e=.returned (.tuple #[v0,.bool b])∧Below w.heap.size w w'∧match dJ u with
  |none=>b=false∧v0=.agg #[.map (some (w.heap.size+1+1)),.map (some (w.heap.size+1+1+1))]
  |some (vs,cs)=>b=true∧v0=.agg #[.map (some (w.heap.size+1+1)),.map (some (w.heap.size+1+1+1))]∧pH w' vs cs (w.heap.size+1+1) (w.heap.size+1+1+1)
theorem FD.no {w w':World} {u:UT} (h:dJ u=none) (hb:Below w.heap.size w w'):FD w u (.returned (.tuple #[.agg #[.map (some (w.heap.size+1+1)),.map (some (w.heap.size+1+1+1))],.bool false])) w':=by
 unfold FD;rw[h];exact⟨_,_,rfl,hb,rfl,rfl⟩
theorem FD.yes {w w':World} {u:UT} {vs:VS} {cs:dM} (h:dJ u=some (vs,cs)) (hb:Below w.heap.size w w') (hn:pH w' vs cs (w.heap.size+1+1) (w.heap.size+1+1+1)):FD w u (.returned (.tuple #[.agg #[.map (some (w.heap.size+1+1)),.map (some (w.heap.size+1+1+1))],.bool true])) w':=by
 unfold FD;rw[h];exact⟨_,_,rfl,hb,rfl,rfl,hn⟩
def vI (w0 w:World) (u:UT) (e:Ending) (w':World):Prop:=
 FD w u e w'∧∀vs cs,dJ u=some (vs,cs)→∃l,Mp w' (w.heap.size+1+1+1) l∧ie w0 cs l
theorem vI.no {w0 w w':World} {u:UT} (h:dJ u=none) (hb:Below w.heap.size w w'):vI w0 w u (.returned (.tuple #[.agg #[.map (some (w.heap.size+1+1)),.map (some (w.heap.size+1+1+1))],.bool false])) w':=
 ⟨FD.no h hb,fun vs cs hg=>by rw[h] at hg;cases hg⟩
theorem vI.yes {w0 w w':World} {u:UT} {vs:VS} {cs:dM} (h:dJ u=some (vs,cs)) (hb:Below w.heap.size w w') (hn:pH w' vs cs (w.heap.size+1+1) (w.heap.size+1+1+1)) (hl:∃l,Mp w' (w.heap.size+1+1+1) l∧ie w0 cs l):vI w0 w u (.returned (.tuple #[.agg #[.map (some (w.heap.size+1+1)),.map (some (w.heap.size+1+1+1))],.bool true])) w':=
 ⟨FD.yes h hb hn,fun YL cs' hg=>by rw[h] at hg;cases hg;exact hl⟩
theorem kS (w:World) (q:Nat) (a b:Value) (hb:Bx w q #[a,b] 91):(loadVar 91 ⟨q,0,none⟩).run Tryz.prog w=.ok (.agg #[a,b]) w:=
 run_loadVar_row (P:=Tryz.prog) w q 91 91 _ (0,0) _ hb Tryz.underlying91 rfl (by kernel_rfl)
theorem rr (w:World) (q:Nat) (a b:Value):w.grownBy ((w.setCell ⟨q,0,none⟩ a).setCell ⟨q,1,none⟩ b) (some q):=
 have h:=((Below.refl 0 w).setCell (p:=⟨q,0,none⟩) (Nat.zero_le _) a).setCell (p:=⟨q,1,none⟩) (Nat.zero_le _) b
 ⟨h.os,h.tape,h.output,h.size,fun k hk hn=>by
  have hq:k≠q:=fun e=>hn (by rw[e])
  rw[Below.heap_setCell _ ⟨q,1,none⟩ _ k hq,Below.heap_setCell _ ⟨q,0,none⟩ _ k hq]⟩
theorem pR (w0:World) (u:UT) (v:Value) (w:World) (hs0:∀a u,w0.cell? a=some u→w.cell? a=some u) (ok:u.Ok) (hv:jR w0 false none u v):Calls Tryz.prog 40 #[v] w (vI w0 w u):=by
 have mH:=af hs0;obtain⟨vg,vh,vf,rfl,hg,hh,hf⟩:=hv;obtain⟨ga,gb,go,gc,rfl,oH,tC⟩:=ei.open hg;obtain⟨ha,Ad,ho,hc,rfl,ig,vD⟩:=ei.open hh;obtain⟨fa,fb,fo,fc,rfl,mL,pN⟩:=ei.open hf;have hG:=af tC;have hH:=af vD;have hF:=af pN;have g1:=ok.g;have g2:=ok.h;have g3:=ok.f;obtain⟨gs,hs,fs⟩:=u;simp only[] at*;obtain⟨mg,iY⟩:∃m,m=gs.length:=⟨_,rfl⟩;obtain⟨mh,j1⟩:∃m,m=hs.length:=⟨_,rfl⟩;obtain⟨mf,iw⟩:∃m,m=fs.length:=⟨_,rfl⟩;rw[←iY] at oH g1⊢;rw[←j1] at ig g2⊢;rw[←iw] at mL g3⊢;have xJ:=af iY;have xK:=af j1;have pO:=af iw;clear hg hh hf tC vD pN ok iY j1 iw;have cG:=af (xQ.start w0 w hs0 #[.slice ga mg gc,.slice ha mh hc,.slice fa mf fc]);clear hs0;have hm8:∀w:World,(Instr.makeMap 88 none).run Tryz.prog w=.ok (.map (some w.heap.size)) (w.alloc (.map #[] 0)):=fun w=>run_makeMap 88 w
 have hm9:∀w:World,(Instr.makeMap 89 none).run Tryz.prog w=.ok (.map (some w.heap.size)) (w.alloc (.map #[] 0)):=fun w=>run_makeMap 89 w
 go_enter Tryz.func40,Tryz.ntmps40;go_wp2_with fail
 clear hm8 hm9
 go_loopw [17] (fun i wr=>∃(k:Nat) (vs:VS),k≤mg∧i=.int .i64 k∧nM gs []=nM (gs.drop k) vs∧xQ w0 w w.heap.size #[.slice ga mg gc,.slice ha mh hc,.slice fa mf fc] vs [] wr) (fun i _=>mg- (intOf i).toNat)
 case atStart=>exact⟨0,[],Nat.zero_le _,rfl,rfl,cG.out⟩
 case round=>
  clear cG;obtain⟨k,vs,hk,rfl,lT,hX⟩:=hrel;have hA:=af lT;have aB:=af hX;have hb:=af hX.below;have p0:=aB.b1.cell 0;have p1:=aB.b1.cell 1;have p2:=aB.b1.cell 2;simp at p0 p1 p2;clear lT hX;by_cases hlt:k<mg
  ·have bH:k<gs.length:=by have:=xJ.out;omega
   obtain⟨⟨t,y0,_⟩,y1,y2,y3,y4⟩:=hG.out k bH;have hdr:=af (show gs.drop k=gs[k]::gs.drop (k+1) from List.drop_eq_getElem_cons bH);have x0:=ag (mH.out _ _ y0) hb.out;have x1:=ag (mH.out _ _ y1) hb.out;have x2:=ag (mH.out _ _ y2) hb.out;have x3:=ag (mH.out _ _ y3) hb.out;have x4:=ag (mH.out _ _ y4) hb.out;have bG:ga=some ⟨gb,go,none⟩:=by rcases oH with q|q;(·omega);(·exact q)
   subst bG;generalize gs[k]=a at x1 x2 x3 x4 hdr;obtain⟨Cn,nm,ty,ln,wd⟩:=a;simp only[] at x1 x2 x3 x4;clear oH y0 y1 y2 y3 y4 p0 p1 p2;have aL:=af (aB.on ((Below.refl wr.heap.size wr).alloc (Nat.le_refl _) (.cells #[.int .i64 t,.string nm,.int .u8 ty,.int .u32 ln,.int .u32 wd] 105)));have q0:=aL.b4.cell 0;have q1:=aL.b4.cell 1;simp at q0 q1;have cx:=af (wY nm _ _ _ _ _ aL.nm);cases ig:eQ vs [] nm with
   | true=>
    have hN:=af (show dJ ⟨gs,hs,fs⟩=none by unfold dJ;rw[hA.out,hdr.out];simp[nM,ig]);rw[ig] at cx;go_wp2_with fail
    refine cx.mono ?_;rintro e w2 ⟨rfl,hb2⟩;have cq:=af (aL.on hb2);clear hb2 cx q0 q1;have q0:=cq.b4.cell 0;have q1:=cq.b4.cell 1;have z0:=cq.b2.cell 0;have z1:=cq.b2.cell 1;have f0:=cq.b2.free 0;have f1:=cq.b2.free 1;simp at q0 q1 z0 z1;have lA:=af (cq.b2.set 0 (.map (some (w.heap.size+1+1))) |>.set 1 (.map (some (w.heap.size+1+1+1))));simp at lA;go_wp2_with fail
    refine bodyPost_ret (v:=.tuple #[.agg #[.map (some (w.heap.size+1+1)),.map (some (w.heap.size+1+1+1))],.bool false]) ?_ rfl ?_
    ·rw[results_cell_tmp rfl];have nN:=kS _ _ _ _ lA.out;simp[asAddr,Result.andThen,nN]
    ·exact vI.no hN.out (cq.below.grown (rr _ _ _ _) cq.below.size (fun k e=>by cases e;omega))
   |false=>
    rw[ig] at cx;go_wp2_with fail
    refine cx.mono ?_;rintro e w2 ⟨rfl,hb2⟩;have cq:=af (aL.on hb2);have n1:=ag (show(wr.alloc (.cells #[.int .i64 t,.string nm,.int .u8 ty,.int .u32 ln,.int .u32 wd] 105)).cell? ⟨wr.heap.size,1,none⟩=some (.string nm) by simp[(Bx.new wr #[.int .i64 t,.string nm,.int .u8 ty,.int .u32 ln,.int .u32 wd] 105).cell 1]) hb2;have n2:=ag (show(wr.alloc (.cells #[.int .i64 t,.string nm,.int .u8 ty,.int .u32 ln,.int .u32 wd] 105)).cell? ⟨wr.heap.size,2,none⟩=some (.int .u8 ty) by simp[(Bx.new wr #[.int .i64 t,.string nm,.int .u8 ty,.int .u32 ln,.int .u32 wd] 105).cell 2]) hb2;have n3:=ag (show(wr.alloc (.cells #[.int .i64 t,.string nm,.int .u8 ty,.int .u32 ln,.int .u32 wd] 105)).cell? ⟨wr.heap.size,3,none⟩=some (.int .u32 ln) by simp[(Bx.new wr #[.int .i64 t,.string nm,.int .u8 ty,.int .u32 ln,.int .u32 wd] 105).cell 3]) hb2;clear hb2 cx q0 q1;have q0:=cq.b4.cell 0;simp at q0;obtain⟨w3,hrun,hg3,xM,kA⟩:=cq.mv.update nt bm nm (tG (ty,ln));have gl:=af (cq.gB hg3 (by rw[←dA tG];exact kA));clear hg3 xM kA;go_wp2_with fail
    exact⟨⟨k+1,aY nm (ty,ln) vs,by omega,by go_num,by rw[hA.out,hdr.out];simp[nM,ig],gl.out⟩,by simp only[intOf];omega⟩
  ·have hk2:k=mg:=by omega
   subst k;have hV:=af (show nM gs []=some vs by rw[hA.out,xJ.out,List.drop_length];rfl);clear hA oH hG;go_wp2_with fail
   go_loopw [39] (fun i wr=>∃(k:Nat) (cs:dM),k≤mh∧i=.int .i64 k∧kQ hs 0 vs []=kQ (hs.drop k) k vs cs∧xQ w0 w w.heap.size #[.slice ga mg gc,.slice ha mh hc,.slice fa mf fc] vs cs wr) (fun i _=>mh- (intOf i).toNat)
   case atStart=>exact⟨0,[],Nat.zero_le _,rfl,rfl,aB.out⟩
   case round=>
    clear aB hb p0 p1 p2 hlt hk;obtain⟨k,cs,hk,rfl,lT,hX⟩:=hrel;have hA:=af lT;have aB:=af hX;have hb:=af hX.below;have p0:=aB.b1.cell 0;have p1:=aB.b1.cell 1;have p2:=aB.b1.cell 2;simp at p0 p1 p2;clear lT hX;by_cases hlt:k<mh
    ·have bH:k<hs.length:=by have:=xK.out;omega
     obtain⟨⟨t,y0,_⟩,y1,⟨v2,y2,lj⟩,y3,y4⟩:=hH.out k bH;have hdr:=af (show hs.drop k=hs[k]::hs.drop (k+1) from List.drop_eq_getElem_cons bH);have x0:=ag (mH.out _ _ y0) hb.out;have x1:=ag (mH.out _ _ y1) hb.out;have x2:=ag (mH.out _ _ y2) hb.out;have x3:=ag (mH.out _ _ y3) hb.out;have x4:=ag (mH.out _ _ y4) hb.out;have bG:ha=some ⟨Ad,ho,none⟩:=by rcases ig with q|q;(·omega);(·exact q)
     subst bG;generalize hs[k]=a at x1 x2 x3 x4 hdr lj;obtain⟨Cn,nm,ps,ty,nu⟩:=a;simp only[] at x1 x2 x3 x4 lj;obtain⟨va,vc,rfl⟩:=lj.ay;have Ak:=af lj.plain;clear ig y0 y1 y2 y3 y4 lj p0 p1 p2;have aL:=af (aB.on ((Below.refl wr.heap.size wr).alloc (Nat.le_refl _) (.cells #[.int .i64 t,.string nm,.slice va ps.length vc,.int .u8 ty,.int .u32 nu] 101)));have q0:=aL.b4.cell 0;have q1:=aL.b4.cell 1;simp at q0 q1;have cx:=af (wY nm _ _ _ _ _ aL.nm);cases ig:eQ vs cs nm with
     | true=>
      have hN:=af (show dJ ⟨gs,hs,fs⟩=none by unfold dJ;rw[hV.out];simp only[];rw[hA.out,hdr.out];simp[kQ,ig]);rw[ig] at cx;go_wp2_with fail
      refine cx.mono ?_;rintro e w2 ⟨rfl,hb2⟩;have cq:=af (aL.on hb2);clear hb2 cx q0 q1;have q0:=cq.b4.cell 0;have q1:=cq.b4.cell 1;have z0:=cq.b2.cell 0;have z1:=cq.b2.cell 1;have f0:=cq.b2.free 0;have f1:=cq.b2.free 1;simp at q0 q1 z0 z1;have lA:=af (cq.b2.set 0 (.map (some (w.heap.size+1+1))) |>.set 1 (.map (some (w.heap.size+1+1+1))));simp at lA;go_wp2_with fail
      refine bodyPost_ret (v:=.tuple #[.agg #[.map (some (w.heap.size+1+1)),.map (some (w.heap.size+1+1+1))],.bool false]) ?_ rfl ?_
      ·rw[results_cell_tmp rfl];have nN:=kS _ _ _ _ lA.out;simp[asAddr,Result.andThen,nN]
      ·exact vI.no hN.out (cq.below.grown (rr _ _ _ _) cq.below.size (fun k e=>by cases e;omega))
     |false=>
      rw[ig] at cx;go_wp2_with fail
      refine cx.mono ?_;rintro e w2 ⟨rfl,hb2⟩;have cq:=af (aL.on hb2);have n1:=ag (show(wr.alloc (.cells #[.int .i64 t,.string nm,.slice va ps.length vc,.int .u8 ty,.int .u32 nu] 101)).cell? ⟨wr.heap.size,1,none⟩=some (.string nm) by simp[(Bx.new wr #[.int .i64 t,.string nm,.slice va ps.length vc,.int .u8 ty,.int .u32 nu] 101).cell 1]) hb2;have n2:=ag (show(wr.alloc (.cells #[.int .i64 t,.string nm,.slice va ps.length vc,.int .u8 ty,.int .u32 nu] 101)).cell? ⟨wr.heap.size,2,none⟩=some (.slice va ps.length vc) by simp[(Bx.new wr #[.int .i64 t,.string nm,.slice va ps.length vc,.int .u8 ty,.int .u32 nu] 101).cell 2]) hb2;have n3:=ag (show(wr.alloc (.cells #[.int .i64 t,.string nm,.slice va ps.length vc,.int .u8 ty,.int .u32 nu] 101)).cell? ⟨wr.heap.size,3,none⟩=some (.int .u8 ty) by simp[(Bx.new wr #[.int .i64 t,.string nm,.slice va ps.length vc,.int .u8 ty,.int .u32 nu] 101).cell 3]) hb2;clear hb2 cx q0 q1;have q1:=cq.b4.cell 1;simp at q1;obtain⟨l,kt,hl2⟩:=cq.mc;obtain⟨w3,hrun,hg3,xM,kA⟩:=kt.update jW bm nm (.agg #[.slice va ps.length vc,.int .u8 ty,.int .i64 k,.int .i64 (-1)]);have gl:=af (cq.Vx hg3 kA (hl2.put nm (g:=⟨ps,ty,k,-1⟩) ⟨_,rfl,Ak.out⟩));clear hg3 xM kA kt hl2;go_wp2_with fail
      exact⟨⟨k+1,aY nm ⟨ps,ty,k,-1⟩ cs,by omega,by go_num,by rw[hA.out,hdr.out];simp[kQ,ig],gl.out⟩,by simp only[intOf];omega⟩
    ·have hk2:k=mh:=by omega
     subst k;have hC:=af (show kQ hs 0 vs []=some cs by rw[hA.out,xK.out,List.drop_length];rfl);clear hA ig hH;go_wp2_with fail
     go_loopw [63] (fun i wr=>∃(k:Nat) (c2:dM),k≤mf∧i=.int .i64 k∧kR fs 0 vs cs=kR (fs.drop k) k vs c2∧xQ w0 w w.heap.size #[.slice ga mg gc,.slice ha mh hc,.slice fa mf fc] vs c2 wr) (fun i _=>mf- (intOf i).toNat)
     case atStart=>exact⟨0,cs,Nat.zero_le _,rfl,rfl,aB.out⟩
     case round=>
      clear aB hb p0 p1 p2 hlt hk;obtain⟨k,c2,hk,rfl,lT,hX⟩:=hrel;have hA:=af lT;have aB:=af hX;have hb:=af hX.below;have p0:=aB.b1.cell 0;have p1:=aB.b1.cell 1;have p2:=aB.b1.cell 2;simp at p0 p1 p2;clear lT hX;by_cases hlt:k<mf
      ·have bH:k<fs.length:=by have:=pO.out;omega
       obtain⟨⟨t,y0,_⟩,y1,⟨v2,y2,lj⟩,y3,y4,⟨v5,y5,rj⟩⟩:=hF.out k bH;have hdr:=af (show fs.drop k=fs[k]::fs.drop (k+1) from List.drop_eq_getElem_cons bH);have x0:=ag (mH.out _ _ y0) hb.out;have x1:=ag (mH.out _ _ y1) hb.out;have x2:=ag (mH.out _ _ y2) hb.out;have x3:=ag (mH.out _ _ y3) hb.out;have x4:=ag (mH.out _ _ y4) hb.out;have x5:=ag (mH.out _ _ y5) hb.out;have bG:fa=some ⟨fb,fo,none⟩:=by rcases mL with q|q;(·omega);(·exact q)
       subst bG;generalize fs[k]=a at x1 x2 x3 x4 x5 hdr lj rj;obtain⟨Cn,nm,ps,ty,op,bd⟩:=a;simp only[] at x1 x2 x3 x4 x5 lj rj;obtain⟨va,vc,rfl⟩:=lj.ay;obtain⟨ba,bc,rfl⟩:=rj.ay;have Ak:=af lj.plain;clear mL y0 y1 y2 y3 y4 y5 lj rj p0 p1 p2;have aL:=af (aB.on ((Below.refl wr.heap.size wr).alloc (Nat.le_refl _) (.cells #[.int .i64 t,.string nm,.slice va ps.length vc,.int .u8 ty,.bool op,.slice ba bd.len bc] 43)));have q0:=aL.b4.cell 0;have q1:=aL.b4.cell 1;simp at q0 q1;have cx:=af (wY nm _ _ _ _ _ aL.nm);cases ig:eQ vs c2 nm with
       | true=>
        have hN:=af (show dJ ⟨gs,hs,fs⟩=none by unfold dJ;rw[hV.out];simp only[];rw[hC.out];simp only[];rw[hA.out,hdr.out];simp[kR,ig]);rw[ig] at cx;go_wp2_with fail
        refine cx.mono ?_;rintro e w2 ⟨rfl,hb2⟩;have cq:=af (aL.on hb2);clear hb2 cx q0 q1;have q0:=cq.b4.cell 0;have q1:=cq.b4.cell 1;have z0:=cq.b2.cell 0;have z1:=cq.b2.cell 1;have f0:=cq.b2.free 0;have f1:=cq.b2.free 1;simp at q0 q1 z0 z1;have lA:=af (cq.b2.set 0 (.map (some (w.heap.size+1+1))) |>.set 1 (.map (some (w.heap.size+1+1+1))));simp at lA;go_wp2_with fail
        refine bodyPost_ret (v:=.tuple #[.agg #[.map (some (w.heap.size+1+1)),.map (some (w.heap.size+1+1+1))],.bool false]) ?_ rfl ?_
        ·rw[results_cell_tmp rfl];have nN:=kS _ _ _ _ lA.out;simp[asAddr,Result.andThen,nN]
        ·exact vI.no hN.out (cq.below.grown (rr _ _ _ _) cq.below.size (fun k e=>by cases e;omega))
       |false=>
        rw[ig] at cx;go_wp2_with fail
        refine cx.mono ?_;rintro e w2 ⟨rfl,hb2⟩;have cq:=af (aL.on hb2);have n1:=ag (show(wr.alloc (.cells #[.int .i64 t,.string nm,.slice va ps.length vc,.int .u8 ty,.bool op,.slice ba bd.len bc] 43)).cell? ⟨wr.heap.size,1,none⟩=some (.string nm) by simp[(Bx.new wr #[.int .i64 t,.string nm,.slice va ps.length vc,.int .u8 ty,.bool op,.slice ba bd.len bc] 43).cell 1]) hb2;have n2:=ag (show(wr.alloc (.cells #[.int .i64 t,.string nm,.slice va ps.length vc,.int .u8 ty,.bool op,.slice ba bd.len bc] 43)).cell? ⟨wr.heap.size,2,none⟩=some (.slice va ps.length vc) by simp[(Bx.new wr #[.int .i64 t,.string nm,.slice va ps.length vc,.int .u8 ty,.bool op,.slice ba bd.len bc] 43).cell 2]) hb2;have n3:=ag (show(wr.alloc (.cells #[.int .i64 t,.string nm,.slice va ps.length vc,.int .u8 ty,.bool op,.slice ba bd.len bc] 43)).cell? ⟨wr.heap.size,3,none⟩=some (.int .u8 ty) by simp[(Bx.new wr #[.int .i64 t,.string nm,.slice va ps.length vc,.int .u8 ty,.bool op,.slice ba bd.len bc] 43).cell 3]) hb2;clear hb2 cx q0 q1;have q1:=cq.b4.cell 1;simp at q1;obtain⟨l,kt,hl2⟩:=cq.mc;obtain⟨w3,hrun,hg3,xM,kA⟩:=kt.update jW bm nm (.agg #[.slice va ps.length vc,.int .u8 ty,.int .i64 (-1),.int .i64 k]);have gl:=af (cq.Vx hg3 kA (hl2.put nm (g:=⟨ps,ty,-1,k⟩) ⟨_,rfl,Ak.out⟩));clear hg3 xM kA kt hl2;go_wp2_with fail
        exact⟨⟨k+1,aY nm ⟨ps,ty,-1,k⟩ c2,by omega,by go_num,by rw[hA.out,hdr.out];simp[kR,ig],gl.out⟩,by simp only[intOf];omega⟩
      ·have hk2:k=mf:=by omega
       subst k;have hN:=af (show dJ ⟨gs,hs,fs⟩=some (vs,c2) by unfold dJ;rw[hV.out];simp only[];rw[hC.out];simp only[];rw[hA.out,pO.out,List.drop_length];rfl);clear hA mL hF;have q0:=aB.b4.cell 0;have q1:=aB.b4.cell 1;have z0:=aB.b2.cell 0;have z1:=aB.b2.cell 1;have f0:=aB.b2.free 0;have f1:=aB.b2.free 1;simp at q0 q1 z0 z1;have lA:=af (aB.b2.set 0 (.map (some (w.heap.size+1+1))) |>.set 1 (.map (some (w.heap.size+1+1+1))));simp at lA;have hgr:=rr wr (w.heap.size+1) (.map (some (w.heap.size+1+1))) (.map (some (w.heap.size+1+1+1)));have nL:=af (aB.below.grown hgr aB.below.size (fun k e=>by cases e;omega));have hN9:=af (show pH _ vs c2 _ _ from⟨aB.mv.on hgr (by simp<;>omega),by obtain⟨l,h1,h2⟩:=aB.mc;exact⟨l,h1.on hgr (by simp<;>omega),(h2.lift aB.sub).mono nL.out⟩⟩);have hL9:=af (show∃l,Mp _ (w.heap.size+1+1+1) l∧ie w0 c2 l from by obtain⟨l,h1,h2⟩:=aB.mc;exact⟨l,h1.on hgr (by simp<;>omega),h2⟩);clear hgr;go_wp2_with fail
       refine bodyPost_ret (v:=.tuple #[.agg #[.map (some (w.heap.size+1+1)),.map (some (w.heap.size+1+1+1))],.bool true]) ?_ rfl ?_
       ·rw[results_cell_tmp rfl];have nN:=kS _ _ _ _ lA.out;simp[asAddr,Result.andThen,nN]
       ·exact vI.yes hN.out nL.out hN9.out hL9.out
theorem Al (u:UT) (v:Value) (w:World) (ok:u.Ok) (hv:jR w false none u v):Calls Tryz.prog 40 #[v] w (FD w u):=
 (pR w u v w (fun _ _ h=>h) ok hv).mono fun e w' h=>h.1
end
section
open Go.Shelf
theorem nP {wd ty:Int} {nm sg:ByteArray} {n k:Nat} (h:dv wd ty nm sg n k=true):n=k:=by
 simp only[dv,Bool.and_eq_true,beq_iff_eq] at h;omega
theorem gS {nm sg:ByteArray} {ty:Int} {n k nb ne:Nat} (h:bE nm ty sg n k nb ne=true):n=k:=by
 simp only[bE,Bool.and_eq_true,beq_iff_eq] at h;omega
theorem Ql {h:EH} {n:Nat} (hk:tN h n=true):Ou h.kind n=true:=by
 obtain⟨a0,a1,a2,a3,a4,a5⟩:=h
 show Ou a1 n=true
 by_cases h4:a1=4
 ·subst h4;rw[xG] at hk;simp only[Bool.and_eq_true,beq_iff_eq] at hk;rw[Ov];simp;omega
 by_cases h6:a1=6
 ·subst h6;rw[Cc] at hk;simp only[Bool.and_eq_true] at hk;have:=nP hk.1;rw[Ow];simp;omega
 by_cases h7:a1=7
 ·subst h7;rw[Ce] at hk;simp only[Bool.and_eq_true] at hk;have:=nP hk.1;rw[Ox];simp;omega
 simp[Ou,h4,h6,h7]
theorem Am:∀{l:az},jS l=true→GW l=true
 | .nil,_=>rfl
 | .cons h k r,hk=>by
  simp only[jS,Bool.and_eq_true] at hk;simp only[GW,Bool.and_eq_true];exact⟨⟨Am hk.1.1,Ql hk.1.2⟩,Am hk.2⟩
theorem vJ {h:SH} {n nb ne:Nat} {fk:Int} (hk:gy h n fk nb ne=true):qx h.kind n=true:=by
 obtain⟨a0,a1,a2,a3,a4⟩:=h
 show qx a1 n=true
 by_cases h1:a1=1
 ·subst h1;rw[vu] at hk;simp only[Bool.and_eq_true] at hk;have:=gS hk.1;subst this;rfl
 by_cases h2:a1=2
 ·subst h2;rw[vw] at hk;simp only[Bool.and_eq_true] at hk;have:=gS hk.1;subst this;rfl
 by_cases h3:a1=3
 ·subst h3;rw[vy] at hk;simp only[Bool.and_eq_true] at hk;have:=gS hk.1;subst this;rfl
 by_cases h4:a1=4
 ·subst h4;rw[GG] at hk;have:=gS hk;subst this;rfl
 by_cases h5:a1=5
 ·subst h5;rw[GI] at hk;have:=gS hk;subst this;rfl
 by_cases h8:a1=8
 ·subst h8;rw[GJ] at hk;have:=gS hk;subst this;rfl
 simp[qx,h1,h2,h3,h4,h5,h8]
theorem vK:∀{l:aH},gU l=true→G9 l=true
 | .nil,_=>rfl
 | .cons h x b e r,hk=>by
  simp only[gU,Bool.and_eq_true] at hk;simp only[G9,Bool.and_eq_true];exact⟨⟨⟨⟨vJ hk.1,Am hk.2.2.2.1⟩,vK hk.2.1⟩,vK hk.2.2.1⟩,vK hk.2.2.2.2⟩
theorem uo {u:UT} (h:jG u=0):ej u=true∧iP u.fs≤16384:=by
 unfold jG at h;split at h
 ·rename_i hf;refine⟨hf,?_⟩;split at h
  ·omega
  ·split at h<;>omega
 ·omega
theorem xR {l:List FH} {f:FH} (h:f∈l):f.body.sz≤iP l:=by
 induction l with
 |nil=>cases h
 |cons a r ih=>
  have e:iP (a::r)=a.body.sz+iP r:=rfl;rcases List.mem_cons.1 h with rfl|h
  ·omega
  ·have:=ih h;omega
theorem Ec {u:UT} (h:ej u=true) {f:FH} (hf:f∈u.fs):gU f.body=true:=by
 unfold ej at h;simp only[Bool.and_eq_true,List.all_eq_true] at h;have:=h.2.2 f hf;simp only[iC,Bool.and_eq_true] at this;exact this.2.2.2
/-! ### what is called has not too many parameters -/
def xS (cs:dM):Prop:=∀s x,getM s cs=some x→x.params.length≤100000000
theorem et {α:Type} (s t:ByteArray) (v:α):∀l:List (ByteArray×α),getM s (aY t v l)=if s==t then some v else getM s l
 |[]=>by
  simp only[aY];rw[cO]
 | x ::r=>by
  simp only[aY];split
  ·rename_i h;have:t=x.1:=(MapKept.bytes_beq t x.1).1 h;rw[cO,cO,this];split<;>rfl
  ·rename_i h;rw[cO,cO,et s t v r];by_cases hs:(s==x.1)=true
   ·rw[hs];have e1:s=x.1:=(MapKept.bytes_beq s x.1).1 hs;have:(s==t)=false:=by
     cases hq:s==t
     ·rfl
     ·have e2:s=t:=(MapKept.bytes_beq s t).1 hq;rw[←e2,e1] at h;exact absurd ((MapKept.bytes_beq x.1 x.1).2 rfl) h
    rw[this];simp
   ·simp only[hs];rfl
theorem xS.put {cs:dM} (h:xS cs) (t:ByteArray) (g:eE) (hg:g.params.length≤100000000):xS (aY t g cs):=by
 intro s x hx;rw[et] at hx;split at hx
 ·cases hx;exact hg
 ·exact h s x hx
theorem xT {vs:VS}:∀{l:List HH} {i:Nat} {cs c2:dM},(∀x∈l,x.params.length≤100000000)→xS cs→kQ l i vs cs=some c2→xS c2
 |[],_,_,_,_,h,e=>by cases e;exact h
 |a::r,i,cs,c2,hl,h,e=>by
  simp only[kQ] at e;split at e
  ·cases e
  ·exact xT (fun x hx=>hl x (List.mem_cons_of_mem _ hx)) (h.put _ _ (hl a (List.mem_cons_self ..))) e
theorem xU {vs:VS}:∀{l:List FH} {i:Nat} {cs c2:dM},(∀x∈l,x.params.length≤100000000)→xS cs→kR l i vs cs=some c2→xS c2
 |[],_,_,_,_,h,e=>by cases e;exact h
 |a::r,i,cs,c2,hl,h,e=>by
  simp only[kR] at e;split at e
  ·cases e
  ·exact xU (fun x hx=>hl x (List.mem_cons_of_mem _ hx)) (h.put _ _ (hl a (List.mem_cons_self ..))) e
theorem Ho {u:UT} {vs:VS} {cs:dM} (ok:u.Ok) (h:dJ u=some (vs,cs)):xS cs:=by
 unfold dJ at h;split at h
 ·cases h
 ·split at h
  ·cases h
  ·rename_i c1 h1;split at h
   ·cases h
   ·rename_i c2 h2;cases h;exact xU ok.fp (xT ok.hp (fun s x hx=>by cases hx) h1) h2
def kB (vs:VS) (cs:dM):List FH→Int
 |[]=>0
 |f::r=>if vG vs cs f=0 then kB vs cs r else vG vs cs f
def aW (u:UT):Int:=
 if jG u=0 then match dJ u with
  |none=>290
  |some (vs,cs)=>if 256<u.gs.length∨128<u.fs.length∨4096<gV u.gs then 296 else kB vs cs u.fs
 else jG u
structure LR (w:World) (n:Nat) (box:Array Value) (wr:World):Prop where
 b1:Bx wr n box 26
 b2:Bx wr (n+1) #[.map none,.map none] 91
 b3:Bx wr (n+1+1) #[.int .i64 0,.int .i64 0,.int .i64 0] 34
 b4:Bx wr (n+1+1+1) #[.map none,.map none] 91
 below:Below n w wr
theorem LR.on {w wr w':World} {n:Nat} {box:Array Value} (h:LR w n box wr) (hb:Below wr.heap.size wr w'):LR w n box w':=
 ⟨h.b1.on (ah hb) (by simp),h.b2.on (ah hb) (by simp),h.b3.on (ah hb) (by simp),h.b4.on (ah hb) (by simp),h.below.trans (hb.mono (by have:=h.b1.lt;omega))⟩
theorem LR.start (w:World) (box:Array Value):LR w w.heap.size box ((((w.alloc (.cells box 26)).alloc (.cells #[.map none,.map none] 91)).alloc (.cells #[.int .i64 0,.int .i64 0,.int .i64 0] 34)).alloc (.cells #[.map none,.map none] 91)):=
  ⟨(((Bx.new w box 26).al _).al _).al _,by simpa using((Bx.new (w.alloc (.cells box 26)) #[.map none,.map none] 91).al _).al _,
   by simpa using(Bx.new ((w.alloc (.cells box 26)).alloc (.cells #[.map none,.map none] 91)) #[.int .i64 0,.int .i64 0,.int .i64 0] 34).al _,
   by simpa using Bx.new (((w.alloc (.cells box 26)).alloc (.cells #[.map none,.map none] 91)).alloc (.cells #[.int .i64 0,.int .i64 0,.int .i64 0] 34)) _ 91,by(repeat(first|exact Below.refl _ _|refine Below.drew ?_ |refine Below.alloc ?_ (by simp<;>omega) _))⟩
theorem LR.laid {w wr:World} {n:Nat} {box:Array Value} (h:LR w n box wr) (a b x y z:Value):
  Bx (((((wr.setCell ⟨n+1,0,none⟩ a).setCell ⟨n+1,1,none⟩ b).setCell ⟨n+1+1,0,none⟩ x).setCell ⟨n+1+1,1,none⟩ y).setCell ⟨n+1+1,2,none⟩ z) (n+1) #[a,b] 91∧
  Bx (((((wr.setCell ⟨n+1,0,none⟩ a).setCell ⟨n+1,1,none⟩ b).setCell ⟨n+1+1,0,none⟩ x).setCell ⟨n+1+1,1,none⟩ y).setCell ⟨n+1+1,2,none⟩ z) (n+1+1) #[x,y,z] 34∧
  Below n w (((((wr.setCell ⟨n+1,0,none⟩ a).setCell ⟨n+1,1,none⟩ b).setCell ⟨n+1+1,0,none⟩ x).setCell ⟨n+1+1,1,none⟩ y).setCell ⟨n+1+1,2,none⟩ z):=by
 have k1:=(h.b2.set 0 a).set 1 b;simp at k1;have k2:Bx ((wr.setCell ⟨n+1,0,none⟩ a).setCell ⟨n+1,1,none⟩ b) (n+1+1) _ 34:=(h.b3.on (aj wr ⟨n+1,0,none⟩ a) (by simp)).on (aj _ ⟨n+1,1,none⟩ b) (by simp);refine⟨((k1.on (aj _ ⟨n+1+1,0,none⟩ x) (by simp)).on (aj _ ⟨n+1+1,1,none⟩ y) (by simp)).on (aj _ ⟨n+1+1,2,none⟩ z) (by simp),?_,?_⟩
 ·have k3:=((k2.set 0 x).set 1 y).set 2 z;simpa using k3
 ·exact((((h.below.setCell (by simp) a).setCell (by simp) b).setCell (by simp<;>omega) x).setCell (by simp<;>omega) y).setCell (by simp<;>omega) z
def Ko (w:World) (u:UT) (e:Ending) (w':World):Prop:=
 ∃ma mb f s,e=.returned (.tuple #[.agg #[.map ma,.map mb],.agg #[.int .i64 (aW u),.int .i64 f,.int .i64 s]])∧Below w.heap.size w w'
theorem Ko.of {w w':World} {u:UT} {a b:Option Nat} {x f s:Int} (h:aW u=x) (hb:Below w.heap.size w w'):Ko w u (.returned (.tuple #[.agg #[.map a,.map b],.agg #[.int .i64 x,.int .i64 f,.int .i64 s]])) w':=⟨_,_,_,_,by rw[h],hb⟩
theorem cH {fn:Func} {p q:Tmp} {ty tz:TypeId} (h:fn.results=#[.cell p ty,.cell q tz]) (tmps:Array Value) (P:Program) (w:World):
  (results fn tmps).run P w=
   ((asAddr (tmps.getD p undef)).run P w).andThen fun a w₁=>((loadVar ty a).run P w₁).andThen fun v w₂=>((asAddr (tmps.getD q undef)).run P w₂).andThen fun b w₃=>((loadVar tz b).run P w₃).andThen fun x w₄=>.ok (.tuple #[v,x]) w₄:=by
 simp only[results,h];simp[Sem.run_bind,Result.andThen]
theorem rL (w:World) (q:Nat) (a b c:Value) (hb:Bx w q #[a,b,c] 34):(loadVar 34 ⟨q,0,none⟩).run Tryz.prog w=.ok (.agg #[a,b,c]) w:=
 run_loadVar_row (P:=Tryz.prog) w q 34 34 _ (0,0) _ hb Tryz.underlying34 rfl (by kernel_rfl)
theorem Ed (u:UT) (v:Value) (w:World) (ok:u.Ok) (wf:u.Wf) (vH:Hid (∀x∈u.gs,0≤x.len∧x.len<4294967296)) (hv:jR w false none u v):Calls Tryz.prog 34 #[v] w (Ko w u):=by
 have hV:=af hv;obtain⟨vg,vh,vf,rfl,hg,hh,hf⟩:=hv;obtain⟨ga,gb,go,gc,rfl,oH,tC⟩:=ei.open hg;obtain⟨ha,Ad,ho,hc,rfl,ig,vD⟩:=ei.open hh;obtain⟨fa,fb,fo,fc,rfl,mL,pN⟩:=ei.open hf;have hF:=af pN;have g1:=ok.g;have g2:=ok.h;have g3:=ok.f;have OK:=af ok;have WF:=af wf;obtain⟨gs,hs,fs⟩:=u;simp only[] at*;obtain⟨mg,iY⟩:∃m,m=gs.length:=⟨_,rfl⟩;obtain⟨mh,j1⟩:∃m,m=hs.length:=⟨_,rfl⟩;obtain⟨mf,iw⟩:∃m,m=fs.length:=⟨_,rfl⟩;rw[←iY] at oH g1;rw[←j1] at ig g2;rw[←iw] at mL g3;rw[←iY,←j1,←iw] at hV;have xJ:=af iY;have xK:=af j1;have pO:=af iw;have cG:=af (LR.start w #[.slice ga mg gc,.slice ha mh hc,.slice fa mf fc]);have cc:=af (P7 ⟨gs,hs,fs⟩ _ _ ok wf (hV.mono cG.below));obtain⟨ck,kq⟩:∃c,c=jG ⟨gs,hs,fs⟩:=⟨_,rfl⟩;rw[←kq] at cc;have Oz:=af kq;rw[←iY,←j1,←iw];clear hg hh hf pN ok wf iY j1 iw oH ig tC vD kq;go_enter Tryz.func34,Tryz.ntmps34;go_wp2_with fail
 refine cc.mono ?_;rintro e w1 ⟨rfl,hb1⟩;have aB:=af (cG.on hb1);clear hb1 cc cG;by_cases hc0:ck=0;rotate_left
 ·have hs:Hid (aW ⟨gs,hs,fs⟩=ck):=af (by unfold aW;rw[←Oz.out,if_neg hc0]);have hc1:(ck==0)=false:=by simpa using hc0
  have q0:=aB.b4.cell 0;have q1:=aB.b4.cell 1;have z0:=aB.b2.cell 0;have z1:=aB.b2.cell 1;have f0:=aB.b2.free 0;have f1:=aB.b2.free 1;have y0:=aB.b3.cell 0;have y1:=aB.b3.cell 1;have y2:=aB.b3.cell 2;have e0:=aB.b3.free 0;have e1:=aB.b3.free 1;have e2:=aB.b3.free 2;simp at q0 q1 z0 z1 y0 y1 y2;have Ee:=aB.laid (.map none) (.map none) (.int .i64 ck) (.int .i64 (-1)) (.int .i64 (-1));obtain⟨l1,l2,l3⟩:=Ee;have L1:=af l1;have L2:=af l2;have L3:=af l3;clear l1 l2 l3;go_wp2_with fail
  refine bodyPost_ret (v:=.tuple #[.agg #[.map none,.map none],.agg #[.int .i64 ck,.int .i64 (-1),.int .i64 (-1)]]) ?_ rfl (Ko.of hs.out L3.out);rw[cH rfl];have kt:=kS _ _ _ _ L1.out;have hl2:=rL _ _ _ _ _ L2.out;simp[asAddr,Result.andThen,kt,hl2]
 subst hc0;have HF:=af (uo Oz.symm);have p0:=aB.b1.cell 0;have p1:=aB.b1.cell 1;have p2:=aB.b1.cell 2;simp at p0 p1 p2;have cg:=af (Al ⟨gs,hs,fs⟩ _ w1 OK.out (hV.mono aB.below));skip;go_wp2_with fail
 refine cg.mono ?_;clear cg;unfold FD;rintro e w2 ⟨v0,b,rfl,hb2,lT⟩;have aL:=af (aB.on hb2);clear hb2 p0 p1 p2;cases zr:dJ ⟨gs,hs,fs⟩ with
 |none=>
  rw[zr] at lT;obtain⟨rfl,rfl⟩:=lT;have hs:Hid (aW ⟨gs,hs,fs⟩=290):=af (by unfold aW;rw[if_pos Oz.symm,zr]);have cq:=af (aL.on ((Below.refl w2.heap.size w2).alloc (Nat.le_refl _) (.cells #[.map (some (w1.heap.size+1+1)),.map (some (w1.heap.size+1+1+1))] 91)));have q0:=cq.b4.cell 0;have q1:=cq.b4.cell 1;have z0:=cq.b2.cell 0;have z1:=cq.b2.cell 1;have f0:=cq.b2.free 0;have f1:=cq.b2.free 1;have y0:=cq.b3.cell 0;have y1:=cq.b3.cell 1;have y2:=cq.b3.cell 2;have e0:=cq.b3.free 0;have e1:=cq.b3.free 1;have e2:=cq.b3.free 2;simp at q0 q1 z0 z1 y0 y1 y2;have Ee:=cq.laid (.map none) (.map none) (.int .i64 290) (.int .i64 (-1)) (.int .i64 (-1));obtain⟨l1,l2,l3⟩:=Ee;have L1:=af l1;have L2:=af l2;have L3:=af l3;clear l1 l2 l3;go_wp2_with fail
  refine bodyPost_ret (v:=.tuple #[.agg #[.map none,.map none],.agg #[.int .i64 290,.int .i64 (-1),.int .i64 (-1)]]) ?_ rfl (Ko.of hs.out L3.out);rw[cH rfl];have kt:=kS _ _ _ _ L1.out;have hl2:=rL _ _ _ _ _ L2.out;simp[asAddr,Result.andThen,kt,hl2]
 | some vc=>
  obtain⟨vs,cs⟩:=vc;rw[zr] at lT;obtain⟨rfl,rfl,Ah⟩:=lT;have FW:=af (Ho OK.out zr);obtain⟨vb,l6⟩:∃q,q=w1.heap.size+1+1:=⟨_,rfl⟩;obtain⟨cb,hcb⟩:∃q,q=w1.heap.size+1+1+1:=⟨_,rfl⟩;rw[←hcb,←l6] at Ah;rw[←hcb,←l6];have nL:=af ((Below.refl w2.heap.size w2).alloc (Nat.le_refl _) (.cells #[.map (some vb),.map (some cb)] 91));have cq:=af (aL.on nL.out);have NM:=af (Ah.mono nL.out);have B6:=af (Bx.new w2 #[.map (some vb),.map (some cb)] 91);have hs0:Hid (∀x,(if 256<gs.length∨128<fs.length∨4096<gV gs then 296 else kB vs cs fs)=x→aW ⟨gs,hs,fs⟩=x):=af (fun x hx=>by unfold aW;rw[if_pos Oz.symm,zr];exact hx);have p0:=cq.b1.cell 0;have p1:=cq.b1.cell 1;have p2:=cq.b1.cell 2;simp at p0 p1 p2;clear zr l6 hcb Ah nL;by_cases dH:(256:Int)<(mg:Int)
  ·skip;have hs:Hid (aW ⟨gs,hs,fs⟩=296):=af (hs0.out _ (if_pos (by have:=xJ.out;have:=pO.out;omega)));have q0:=cq.b4.cell 0;have q1:=cq.b4.cell 1;have z0:=cq.b2.cell 0;have z1:=cq.b2.cell 1;have f0:=cq.b2.free 0;have f1:=cq.b2.free 1;have y0:=cq.b3.cell 0;have y1:=cq.b3.cell 1;have y2:=cq.b3.cell 2;have e0:=cq.b3.free 0;have e1:=cq.b3.free 1;have e2:=cq.b3.free 2;simp at q0 q1 z0 z1 y0 y1 y2;have Ee:=cq.laid (.map none) (.map none) (.int .i64 296) (.int .i64 (-1)) (.int .i64 (-1));obtain⟨l1,l2,l3⟩:=Ee;have L1:=af l1;have L2:=af l2;have L3:=af l3;clear l1 l2 l3;go_wp2_with fail
   refine bodyPost_ret (v:=.tuple #[.agg #[.map none,.map none],.agg #[.int .i64 296,.int .i64 (-1),.int .i64 (-1)]]) ?_ rfl (Ko.of hs.out L3.out);rw[cH rfl];have kt:=kS _ _ _ _ L1.out;have hl2:=rL _ _ _ _ _ L2.out;simp[asAddr,Result.andThen,kt,hl2]
  by_cases hk2:(128:Int)<(mf:Int)
  ·skip;have hs:Hid (aW ⟨gs,hs,fs⟩=296):=af (hs0.out _ (if_pos (by have:=xJ.out;have:=pO.out;omega)));have q0:=cq.b4.cell 0;have q1:=cq.b4.cell 1;have z0:=cq.b2.cell 0;have z1:=cq.b2.cell 1;have f0:=cq.b2.free 0;have f1:=cq.b2.free 1;have y0:=cq.b3.cell 0;have y1:=cq.b3.cell 1;have y2:=cq.b3.cell 2;have e0:=cq.b3.free 0;have e1:=cq.b3.free 1;have e2:=cq.b3.free 2;simp at q0 q1 z0 z1 y0 y1 y2;have Ee:=cq.laid (.map none) (.map none) (.int .i64 296) (.int .i64 (-1)) (.int .i64 (-1));obtain⟨l1,l2,l3⟩:=Ee;have L1:=af l1;have L2:=af l2;have L3:=af l3;clear l1 l2 l3;go_wp2_with fail
   refine bodyPost_ret (v:=.tuple #[.agg #[.map none,.map none],.agg #[.int .i64 296,.int .i64 (-1),.int .i64 (-1)]]) ?_ rfl (Ko.of hs.out L3.out);rw[cH rfl];have kt:=kS _ _ _ _ L1.out;have hl2:=rL _ _ _ _ _ L2.out;simp[asAddr,Result.andThen,kt,hl2]
  have cw:=af (LQ ⟨gs,hs,fs⟩ _ (w2.alloc (.cells #[.map (some vb),.map (some cb)] 91)) OK.g vH (hV.mono cq.below));go_wp2_with fail
  refine cw.mono ?_;rintro e w3 ⟨rfl,hb3⟩;have gl:=af (cq.on hb3);have B6b:=af (B6.on (ah hb3) (by simp));have NM2:=af (NM.mono hb3);clear hb3 cw NM B6 cq;obtain⟨wl,hwl⟩:∃x,x=gV gs:=⟨_,rfl⟩;have HWL:=af hwl;simp only[];rw[←hwl];clear hwl;by_cases hk3:4096<wl
  ·have hs:Hid (aW ⟨gs,hs,fs⟩=296):=af (hs0.out _ (if_pos (by have:=HWL.out;omega)));have q0:=gl.b4.cell 0;have q1:=gl.b4.cell 1;have z0:=gl.b2.cell 0;have z1:=gl.b2.cell 1;have f0:=gl.b2.free 0;have f1:=gl.b2.free 1;have y0:=gl.b3.cell 0;have y1:=gl.b3.cell 1;have y2:=gl.b3.cell 2;have e0:=gl.b3.free 0;have e1:=gl.b3.free 1;have e2:=gl.b3.free 2;simp at q0 q1 z0 z1 y0 y1 y2;have Ee:=gl.laid (.map none) (.map none) (.int .i64 296) (.int .i64 (-1)) (.int .i64 (-1));obtain⟨l1,l2,l3⟩:=Ee;have L1:=af l1;have L2:=af l2;have L3:=af l3;clear l1 l2 l3;go_wp2_with fail
   refine bodyPost_ret (v:=.tuple #[.agg #[.map none,.map none],.agg #[.int .i64 296,.int .i64 (-1),.int .i64 (-1)]]) ?_ rfl (Ko.of hs.out L3.out);rw[cH rfl];have kt:=kS _ _ _ _ L1.out;have hl2:=rL _ _ _ _ _ L2.out;simp[asAddr,Result.andThen,kt,hl2]
  have hsE:Hid (aW ⟨gs,hs,fs⟩=kB vs cs fs):=af (hs0.out _ (if_neg (by have:=HWL.out;have:=xJ.out;have:=pO.out;omega)));clear p0 p1 p2;have p2:=gl.b1.cell 2;simp at p2;go_wp2_with fail
  go_loopw [49] (fun i wr=>∃k:Nat,i=.int .i64 k∧k≤mf∧kB vs cs fs=kB vs cs (fs.drop k)∧LR w w.heap.size #[.slice ga mg gc,.slice ha mh hc,.slice fa mf fc] wr∧Bx wr w2.heap.size #[.map (some vb),.map (some cb)] 91∧pH wr vs cs vb cb) (fun i _=>mf- (intOf i).toNat)
  case atStart=>exact⟨0,rfl,Nat.zero_le _,rfl,gl.out,B6b.out,NM2.out⟩
  case round=>
   clear p2;obtain⟨k,rfl,hk,hch,hX,Cl,Ah⟩:=hrel;have hA:=af hch;have o6:=af hX;have B7:=af Cl;have NM3:=af Ah;clear hch Cl Ah gl B6b NM2;by_cases hlt:k<mf
   ·have bH:k<fs.length:=by have:=pO.out;omega
    obtain⟨⟨t,y0,_⟩,y1,⟨v2,y2,lj⟩,y3,y4,⟨v5,y5,rj⟩⟩:=hF.out k bH;have LS:=List.getElem_mem bH;have hao:=vK (Ec HF.1 LS);have hsz:fs[k].body.sz≤16384:=Nat.le_trans (xR LS) HF.2;have hpl:=OK.fp _ LS;have hdr:=af (show fs.drop k=fs[k]::fs.drop (k+1) from List.drop_eq_getElem_cons bH);have x0:=ag y0 hX.below;have x1:=ag y1 hX.below;have x2:=ag y2 hX.below;have x3:=ag y3 hX.below;have x4:=ag y4 hX.below;have x5:=ag y5 hX.below;have bG:fa=some ⟨fb,fo,none⟩:=by rcases mL with q|q;(·omega);(·exact q)
    subst bG;generalize fs[k]=a at x1 x2 x3 x4 x5 hdr lj rj hao hsz hpl;obtain⟨Cn,nm,ps,ty,op,bd⟩:=a;simp only[] at x1 x2 x3 x4 x5 lj rj hao hsz hpl;obtain⟨va,vc,rfl⟩:=lj.ay;obtain⟨ba,bc,rfl⟩:=rj.ay;clear mL y0 y1 y2 y3 y4 y5 LS;have lC:=(Below.refl wr.heap.size wr).alloc (Nat.le_refl _) (.cells #[.int .i64 t,.string nm,.slice va ps.length vc,.int .u8 ty,.bool op,.slice ba bd.len bc] 43);have hwr:=hX.below;have cf:=af (Ai vs cs vb cb t ⟨Cn,nm,ps,ty,op,bd⟩ (.slice va ps.length vc) (.slice ba bd.len bc) (wr.alloc (.cells #[.int .i64 t,.string nm,.slice va ps.length vc,.int .u8 ty,.bool op,.slice ba bd.len bc] 43)) (NM3.mono lC) (af FW.out) (lj.plain.mono (hwr.trans (lC.mono hwr.size))) (rj.mono (hwr.trans (lC.mono hwr.size))) hpl (by show bd.sz≤_;omega) hao);have Qm:=af lC;have q0:=ag (B7.cell 0) lC;have q1:=ag (B7.cell 1) lC;clear lj rj lC hwr hX hao hsz hpl;go_wp2_with fail
    refine cf.mono ?_;rintro e w4 ⟨⟨sv,rfl⟩,hb4⟩;have xI:=af (Qm.trans (hb4.mono Qm.size));have pS:=af (o6.on xI.out);have B8:=af (B7.on (ah xI.out) (by simp));have NM4:=af (NM3.mono xI.out);clear hb4 cf q0 q1 Qm;obtain⟨er,her⟩:∃x,x=vG vs cs ⟨Cn,nm,ps,ty,op,bd⟩:=⟨_,rfl⟩;rw[←her];have HER:=af her;clear her;by_cases he0:er=0
    ·subst he0;have hn:Hid (kB vs cs fs=kB vs cs (fs.drop (k+1))):=af (by rw[hA.out,hdr.out];simp only[kB];rw[←HER.out];simp);go_wp2_with fail
     exact⟨⟨k+1,by go_num,by omega,hn.out,pS.out,B8.out,NM4.out⟩,by simp only[intOf];omega⟩
    ·have hn:Hid (aW ⟨gs,hs,fs⟩=er):=af (by rw[hsE.out,hA.out,hdr.out];simp only[kB];rw[←HER.out,if_neg he0]);have he1:(er==0)=false:=by simpa using he0
     have q0:=pS.b4.cell 0;have q1:=pS.b4.cell 1;have z0:=pS.b2.cell 0;have z1:=pS.b2.cell 1;have f0:=pS.b2.free 0;have f1:=pS.b2.free 1;have y0:=pS.b3.cell 0;have y1:=pS.b3.cell 1;have y2:=pS.b3.cell 2;have e0:=pS.b3.free 0;have e1:=pS.b3.free 1;have e2:=pS.b3.free 2;simp at q0 q1 z0 z1 y0 y1 y2;have Ee:=pS.laid (.map none) (.map none) (.int .i64 er) (.int .i64 k) (.int .i64 sv);obtain⟨l1,l2,l3⟩:=Ee;have L1:=af l1;have L2:=af l2;have L3:=af l3;clear l1 l2 l3;go_wp2_with fail
     refine bodyPost_ret (v:=.tuple #[.agg #[.map none,.map none],.agg #[.int .i64 er,.int .i64 k,.int .i64 sv]]) ?_ rfl (Ko.of hn.out L3.out);rw[cH rfl];have kt:=kS _ _ _ _ L1.out;have hl2:=rL _ _ _ _ _ L2.out;simp[asAddr,Result.andThen,kt,hl2]
   ·have hk2:k=mf:=by omega
    subst k;have hn:Hid (aW ⟨gs,hs,fs⟩=0):=af (by rw[hsE.out,hA.out,pO.out,List.drop_length];rfl);have r0:=B7.cell 0;have r1:=B7.cell 1;simp at r0 r1;have q0:=o6.b4.cell 0;have q1:=o6.b4.cell 1;have z0:=o6.b2.cell 0;have z1:=o6.b2.cell 1;have f0:=o6.b2.free 0;have f1:=o6.b2.free 1;have y0:=o6.b3.cell 0;have y1:=o6.b3.cell 1;have y2:=o6.b3.cell 2;have e0:=o6.b3.free 0;have e1:=o6.b3.free 1;have e2:=o6.b3.free 2;simp at q0 q1 z0 z1 y0 y1 y2;have Ee:=o6.laid (.map (some vb)) (.map (some cb)) (.int .i64 0) (.int .i64 0) (.int .i64 0);obtain⟨l1,l2,l3⟩:=Ee;have L1:=af l1;have L2:=af l2;have L3:=af l3;clear l1 l2 l3;clear q0 q1 hX;go_wp2_with fail
    refine bodyPost_ret (v:=.tuple #[.agg #[.map (some vb),.map (some cb)],.agg #[.int .i64 0,.int .i64 0,.int .i64 0]]) ?_ rfl (Ko.of hn.out L3.out);rw[cH rfl];have kt:=kS _ _ _ _ L1.out;have hl2:=rL _ _ _ _ _ L2.out;simp[asAddr,Result.andThen,kt,hl2]
end
section
structure Ev where
 number:Int
 args:List Int
 value:Int
structure MS where
 held:List (List Int)
 steps:Nat
 reps:Nat
 evs:List Ev
inductive Out (α:Type) where
 |ok (a:α) (m:MS)
 |stop (kind fault:Int) (m:MS)
 |lost
def Out.bind {α β:Type}:Out α→(α→MS→Out β)→Out β
 | .ok a m,f=>f a m
 | .stop k x m,_=>.stop k x m
 | .lost,_=>.lost
structure Vy where
 U:Int→Int→Int
 H:Int→Int→Int→Option Bool
 B:Int→Int→Int→Option Int
abbrev Hp:=List (ByteArray×(Int×Int))
abbrev Fr:=List Hp
structure Cf where
 vs:VS
 cs:dM
 pl:List (ByteArray×Int)
 hs:List HH
 fs:List FH
 allowed:Nat
 values:List Int
 jd:Vy
def Qn:List (ByteArray×(Int×Int)):=
  [(⟨#[43]⟩,(39,54)),(⟨#[45]⟩,(40,55)),(⟨#[42]⟩,(41,56)),(⟨#[47]⟩,(42,57)),(⟨#[37]⟩,(44,0)),(⟨#[38]⟩,(46,0)),(⟨#[124]⟩,(47,0)),(⟨#[94]⟩,(48,0)),(⟨#[60,60]⟩,(50,0)),(⟨#[62,62]⟩,(51,0)),
   (⟨#[61,61]⟩,(13,23)),(⟨#[33,61]⟩,(14,24)),(⟨#[60]⟩,(15,25)),(⟨#[60,61]⟩,(16,26)),(⟨#[62]⟩,(17,27)),(⟨#[62,61]⟩,(18,28))]
def opsOf (sign:ByteArray):Int×Int:=(getM sign Qn).getD (0,0)
def cD (A:Vy) (sign:ByteArray) (t a b:Int):Option Int:=
 let op:=if t=2 then(opsOf sign).2 else(opsOf sign).1
 match A.H op a b with
 |some r=>some (if r then 1 else 0)
 |none=>A.B op a b
def ml (s:ByteArray) (fr:Fr):Option (Int×Int):=fr.foldl (fun a sc=>match getM s sc with|some t=>some t|none=>a) none
def rM (s:ByteArray) (v:Int):Fr→Fr
 |[]=>[]
 |c::r=>if (ml s r).isSome then c::rM s v r else match getM s c with
  |some (t,_)=>aY s (t,v) c::r
  |none=>c::r
def iE (s:ByteArray) (x:Int×Int) (fr:Fr):Fr:=fr.dropLast++[aY s x (fr.getLastD [])]
section
variable (cf:Cf)
def placeOf (s:ByteArray):Nat:=((getM s cf.pl).getD 0).toNat
def bI (m:MS) (s:ByteArray):List Int:=m.held.getD (placeOf cf s) []
def fM (m:MS) (s:ByteArray) (i:Nat) (v:Int):MS:={m with held:=m.held.set (placeOf cf s) ((bI cf m s).set i v)}
def mn (s:ByteArray):Int:=((getM s cf.vs).getD (0,0)).1
def ib (fr:Fr) (m:MS) (s:ByteArray):Int×Int:=
 match ml s fr with
 |some x=>x
 |none=>(mn cf s,(bI cf m s).getD 0 0)
def cE (fr:Fr) (m:MS) (s:ByteArray) (v:Int):Fr×MS:=
 match ml s fr with
 |some _=>(rM s v fr,m)
 |none=>(fr,fM cf m s 0 v)
def tick (m:MS):Out Unit:=if cf.allowed≤m.steps then .stop 3 0 m else .ok () {m with steps:=m.steps+1}
structure ic where
 E:Nat→Fr→EH→az→MS→Out Int
 L:Nat→Fr→aH→MS→Out (Int×Int×Fr)
 W:Nat→Fr→EH→az→aH→MS→Out (Int×Int×Fr)
 F:Nat→eE→List Int→MS→Out Int
variable (ev:ic)
def jo (d:Nat) (fr:Fr) (l:az) (i:Nat) (m:MS):Out Int:=
 match l.bu[i]? with
 |some a=>ev.E d fr a.1 a.2 m
 |none=>.lost
def df (d:Nat) (fr:Fr):az→MS→Out (List Int)
 | .nil,m=>.ok [] m
 | .cons h k r,m=>(ev.E d fr h k m).bind fun v m=>(df d fr r m).bind fun l m=>.ok (v::l) m
def Ef (fr:Fr) (h:EH) (k:az):Int:=
 match um cf.vs cf.cs (fr.map fun sc=>sc.map fun x=>(x.1,x.2.1)) h k with
 | .ok t=>t
 | .error _=>0
def rN (fr:Fr) (l:az) (i:Nat):Int:=
 match l.bu[i]? with
 |some a=>Ef cf fr a.1 a.2
 |none=>0
def fu (b:Bool):Int:=if b then 1 else 0
def je (g:eE) (args:List Int) (m:MS):Out Int:=
 match cf.values[m.reps]? with
 |none=>.stop 4 0 m
 |some v=>match cf.hs[g.host.toNat]? with
  |none=>.lost
  |some h=>.ok v {m with reps:=m.reps+1,evs:=m.evs++[⟨h.number,args,v⟩]}
def aF (d:Nat) (fr:Fr) (h:EH) (k:az) (m:MS):Out Int:=
 if h.kind=1∨h.kind=2 then .ok h.word m
 else if h.kind=3 then .ok (ib cf fr m h.name).2 m
 else if h.kind=4 then(jo ev d fr k 0 m).bind fun i m=>match (bI cf m h.name)[i.toNat]? with
  |some x=>.ok x m
  |none=>.stop 2 1 m
 else if h.kind=5 then(df ev d fr k m).bind fun args m=>match getM h.name cf.cs with
  |none=>.lost
  |some g=>if g.host<0 then ev.F d g args m else je cf g args m
 else if h.kind=6 then(jo ev d fr k 0 m).bind fun v m=>
  if h.sign.toList==[126] then .ok (cf.jd.U 49 v) m
  else if h.sign.toList==[33] then .ok (fu (v==0)) m
  else if rN cf fr k 0=2 then .ok (cf.jd.U 53 v) m else .ok (cf.jd.U 38 v) m
 else if h.kind=7 then(jo ev d fr k 0 m).bind fun a m=>
  if h.sign.toList==[38,38]&&a==0 then .ok 0 m
  else if h.sign.toList==[124,124]&&a !=0 then .ok 1 m
  else(jo ev d fr k 1 m).bind fun b m=>
   if h.sign.toList==[38,38]||h.sign.toList==[124,124] then .ok (fu (b !=0)) m
   else match cD cf.jd h.sign (rN cf fr k 0) a b with
    |some x=>.ok x m
    |none=>.stop 2 2 m
 else if h.kind=8 then(jo ev d fr k 0 m).bind fun v m=>
  if rN cf fr k 0=h.type then .ok v m else if h.type=1 then .ok (cf.jd.U 59 v) m else .ok (cf.jd.U 58 v) m
 else .lost
def uq (d:Nat) (fr:Fr) (h:EH) (k:az) (m:MS):Out Int:=(tick cf m).bind fun _ m=>aF cf ev d fr h k m
def fT:List PW→List Int→Hp→Hp
 |p::r,a::l,sc=>fT r l (aY p.1 (p.2,a) sc)
 |_,_,sc=>sc
def ku (d:Nat) (g:eE) (args:List Int) (m:MS):Out Int:=
 if 16≤d then .stop 5 0 m else match cf.fs[g.fn.toNat]? with
  |none=>.lost
  |some f=>(ev.L (d+1) [fT g.params args []] f.body m).bind fun r m=>.ok r.2.1 m
def ij (d:Nat) (fr:Fr) (h:SH) (x:az) (m:MS):Out Fr:=
 (jo ev d fr x 0 m).bind fun v m2=>
  if h.sign.toList.isEmpty then .ok (cE cf fr m2 h.name v).1 (cE cf fr m2 h.name v).2
  else match cD cf.jd h.sign (ib cf fr m h.name).1 (ib cf fr m h.name).2 v with
   |some r=>.ok (cE cf fr m2 h.name r).1 (cE cf fr m2 h.name r).2
   |none=>.stop 2 2 m2
def gB (d:Nat) (fr:Fr) (h:SH) (x:az) (m:MS):Out Unit:=
 (jo ev d fr x 0 m).bind fun i m=>match (bI cf m h.name)[i.toNat]? with
  |none=>.stop 2 1 m
  | some old=>(jo ev d fr x 1 m).bind fun v m2=>
   if h.sign.toList.isEmpty then .ok () (fM cf m2 h.name i.toNat v)
   else match cD cf.jd h.sign (mn cf h.name) old v with
    |some r=>.ok () (fM cf m2 h.name i.toNat r)
    |none=>.stop 2 2 m2
def bn (d:Nat) (fr:Fr) (h:SH) (x:az) (b e:aH) (m:MS):Out (Int×Int×Fr):=
 (tick cf m).bind fun _ m=>
  if h.kind=1 then(jo ev d fr x 0 m).bind fun v m=>.ok (0,0,iE h.name (h.type,v) fr) m
  else if h.kind=2 then(ij cf ev d fr h x m).bind fun fr m=>.ok (0,0,fr) m
  else if h.kind=3 then(gB cf ev d fr h x m).bind fun _ m=>.ok (0,0,fr) m
  else if h.kind=4 then(jo ev d fr x 0 m).bind fun c m=>if c=0 then ev.L d fr e m else ev.L d fr b m
  else if h.kind=5 then match x.bu[0]? with
   |some a=>ev.W d fr a.1 a.2 b m
   |none=>.lost
  else if h.kind=6 then .ok (1,0,fr) m
  else if h.kind=7 then .ok (2,0,fr) m
  else if h.kind=8 then(jo ev d fr x 0 m).bind fun v m=>.ok (3,v,fr) m
  else if h.kind=9 then(jo ev d fr x 0 m).bind fun _ m=>.ok (0,0,fr) m
  else .ok (0,0,fr) m
def cM (d:Nat):aH→Fr→MS→Out (Int×Int×Fr)
 | .nil,fr,m=>.ok (0,0,fr) m
 | .cons h x b e r,fr,m=>(bn cf ev d fr h x b e m).bind fun q m=>if q.1=0 then cM d r q.2.2 m else .ok q m
def mq (d:Nat) (fr:Fr) (l:aH) (m:MS):Out (Int×Int×Fr):=(cM cf ev d l (fr++[[]]) m).bind fun q m=>.ok (q.1,q.2.1,q.2.2.dropLast) m
def fU (d:Nat) (fr:Fr) (h:EH) (k:az) (b:aH) (m:MS):Out (Int×Int×Fr):=
 (ev.E d fr h k m).bind fun c m=>if c=0 then .ok (0,0,fr) m else(ev.L d fr b m).bind fun q m=>
  if q.1=3 then .ok (3,q.2.1,q.2.2) m else if q.1=1 then .ok (0,0,q.2.2) m else(tick cf m).bind fun _ m=>ev.W d q.2.2 h k b m
end
def aI (cf:Cf):Nat→ic
 |0=>⟨fun _ _ _ _ _=>.lost,fun _ _ _ _=>.lost,fun _ _ _ _ _ _=>.lost,fun _ _ _ _=>.lost⟩
 |n+1=>⟨uq cf (aI cf n),mq cf (aI cf n),fU cf (aI cf n),ku cf (aI cf n)⟩
/-! ### a state goes on -/
def MS.le (a b:MS):Prop:=a.steps≤b.steps∧∃l,b.evs=a.evs++l∧b.reps=a.reps+l.length
theorem MS.le_refl (a:MS):MS.le a a:=⟨Nat.le_refl _,[],by simp,rfl⟩
theorem MS.le_trans {a b c:MS} (h:MS.le a b) (k:MS.le b c):MS.le a c:=by
 obtain⟨h1,l,h2,h3⟩:=h;obtain⟨k1,l',k2,k3⟩:=k;exact⟨Nat.le_trans h1 k1,l++l',by rw[k2,h2,List.append_assoc],by rw[k3,h3,List.length_append];omega⟩
def Out.from {α:Type} (m:MS):Out α→Prop
 | .ok _ m'=>MS.le m m'
 | .stop _ _ m'=>MS.le m m'
 | .lost=>True
theorem Out.bj {α β:Type} {m:MS} {o:Out α} {f:α→MS→Out β} (h:o.from m) (hf:∀a m',MS.le m m'→(f a m').from m'):(o.bind f).from m:=by
 cases o with
 |ok a m'=>
  have h1:MS.le m m':=h;have h2:=hf a m' h1
  show(f a m').from m
  cases hq:f a m' with
  |ok b m2=>rw[hq] at h2;exact MS.le_trans h1 h2
  |stop k x m2=>rw[hq] at h2;exact MS.le_trans h1 h2
  |lost=>trivial
 |stop k x m'=>exact h
 |lost=>trivial
theorem o7 (cf:Cf) (m:MS):(tick cf m).from m:=by
 unfold tick;split
 ·exact MS.le_refl _
 ·exact⟨Nat.le_succ _,[],by simp,rfl⟩
theorem Cv {cf:Cf} (m:MS) (s:ByteArray) (i:Nat) (v:Int):MS.le m (fM cf m s i v):=⟨Nat.le_refl _,[],by simp[fM],rfl⟩
theorem ur {cf:Cf} (fr:Fr) (m:MS) (s:ByteArray) (v:Int):MS.le m (cE cf fr m s v).2:=by
 unfold cE;split
 ·exact MS.le_refl _
 ·exact⟨Nat.le_refl _,[],by simp[fM],rfl⟩
structure ic.Good (ev:ic):Prop where
 E:∀d fr h k m,(ev.E d fr h k m).from m
 L:∀d fr l m,(ev.L d fr l m).from m
 W:∀d fr h k b m,(ev.W d fr h k b m).from m
 F:∀d g l m,(ev.F d g l m).from m
section
variable {cf:Cf} {ev:ic} (hg:ev.Good)
include hg
theorem ek (d:Nat) (fr:Fr) (l:az) (i:Nat) (m:MS):(jo ev d fr l i m).from m:=by
 unfold jo;split
 ·exact hg.E _ _ _ _ _
 ·trivial
theorem kT (d:Nat) (fr:Fr):∀(l:az) (m:MS),(df ev d fr l m).from m
 | .nil,m=>MS.le_refl _
 | .cons h k r,m=>Out.bj (hg.E _ _ _ _ _) fun v m1 _=>Out.bj (kT d fr r m1) fun l m2 _=>MS.le_refl _
theorem Ao (d:Nat) (fr:Fr) (h:EH) (k:az) (m:MS):(aF cf ev d fr h k m).from m:=by
 unfold aF;split
 ·exact MS.le_refl _
 split
 ·exact MS.le_refl _
 split
 ·refine Out.bj (ek hg _ _ _ _ _) fun i m1 _=>?_
  split<;>exact MS.le_refl _
 split
 ·refine Out.bj (kT hg _ _ _ _) fun args m1 _=>?_
  split
  ·trivial
  ·split
   ·exact hg.F _ _ _ _
   ·unfold je;split
    ·exact MS.le_refl _
    ·split
     ·trivial
     ·exact⟨Nat.le_refl _,[_],rfl,rfl⟩
 split
 ·refine Out.bj (ek hg _ _ _ _ _) fun v m1 _=>?_
  repeat' split
  all_goals exact MS.le_refl _
 split
 ·refine Out.bj (ek hg _ _ _ _ _) fun a m1 _=>?_
  split
  ·exact MS.le_refl _
  split
  ·exact MS.le_refl _
  refine Out.bj (ek hg _ _ _ _ _) fun b m2 _=>?_
  repeat' split
  all_goals exact MS.le_refl _
 split
 ·refine Out.bj (ek hg _ _ _ _ _) fun v m1 _=>?_
  repeat' split
  all_goals exact MS.le_refl _
 ·trivial
theorem Eg (d:Nat) (fr:Fr) (h:SH) (x:az) (m:MS):(ij cf ev d fr h x m).from m:=by
 unfold ij;refine Out.bj (ek hg _ _ _ _ _) fun v m1 _=>?_
 split
 ·exact ur _ _ _ _
 ·split
  ·exact ur _ _ _ _
  ·exact MS.le_refl _
theorem Eh (d:Nat) (fr:Fr) (h:SH) (x:az) (m:MS):(gB cf ev d fr h x m).from m:=by
 unfold gB;refine Out.bj (ek hg _ _ _ _ _) fun i m1 _=>?_
 split
 ·exact MS.le_refl _
 ·refine Out.bj (ek hg _ _ _ _ _) fun v m2 _=>?_
  split
  ·exact Cv _ _ _ _
  ·split
   ·exact Cv _ _ _ _
   ·exact MS.le_refl _
theorem rO (d:Nat) (fr:Fr) (h:SH) (x:az) (b e:aH) (m:MS):(bn cf ev d fr h x b e m).from m:=by
 unfold bn;refine Out.bj (o7 _ _) fun _ m1 _=>?_
 split
 ·exact Out.bj (ek hg _ _ _ _ _) fun v m1 _=>MS.le_refl _
 split
 ·exact Out.bj (Eg hg _ _ _ _ _) fun v m1 _=>MS.le_refl _
 split
 ·exact Out.bj (Eh hg _ _ _ _ _) fun v m1 _=>MS.le_refl _
 split
 ·refine Out.bj (ek hg _ _ _ _ _) fun v m1 _=>?_
  split<;>exact hg.L _ _ _ _
 split
 ·split
  ·exact hg.W _ _ _ _ _ _
  ·trivial
 split
 ·exact MS.le_refl _
 split
 ·exact MS.le_refl _
 split
 ·exact Out.bj (ek hg _ _ _ _ _) fun v m1 _=>MS.le_refl _
 split
 ·exact Out.bj (ek hg _ _ _ _ _) fun v m1 _=>MS.le_refl _
 ·exact MS.le_refl _
theorem pT (d:Nat):∀(l:aH) (fr:Fr) (m:MS),(cM cf ev d l fr m).from m
 | .nil,fr,m=>MS.le_refl _
 | .cons h x b e r,fr,m=>by
  unfold cM;refine Out.bj (rO hg _ _ _ _ _ _ _) fun q m1 _=>?_
  split
  ·exact pT d r _ _
  ·exact MS.le_refl _
theorem xV (d:Nat) (fr:Fr) (h:EH) (k:az) (b:aH) (m:MS):(fU cf ev d fr h k b m).from m:=by
 unfold fU;refine Out.bj (hg.E _ _ _ _ _) fun c m1 _=>?_
 split
 ·exact MS.le_refl _
 ·refine Out.bj (hg.L _ _ _ _) fun q m2 _=>?_
  split
  ·exact MS.le_refl _
  split
  ·exact MS.le_refl _
  ·exact Out.bj (o7 _ _) fun _ m3 _=>hg.W _ _ _ _ _ _
theorem Aq (d:Nat) (g:eE) (l:List Int) (m:MS):(ku cf ev d g l m).from m:=by
 unfold ku;split
 ·exact MS.le_refl _
 ·split
  ·trivial
  ·exact Out.bj (hg.L _ _ _ _) fun q m2 _=>MS.le_refl _
end
theorem fV (cf:Cf):∀n,(aI cf n).Good
 |0=>⟨fun _ _ _ _ _=>trivial,fun _ _ _ _=>trivial,fun _ _ _ _ _ _=>trivial,fun _ _ _ _=>trivial⟩
 |n+1=>⟨fun d fr h k m=>Out.bj (o7 _ _) fun _ m1 _=>Ao (fV cf n) _ _ _ _ _,fun d fr l m=>Out.bj (pT (fV cf n) _ _ _ _) fun q m1 _=>MS.le_refl _,
  fun d fr h k b m=>xV (fV cf n) _ _ _ _ _ _,fun d g l m=>Aq (fV cf n) _ _ _ _⟩
end
end Go.Proofs.YtlabadkfkbenoaaGreatDoor
