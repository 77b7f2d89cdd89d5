/- Walks and plain laws, merged: CalJ CalB CalC CalD MadA CalK CalF CalG. No condition. -/
import Derived.Test.YtlabadkfkbenoaaGreatDoorKn43
import Derived.Test.YtlabadkfkbenoaaGreatDoorKn01
import Derived.Test.YtlabadkfkbenoaaGreatDoorKn17
import Derived.Outline
import Derived.Deep.RegionHeld3
import Derived.Test.YtlabadkfkbenoaaGreatDoorKn25
import Derived.Test.YtlabadkfkbenoaaGreatDoorKn37
import Derived.Test.YtlabadkfkbenoaaGreatDoorKn11
import Derived.Laws.ResultCell
import Derived.Test.YtlabadkfkbenoaaGreatDoorKn03
namespace Go.Proofs.YtlabadkfkbenoaaGreatDoor
open Go.RowKit
set_option linter.unusedVariables false
set_option linter.unusedSimpArgs false
set_option maxRecDepth 100000
section
open Go.Shelf
/-- the blocks of a call over a memory of s blocks -/
def ptC (s B X vb cb pb : Nat) (vg vh vf hv vv : Value) (xs : List Value) (hd : HD) : Pt := ⟨B, s + 2, X, vb, cb, pb, s + 4, s + 3, vg, vh, vf, hv, vv, xs, hd.map (·.1)⟩
section
variable {w w' : World} {B : Nat} {u : UT} {vs : VS} {cs : CSg} {pl : List (ByteArray × Int)} {hd : HD} {xs : List Value} {X vb cb pb : Nat} {vg vh vf hv : Value}
/-- a call's memory at first -/
theorem call_start (h : WoR w B u vs cs (plG u.gs 0 []) hd xs X vb cb pb vg vh vf hv) (hg : gatU u = some (vs, cs)) (ho : HdOk u hd) {allowed : Nat} {values : List Int} {vv : Value} (hv0 : ValR w w.heap.size (own52 xs) values vv) (hvl : values.length ≤ 1000000000) (hb : Below w.heap.size w w')
  (hM : Bx w' (w.heap.size + 2) #[.pointer (some ⟨X, 0, none⟩), .int .i64 allowed, vv, .int .u8 0, .int .u32 0, .int .u8 0, .int .i64 0, .int .i64 0, .slice none 0 0, .int .i64 0, .map (some (w.heap.size + 4))] 119)
  (hc : Bx w' (w.heap.size + 3) #[.pointer (some ⟨w.heap.size + 2, 0, none⟩)] 116) (hk : MpI w' (w.heap.size + 4) (kindsL (w.heap.size + 2) (w.heap.size + 3))) (hs : w.heap.size + 5 ≤ w'.heap.size) :
  MSt (ptC w.heap.size B X vb cb pb vg vh vf hv vv xs hd) (cfU u vs cs allowed values) u (w.heap.size + 5) w' ∧ MeR (ptC w.heap.size B X vb cb pb vg vh vf hv vv xs hd) allowed (w.heap.size + 5) 0 ⟨hd.map (·.2), 0, 0, []⟩ ⟨.slice none 0 0, []⟩ w' := by
 have hcl : Cells (onlyW w (oldB B)) (onlyW w' (oldB B)) := cells_move fun a u h1 h2 => ⟨h1, cell_on h2 hb⟩
 have mv : ∀ {b l}, b < B → Mp (onlyW w (oldB B)) b l → Mp (onlyW w' (oldB B)) b l := fun {b l} hb2 hq => map_only ((map_whole hq (by simpa using hb2)).mono hb) (by simpa using hb2)
 obtain ⟨c1, l, c2, c3⟩ := h.nm
 obtain ⟨ka, kb, koff, kcap, v1, v2, v3, v4⟩ := hv0
 have hlen := h.held.len
 have hlB := h.lB
 have hlX := h.lX
 have hu := ho.len
 refine ⟨⟨h.box.on (grown_of_below hb) (by simp), h.unit.sub hcl, ⟨mv h.lv c1, l, mv h.lc c2, c3.sub hcl⟩, h.place.mono hb, ?_, by simpa [ptC] using hlen, ⟨ka, kb, koff, kcap, v1, v2, ?_, fun i hi => cell_on (v4 i hi) hb⟩, fun s x hx => ?_, rfl, rfl, by show X < w.heap.size + 5; omega, h.lv, h.lc, h.lp, ?_, ?_, fun b q => ?_, fun x hx b q => ?_, hk, hc, ?_, ?_, hvl⟩,
  ⟨⟨.mk, .mk, .mk, by simpa [ptC, Nil0.v] using hM⟩, by simpa [ptC] using hlen, fun i h1 h2 => ?_, h.held.nd, ⟨[], rfl, rfl, ⟨by simp [evcells], .inl ⟨rfl, rfl⟩⟩, fun i h1 _ => by simp at h1⟩, hs, by show w.heap.size + 2 < w.heap.size + 5; omega⟩⟩
 ·have := ownsRow_at h.held.row hb
  rw [hc2_of] at this
  show w'.ownsRow B 82 2 hv xs.length (hc2 (hd.map (·.1)) xs)
  rw [hlen]
  exact this
 ·rcases v3 with q | ⟨q1, q2⟩
  ·exact .inl q
  ·refine .inr ⟨by omega, ?_⟩
   rintro (q | q)
   ·have q : kb = w.heap.size + 2 := q
    omega
   ·exact q2 q
 ·obtain ⟨i, h1, h2⟩ := gatG_pl u.gs.length u.gs [] vs 0 [] (gatU_parts hg).1 (by omega) (fun s x q => by cases q) s x hx
  exact ⟨i, h1, by show i < xs.length; omega⟩
 ·show B ≤ w.heap.size + 2
  omega
 ·show B ≤ w.heap.size + 5
  omega
 ·have := (h.held.row.lt b q).2
  omega
 ·obtain ⟨i, hi, rfl⟩ := List.getElem_of_mem hx
  have hi2 : i < xs.length := hi
  have := ((h.held.rows i hi2 (by omega)).lt b q).2
  omega
 ·show w.heap.size + 4 < w.heap.size + 5
  omega
 ·show w.heap.size + 3 < w.heap.size + 5
  omega
 ·have h3 : i < hd.length := by simpa using h2
  have := ownsRow_at (h.held.rows i h1 h3) hb
  show w'.ownsRow B 52 1 xs[i] ((hd.map (fun a : ByteArray × List Int => a.2))[i]'h2).length (((hd.map (fun a : ByteArray × List Int => a.2))[i]'h2).map (Value.int .u32))
  rw [held_at]
  exact this
end
end
section
open Go.Shelf
theorem assert168 (v : Value) (w : World) : (Instr.typeAssert (.iface 168 v) 20 168 true).run Tryz.prog w = .ok (.tuple #[v, .bool true]) w := by kernel_rfl
theorem eqnil168 (v : Value) (w : World) : (binOp .eql 20 (.iface 168 v) .nilIface).run Tryz.prog w = .ok (.bool false) w := by kernel_rfl
theorem wpOpsS_hide {P : Program} {ops : Array Oper} {Q : Exit → Act → List Frame → World → Prop} {l : List Nat} {a : Act} {cs : List Frame} {w : World} (h : ∀ Q', Q' = Q → wpOpsS P ops Q' l a cs w) : wpOpsS P ops Q l a cs w := h _ rfl
theorem hide_else {P : Program} {Q : Exit → Act → World → Prop} {a : Act} {w : World} {n id : Nat} {ops : Array Oper} {d : Bool} {t : Operand} {A B : Code} (h : ∀ B', B' = B → Code.wp P (Code.block n ((Code.region id ops d).seq (Code.cond t A B'))) Q a w) : Code.wp P (Code.block n ((Code.region id ops d).seq (Code.cond t A B))) Q a w := h _ rfl
theorem hide_both {P : Program} {Q : Exit → Act → World → Prop} {a : Act} {w : World} {id : Nat} {ops : Array Oper} {d : Bool} {t : Operand} {A B : Code} (h : ∀ A' B', A' = A → B' = B → Code.wp P ((Code.region id ops d).seq (Code.cond t A' B')) Q a w) : Code.wp P ((Code.region id ops d).seq (Code.cond t A B)) Q a w := h _ _ rfl rfl
theorem tm87 (a v : Value) : (#[a] ++ (Array.replicate 21 undef).setIfInBounds 3 v) = #[a, undef, undef, undef, v, undef, undef, undef, undef, undef, undef, undef, undef, undef, undef, undef, undef, undef, undef, undef, undef, undef] := by kernel_rfl
set_option maxHeartbeats 400000 in
theorem run87_n (p : Addr) (w : World) :
  CallsD Tryz.prog 87 #[.pointer (some p)] .returning w fun e u' w' => e = .returned (.tuple #[]) ∧ u' = .returning ∧ w' = w := by
 refine callsD_of_wpS Tryz.func87 rfl fun c₀ cs hu => ?_
 apply wpS_seq
 apply wpS_region
 refine wpOpsS_hide fun Q hQ => ?_
 have HQ := hid hQ
 clear hQ
 simp [wpOpsS, go_sem, recoverD, hu, Tryz.ntmps87]
 rw [HQ.out]
 simp only [Exit.thenS]
 rw [tm87]
 clear HQ
 refine wpS_of_wp ?_
 refine hide_else fun B hB => ?_
 clear hB
 go_wp2_with fail
 cases c₀
 simp_all [bodyPostS, results, Tryz.results87, go_sem]
set_option maxHeartbeats 4000000 in
theorem run87_p (c M : Nat) (x y : Int) (v0 v1 v2 v3 v4 v5 v6 v7 v8 v9 v10 : Value) (older : List PanicEntry) (w : World) (hc : Bx w c #[.pointer (some ⟨M, 0, none⟩)] 116) (hM : Bx w M #[v0, v1, v2, v3, v4, v5, v6, v7, v8, v9, v10] 119) :
  CallsD Tryz.prog 87 #[.pointer (some ⟨c, 0, none⟩)] (.panicking ({ v := .iface 168 (.agg #[.int .u8 x, .int .u8 y]), recovered := false } :: older)) w fun e u' w' =>
   e = .returned (.tuple #[]) ∧ u' = .panicking ({ v := .iface 168 (.agg #[.int .u8 x, .int .u8 y]), recovered := true } :: older) ∧ ∃ w2, Below w.heap.size w w2 ∧ Bx w2 M #[v0, v1, v2, v3, v4, v5, v6, v7, v8, v9, v10] 119 ∧ w' = (w2.setCell ⟨M, 3, none⟩ (.int .u8 x)).setCell ⟨M, 5, none⟩ (.int .u8 y) := by
 refine callsD_of_wpS Tryz.func87 rfl fun c₀ cs hu => ?_
 apply wpS_seq
 apply wpS_region
 refine wpOpsS_hide fun Q hQ => ?_
 have HQ := hid hQ
 clear hQ
 simp [wpOpsS, go_sem, recoverD, hu, Tryz.ntmps87]
 rw [HQ.out]
 simp only [Exit.thenS]
 clear HQ
 rw [tm87]
 refine wpS_of_wp ?_
 have h1 := assert168
 have h2 := eqnil168
 have hlt := hc.lt
 refine hide_else fun B hB => ?_
 have HCB := hid hB
 clear hB
 go_wp2_with fail
 rw [HCB.out]
 refine hide_both fun A9 B9 hA9 hB9 => ?_
 have HA9 := hid hA9
 clear hA9 hB9 HCB
 go_wp2_with fail
 rw [HA9.out]
 clear HA9
 go_wp2_with fail
 have hB := Bx.new w #[.int .u8 x, .int .u8 y] 168
 have hcA := hid (hc.al (.cells #[.int .u8 x, .int .u8 y] 168))
 have hMA := hid (hM.al (.cells #[.int .u8 x, .int .u8 y] 168))
 have HBel := hid ((Below.refl w.heap.size w).alloc (Nat.le_refl _) (.cells #[.int .u8 x, .int .u8 y] 168))
 have HB := hid hB
 have hMl := hM.lt
 clear hB
 generalize w.alloc (.cells #[.int .u8 x, .int .u8 y] 168) = w1 at hcA hMA HBel HB ⊢
 have hcd := hid (hcA.out.on (grownBy_drew w1 none) (by simp))
 have hMd := hid (hMA.out.on (grownBy_drew w1 none) (by simp))
 have hBd := hid (HB.out.on (grownBy_drew w1 none) (by simp))
 refine wp_region_held_drew (S := (fun w9 => Bx w9 c #[.pointer (some ⟨M, 0, none⟩)] 116 ∧ Bx w9 w.heap.size #[.int .u8 x, .int .u8 y] 168)) (by kernel_rfl) ⟨hcd.out, hBd.out⟩ (fun hHeld => ?_)
 have HBd := hid (HBel.out.trans ((Below.refl w1.heap.size w1).drew.mono HBel.out.size))
 generalize w1.drew = w2 at hcd hMd hBd HBd hHeld ⊢
 refine tk 0 ?_ (hy := ?_) (h := ?_)
 rotate_left
 ·intro w' hSw; have q := hSw.1.cell 0; simp at q; go_simp; (try with_reducible rfl)
 try simp only [tpa, tpb, tpc, tpd, tpe]
 refine tk 1 ?_ (hy := ?_) (h := ?_)
 rotate_left
 ·intro w' hSw; have q := hSw.1.cell 0; simp at q; go_simp; (try with_reducible rfl)
 try simp only [tpa, tpb, tpc, tpd, tpe]
 refine tk 2 ?_ (hy := ?_) (h := ?_)
 rotate_left
 ·intro w' hSw; go_simp; (try with_reducible rfl)
 try simp only [tpa, tpb, tpc, tpd, tpe]
 refine tk 3 ?_ (hy := ?_) (h := ?_)
 rotate_left
 ·intro w' hSw; have q := hSw.2.cell 0; simp at q; go_simp; (try with_reducible rfl)
 try simp only [tpa, tpb, tpc, tpd, tpe]
 refine tk 4 ?_ (hy := ?_) (h := ?_)
 rotate_left
 ·intro w' hSw; go_simp; (try with_reducible rfl)
 try simp only [tpa, tpb, tpc, tpd, tpe]
 refine tk 5 ?_ (hy := ?_) (h := ?_)
 rotate_left
 ·intro w' hSw; have q := hSw.2.cell 1; simp at q; go_simp; (try with_reducible rfl)
 try simp only [tpa, tpb, tpc, tpd, tpe]
 refine tk 6 ?_ (hy := ?_) (h := ?_)
 rotate_left
 ·intro w' hSw; go_simp; (try with_reducible rfl)
 try simp only [tpa, tpb, tpc, tpd, tpe]
 refine tk 7 ?_ (hy := ?_) (h := ?_)
 rotate_left
 ·intro w' hSw; go_simp; (try with_reducible rfl)
 try simp only [tpa, tpb, tpc, tpd, tpe]
 refine tk 8 ?_ (hy := ?_) (h := ?_)
 rotate_left
 ·intro w' hSw; go_simp; (try with_reducible rfl)
 try simp only [tpa, tpb, tpc, tpd, tpe]
 have g1 := grown_setCell w2 ⟨M, 3, none⟩ (.int .u8 x)
 have k1 := hid (show (fun w9 => Bx w9 c #[.pointer (some ⟨M, 0, none⟩)] 116 ∧ Bx w9 w.heap.size #[.int .u8 x, .int .u8 y] 168) (w2.setCell ⟨M, 3, none⟩ (.int .u8 x)) from ⟨hcd.out.on g1 (by have := hcd.out.ne_box hMd.out (by decide); simpa using this), hBd.out.on g1 (by have := hBd.out.ne_box hMd.out (by decide); simpa using this)⟩)
 have hM2 := hid (hMd.out.set 3 (.int .u8 x))
 have g2 := grown_setCell (w2.setCell ⟨M, 3, none⟩ (.int .u8 x)) ⟨M, 5, none⟩ (.int .u8 y)
 have k2 := hid (show (fun w9 => Bx w9 c #[.pointer (some ⟨M, 0, none⟩)] 116 ∧ Bx w9 w.heap.size #[.int .u8 x, .int .u8 y] 168) ((w2.setCell ⟨M, 3, none⟩ (.int .u8 x)).setCell ⟨M, 5, none⟩ (.int .u8 y)) from ⟨k1.out.1.on g2 (by have := k1.out.1.ne_box hM2.out (by decide); simpa using this), k1.out.2.on g2 (by have := k1.out.2.ne_box hM2.out (by decide); simpa using this)⟩)
 have z3 := hMd.out.cell 3
 have f3 := hMd.out.free 3
 have z5 := hMd.out.cell 5
 have f5 := hMd.out.free 5
 simp at z3 z5
 have hM3 := hid (hM2.out.set 5 (.int .u8 y))
 clear g1 g2
 refine tr 9 (h := fun K hK => ?_)
 go_simp
 refine hK.out _ _ k1.out (fun hHeld => ?_)
 clear hK K
 try simp only [tpa, tpb, tpc, tpd, tpe]
 refine tk 10 ?_ (hy := ?_) (h := ?_)
 rotate_left
 ·intro w' hSw; go_simp; (try with_reducible rfl)
 try simp only [tpa, tpb, tpc, tpd, tpe]
 refine tk 11 ?_ (hy := ?_) (h := ?_)
 rotate_left
 ·intro w' hSw; go_simp; (try with_reducible rfl)
 try simp only [tpa, tpb, tpc, tpd, tpe]
 refine tk 12 ?_ (hy := ?_) (h := ?_)
 rotate_left
 ·intro w' hSw; go_simp; (try with_reducible rfl)
 try simp only [tpa, tpb, tpc, tpd, tpe]
 refine tr 13 (h := fun K hK => ?_)
 go_simp
 refine hK.out _ _ k2.out (fun hHeld => ?_)
 clear hK K
 try simp only [tpa, tpb, tpc, tpd, tpe]
 refine wpAnyH_done (by kernel_rfl) ?_ _
 go_wp2_with fail
 simp [bodyPostS, results, Tryz.results87, go_sem]
 exact ⟨w2, HBd.out, by simpa using hMd.out, rfl⟩
end
section
open Go.Shelf
/-- a post that asks for the normal exit alone -/
def onlyN (Q : Exit → Act → World → Prop) : Exit → Act → World → Prop
 | .normal, a, w => Q .normal a w
 | _, _, _ => False
theorem onlyN_use {P : Program} {c : Code} {Q : Exit → Act → World → Prop} {a : Act} {w : World} (h : Code.wp P c (onlyN Q) a w) : Code.wp P c Q a w :=
 Code.wp_mono (fun e a w q => by cases e <;> first | exact q | exact q.elim) h
set_option maxHeartbeats 1000000 in
theorem run43 (M : Nat) (pa : Option Addr) (ln pc : Nat) (ty ho fi : Int) (va : Value) (w : World) (R : Ending → World → Prop)
  (h : Hid (Calls Tryz.prog 88 #[.pointer (some ⟨M, 0, none⟩), .agg #[.slice pa ln pc, .int .u8 ty, .int .i64 ho, .int .i64 fi], va] ((w.alloc (.cells #[.pointer (some ⟨M, 0, none⟩)] 116)).alloc (.cells #[.slice pa ln pc, .int .u8 ty, .int .i64 ho, .int .i64 fi] 114)) R))
  (hR : Hid (∀ e w', R e w' → Bx w' w.heap.size #[.pointer (some ⟨M, 0, none⟩)] 116 ∧ (∃ v0 v1 v2 v3 v4 v5 v6 v7 v8 v9 v10, Bx w' M #[v0, v1, v2, v3, v4, v5, v6, v7, v8, v9, v10] 119) ∧ ((∃ v, e = .returned (.int .u32 v)) ∨ ∃ x y, e = endE x y))) :
  Calls Tryz.prog 43 #[.pointer (some ⟨M, 0, none⟩), .agg #[.slice pa ln pc, .int .u8 ty, .int .i64 ho, .int .i64 fi], va] w fun e w' => e = .returned (.tuple #[]) ∧ ∃ e0 w1, R e0 w1 ∧
   ((∃ v w2, e0 = .returned (.int .u32 v) ∧ Below w1.heap.size w1 w2 ∧ w' = (w2.setCell ⟨M, 3, none⟩ (.int .u8 1)).setCell ⟨M, 4, none⟩ (.int .u32 v)) ∨
    ∃ x y w2, e0 = endE x y ∧ Below w1.heap.size w1 w2 ∧ w' = (w2.setCell ⟨M, 3, none⟩ (.int .u8 x)).setCell ⟨M, 5, none⟩ (.int .u8 y)) := by
 have hmf : ∀ (fn : Fn) (first cap : Array Value) (w : World), (Instr.makeFunc fn first cap).run Tryz.prog w = .ok (.func fn first cap) w := fun _ _ _ _ => rfl
 go_enter_defers Tryz.func43, Tryz.ntmps43
 go_wp2_with fail
 refine h.out.mono ?_
 intro e w1 hr
 obtain ⟨hbx, ⟨v0, v1, v2, v3, v4, v5, v6, v7, v8, v9, v10, hM⟩, he⟩ := hR.out e w1 hr
 have HRR := hid hr
 clear hr
 have HC := hid hbx
 have HM := hid hM
 clear hbx hM
 rcases he with ⟨v, rfl⟩ | ⟨x, y, rfl⟩
 ·go_wp2_with fail
  have hcd := hid (HC.out.on (grownBy_drew w1 none) (by simp))
  have hMd := hid (HM.out.on (grownBy_drew w1 none) (by simp))
  refine onlyN_use ?_
  refine wp_region_held_drew (S := (fun w9 => Bx w9 w.heap.size #[.pointer (some ⟨M, 0, none⟩)] 116)) (by kernel_rfl) hcd.out (fun hHeld => ?_)
  have HBd := hid (Below.refl w1.heap.size w1).drew
  generalize w1.drew = w2 at hcd hMd HBd hHeld ⊢
  refine tk 0 ?_ (hy := ?_) (h := ?_)
  rotate_left
  ·intro w' hSw; have q := hSw.cell 0; simp at q; go_simp; (try with_reducible rfl)
  try simp only [tpa, tpb, tpc, tpd, tpe]
  refine tk 1 ?_ (hy := ?_) (h := ?_)
  rotate_left
  ·intro w' hSw; have q := hSw.cell 0; simp at q; go_simp; (try with_reducible rfl)
  try simp only [tpa, tpb, tpc, tpd, tpe]
  refine tk 2 ?_ (hy := ?_) (h := ?_)
  rotate_left
  ·intro w' hSw; go_simp; (try with_reducible rfl)
  try simp only [tpa, tpb, tpc, tpd, tpe]
  refine tk 3 ?_ (hy := ?_) (h := ?_)
  rotate_left
  ·intro w' hSw; go_simp; (try with_reducible rfl)
  try simp only [tpa, tpb, tpc, tpd, tpe]
  refine tk 4 ?_ (hy := ?_) (h := ?_)
  rotate_left
  ·intro w' hSw; go_simp; (try with_reducible rfl)
  try simp only [tpa, tpb, tpc, tpd, tpe]
  refine tk 5 ?_ (hy := ?_) (h := ?_)
  rotate_left
  ·intro w' hSw; go_simp; (try with_reducible rfl)
  try simp only [tpa, tpb, tpc, tpd, tpe]
  have g1 := grown_setCell w2 ⟨M, 3, none⟩ (.int .u8 1)
  have k1 := hid (show (fun w9 => Bx w9 w.heap.size #[.pointer (some ⟨M, 0, none⟩)] 116) (w2.setCell ⟨M, 3, none⟩ (.int .u8 1)) from hcd.out.on g1 (by have := hcd.out.ne_box hMd.out (by decide); simpa using this))
  have hM2 := hid (hMd.out.set 3 (.int .u8 1))
  have g2 := grown_setCell (w2.setCell ⟨M, 3, none⟩ (.int .u8 1)) ⟨M, 4, none⟩ (.int .u32 v)
  have k2 := hid (show (fun w9 => Bx w9 w.heap.size #[.pointer (some ⟨M, 0, none⟩)] 116) ((w2.setCell ⟨M, 3, none⟩ (.int .u8 1)).setCell ⟨M, 4, none⟩ (.int .u32 v)) from k1.out.on g2 (by have := k1.out.ne_box hM2.out (by decide); simpa using this))
  have z3 := hMd.out.cell 3
  have f3 := hMd.out.free 3
  have z4 := hMd.out.cell 4
  have f4 := hMd.out.free 4
  simp at z3 z4
  clear g1 g2
  refine tr 6 (h := fun K hK => ?_)
  go_simp
  refine hK.out _ _ k1.out (fun hHeld => ?_)
  clear hK K
  try simp only [tpa, tpb, tpc, tpd, tpe]
  refine tk 7 ?_ (hy := ?_) (h := ?_)
  rotate_left
  ·intro w' hSw; go_simp; (try with_reducible rfl)
  try simp only [tpa, tpb, tpc, tpd, tpe]
  refine tk 8 ?_ (hy := ?_) (h := ?_)
  rotate_left
  ·intro w' hSw; go_simp; (try with_reducible rfl)
  try simp only [tpa, tpb, tpc, tpd, tpe]
  refine tk 9 ?_ (hy := ?_) (h := ?_)
  rotate_left
  ·intro w' hSw; go_simp; (try with_reducible rfl)
  try simp only [tpa, tpb, tpc, tpd, tpe]
  refine tr 10 (h := fun K hK => ?_)
  go_simp
  refine hK.out _ _ k2.out (fun hHeld => ?_)
  clear hK K
  try simp only [tpa, tpb, tpc, tpd, tpe]
  refine wpAnyH_done (by kernel_rfl) ?_ _
  simp only [onlyN]
  go_wp2_with fail
  refine leaves_cons (f := 87) (args := #[.pointer (some ⟨w.heap.size, 0, none⟩)]) (by simp) (by simp [go_sem]) ?_
  refine (run87_n ⟨w.heap.size, 0, none⟩ _).mono ?_
  rintro e u' w'' ⟨rfl, rfl, rfl⟩
  simp [Leaves, settle, results, Tryz.results43, go_sem]
  exact ⟨_, _, HRR.out, .inl ⟨v, rfl, w2, HBd.out, rfl⟩⟩
 ·go_wp2_with fail
  refine leaves_cons (f := 87) (args := #[.pointer (some ⟨w.heap.size, 0, none⟩)]) (by simp) (by simp [go_sem]) ?_
  refine (run87_p w.heap.size M x y v0 v1 v2 v3 v4 v5 v6 v7 v8 v9 v10 [] _ HC.out HM.out).mono ?_
  rintro e u' w'' ⟨rfl, rfl, w2, hb, hM2, rfl⟩
  simp [Leaves, settle, results, Tryz.results43, go_sem]
  exact ⟨_, _, HRR.out, .inr ⟨x, y, rfl, w2, hb, rfl⟩⟩
end
section
open Go.Shelf
theorem mk117 (w : World) : (Instr.makeMap 117 none).run Tryz.prog w = .ok (.map (some w.heap.size)) (w.alloc (.map #[] 0)) := by kernel_rfl
theorem below_row {w w' : World} {k b : Nat} (h : w.grownBy w' (some b)) (hk : k ≤ b) (hs : k ≤ w.heap.size) : Below k w w' :=
 ⟨h.os, h.tape, h.output, h.size, fun j hj => h.block j (by omega) (by simp; omega)⟩
set_option maxHeartbeats 2000000 in
theorem table42 (M : Nat) (w : World) : Calls Tryz.prog 42 #[.pointer (some ⟨M, 0, none⟩)] w fun e w' => e = .returned (.map (some (w.heap.size + 1))) ∧ Below w.heap.size w w' ∧ w'.heap.size = w.heap.size + 2 ∧ Bx w' w.heap.size #[.pointer (some ⟨M, 0, none⟩)] 116 ∧ MpI w' (w.heap.size + 1) (kindsL M w.heap.size) := by
 have hmf : ∀ (fn : Fn) (first cap : Array Value) (w : World), (Instr.makeFunc fn first cap).run Tryz.prog w = .ok (.func fn first cap) w := fun _ _ _ _ => rfl
 obtain ⟨w0, hw0⟩ : ∃ x, x = (w.alloc (.cells #[.pointer (some ⟨M, 0, none⟩)] 116)).alloc (.map #[] 0) := ⟨_, rfl⟩
 have HW := hid hw0
 have m0 : Hid (MpI w0 (w.heap.size + 1) []) := hid (by rw [hw0]; simpa using MpI.new (w.alloc (.cells #[.pointer (some ⟨M, 0, none⟩)] 116)))
 have b0 : Hid (Bx w0 w.heap.size #[.pointer (some ⟨M, 0, none⟩)] 116) := hid (by rw [hw0]; exact (Bx.new w #[.pointer (some ⟨M, 0, none⟩)] 116).al (.map #[] 0))
 have B0 : Hid (Below w.heap.size w w0) := hid (by rw [hw0]; (repeat (first | exact Below.refl _ _ | refine Below.drew ?_ | refine Below.alloc ?_ (by simp <;> omega) _)))
 have s0 : Hid (w0.heap.size = w.heap.size + 2) := hid (by rw [hw0]; simp)
 have hmk : (Instr.makeMap 117 none).run Tryz.prog (w.alloc (.cells #[.pointer (some ⟨M, 0, none⟩)] 116)) = .ok (.map (some (w.heap.size + 1))) w0 := by rw [hw0, mk117]; simp
 clear hw0
 obtain ⟨w1, u1, g1, s1', M1⟩ := m0.out.put Tryz.underlying117 under132 1 (.func (.func 74) #[] #[]) (by rfl)
 have m1 := hid M1
 have b1 := hid (b0.out.on g1 (by simp))
 have B1 := hid (B0.out.trans (below_row g1 (by omega) (by have := s0.out; omega)))
 have s1 := hid (s1'.trans s0.out)
 clear M1 s1' g1
 obtain ⟨w2, u2, g2, s2', M2⟩ := m1.out.put Tryz.underlying117 under132 2 (.func (.func 74) #[] #[]) (by rfl)
 have m2 := hid M2
 have b2 := hid (b1.out.on g2 (by simp))
 have B2 := hid (B1.out.trans (below_row g2 (by omega) (by have := s1.out; omega)))
 have s2 := hid (s2'.trans s1.out)
 clear M2 s2' g2
 obtain ⟨w3, u3, g3, s3', M3⟩ := m2.out.put Tryz.underlying117 under132 3 (.func (.func 75) #[] #[.pointer (some ⟨w.heap.size, 0, none⟩)]) (by rfl)
 have m3 := hid M3
 have b3 := hid (b2.out.on g3 (by simp))
 have B3 := hid (B2.out.trans (below_row g3 (by omega) (by have := s2.out; omega)))
 have s3 := hid (s3'.trans s2.out)
 clear M3 s3' g3
 obtain ⟨w4, u4, g4, s4', M4⟩ := m3.out.put Tryz.underlying117 under132 4 (.func (.func 77) #[] #[.pointer (some ⟨w.heap.size, 0, none⟩)]) (by rfl)
 have m4 := hid M4
 have b4 := hid (b3.out.on g4 (by simp))
 have B4 := hid (B3.out.trans (below_row g4 (by omega) (by have := s3.out; omega)))
 have s4 := hid (s4'.trans s3.out)
 clear M4 s4' g4
 have z4 := b4.out.cell 0
 simp at z4
 obtain ⟨w5, u5, g5, s5', M5⟩ := m4.out.put Tryz.underlying117 under132 5 (.func (.func 80) #[.pointer (some ⟨M, 0, none⟩)] #[]) (by rfl)
 have m5 := hid M5
 have b5 := hid (b4.out.on g5 (by simp))
 have B5 := hid (B4.out.trans (below_row g5 (by omega) (by have := s4.out; omega)))
 have s5 := hid (s5'.trans s4.out)
 clear M5 s5' g5
 have z5 := b5.out.cell 0
 simp at z5
 obtain ⟨w6, u6, g6, s6', M6⟩ := m5.out.put Tryz.underlying117 under132 6 (.func (.func 81) #[.pointer (some ⟨M, 0, none⟩)] #[]) (by rfl)
 have m6 := hid M6
 have b6 := hid (b5.out.on g6 (by simp))
 have B6 := hid (B5.out.trans (below_row g6 (by omega) (by have := s5.out; omega)))
 have s6 := hid (s6'.trans s5.out)
 clear M6 s6' g6
 have z6 := b6.out.cell 0
 simp at z6
 obtain ⟨w7, u7, g7, s7', M7⟩ := m6.out.put Tryz.underlying117 under132 7 (.func (.func 82) #[.pointer (some ⟨M, 0, none⟩)] #[]) (by rfl)
 have m7 := hid M7
 have b7 := hid (b6.out.on g7 (by simp))
 have B7 := hid (B6.out.trans (below_row g7 (by omega) (by have := s6.out; omega)))
 have s7 := hid (s7'.trans s6.out)
 clear M7 s7' g7
 obtain ⟨w8, u8, g8, s8', M8⟩ := m7.out.put Tryz.underlying117 under132 8 (.func (.func 83) #[] #[.pointer (some ⟨w.heap.size, 0, none⟩)]) (by rfl)
 have m8 := hid M8
 have b8 := hid (b7.out.on g8 (by simp))
 have B8 := hid (B7.out.trans (below_row g8 (by omega) (by have := s7.out; omega)))
 have s8 := hid (s8'.trans s7.out)
 clear M8 s8' g8
 go_enter Tryz.func42, Tryz.ntmps42
 go_wp2_with fail
 simp [bodyPost, results, Tryz.results42, go_sem]
 exact ⟨B8.out, s8.out, b8.out, m8.out⟩
end
section
open Go.Shelf
theorem ne92 (o : Option Nat) (w : World) : (binOp .neq 92 (.map o) (.map none)).run Tryz.prog w = .ok (.bool o.isSome) w := by cases o <;> kernel_rfl
set_option maxHeartbeats 1000000 in
theorem made41_yes (X b : Nat) (w : World) (h : w.cell? ⟨X, 6, none⟩ = some (.map (some b))) : Calls Tryz.prog 41 #[.pointer (some ⟨X, 0, none⟩)] w fun e w' => e = .returned (.bool true) ∧ w' = w := by
 have hq := ne92 (some b) w
 go_enter Tryz.func41, Tryz.ntmps41
 go_wp2_with fail
 simp [bodyPost, results, Tryz.results41, go_sem]
set_option maxHeartbeats 1000000 in
theorem made41_no (X : Nat) (w : World) (h : w.cell? ⟨X, 6, none⟩ = some (.map none)) : Calls Tryz.prog 41 #[.pointer (some ⟨X, 0, none⟩)] w fun e w' => e = .returned (.bool false) ∧ w' = w := by
 have hq := ne92 none w
 go_enter Tryz.func41, Tryz.ntmps41
 go_wp2_with fail
 simp [bodyPost, results, Tryz.results41, go_sem]
set_option maxHeartbeats 1000000 in
theorem made41_nil (w : World) : Calls Tryz.prog 41 #[.pointer none] w fun e w' => e = .returned (.bool false) ∧ w' = w := by
 have hq := ne92 none w
 go_enter Tryz.func41, Tryz.ntmps41
 go_wp2_with fail
 simp [bodyPost, results, Tryz.results41, go_sem]
end
section
open Go.Shelf
/-- what stands where run begins: s blocks lay there -/
structure F9 (s X : Nat) (al : Int) (cx : Value) (pa : Option Addr) (ln pc : Nat) (ty ho fi : Int) (w w9 : World) : Prop where
 below : Below s w w9
 size : w9.heap.size = s + 5
 out : Bx w9 s #[.int .u8 0, .int .u32 0, .int .u8 0, .int .i64 0, .int .i64 0, .slice none 0 0] 56
 sig : Bx w9 (s + 1) #[.slice pa ln pc, .int .u8 ty, .int .i64 ho, .int .i64 fi] 114
 box : Bx w9 (s + 2) #[.pointer (some ⟨X, 0, none⟩), .int .i64 al, cx, .int .u8 0, .int .u32 0, .int .u8 0, .int .i64 0, .int .i64 0, .slice none 0 0, .int .i64 0, .map (some (s + 4))] 119
 kc : Bx w9 (s + 3) #[.pointer (some ⟨s + 2, 0, none⟩)] 116
 kinds : MpI w9 (s + 4) (kindsL (s + 2) (s + 3))
theorem F9.make {s X : Nat} {al : Int} {cx : Value} {pa : Option Addr} {ln pc : Nat} {ty ho fi : Int} {w w3 w4 : World} (hs : s = w.heap.size)
  (h3 : w3 = ((w.alloc (.cells #[.int .u8 0, .int .u32 0, .int .u8 0, .int .i64 0, .int .i64 0, .slice none 0 0] 56)).alloc (.cells #[.slice pa ln pc, .int .u8 ty, .int .i64 ho, .int .i64 fi] 114)).alloc (.cells #[.pointer (some ⟨X, 0, none⟩), .int .i64 al, cx, .int .u8 0, .int .u32 0, .int .u8 0, .int .i64 0, .int .i64 0, .slice none 0 0, .int .i64 0, .map none] 119))
  (hb : Below w3.heap.size w3 w4) (h4 : w4.heap.size = w3.heap.size + 2) (hc : Bx w4 w3.heap.size #[.pointer (some ⟨s + 2, 0, none⟩)] 116) (hk : MpI w4 (w3.heap.size + 1) (kindsL (s + 2) w3.heap.size)) :
  F9 s X al cx pa ln pc ty ho fi w (w4.setCell ⟨s + 2, 10, none⟩ (.map (some (s + 4)))) := by
 subst hs
 have e3 : w3.heap.size = w.heap.size + 3 := by rw [h3]; simp
 have b0 : Bx w3 w.heap.size #[.int .u8 0, .int .u32 0, .int .u8 0, .int .i64 0, .int .i64 0, .slice none 0 0] 56 := by rw [h3]; exact ((Bx.new w _ 56).al _).al _
 have b1 : Bx w3 (w.heap.size + 1) #[.slice pa ln pc, .int .u8 ty, .int .i64 ho, .int .i64 fi] 114 := by rw [h3]; simpa using (Bx.new (w.alloc (.cells #[.int .u8 0, .int .u32 0, .int .u8 0, .int .i64 0, .int .i64 0, .slice none 0 0] 56)) #[.slice pa ln pc, .int .u8 ty, .int .i64 ho, .int .i64 fi] 114).al _
 have b2 : Bx w3 (w.heap.size + 2) #[.pointer (some ⟨X, 0, none⟩), .int .i64 al, cx, .int .u8 0, .int .u32 0, .int .u8 0, .int .i64 0, .int .i64 0, .slice none 0 0, .int .i64 0, .map none] 119 := by rw [h3]; simpa using Bx.new ((w.alloc (.cells #[.int .u8 0, .int .u32 0, .int .u8 0, .int .i64 0, .int .i64 0, .slice none 0 0] 56)).alloc (.cells #[.slice pa ln pc, .int .u8 ty, .int .i64 ho, .int .i64 fi] 114)) #[.pointer (some ⟨X, 0, none⟩), .int .i64 al, cx, .int .u8 0, .int .u32 0, .int .u8 0, .int .i64 0, .int .i64 0, .slice none 0 0, .int .i64 0, .map none] 119
 have B3 : Below w.heap.size w w3 := by rw [h3]; (repeat (first | exact Below.refl _ _ | refine Below.drew ?_ | refine Below.alloc ?_ (by simp <;> omega) _))
 have c0 := b0.on (grown_of_below hb) (by simp)
 have c1 := b1.on (grown_of_below hb) (by simp)
 have c2 := b2.on (grown_of_below hb) (by simp)
 have hg := grown_setCell w4 ⟨w.heap.size + 2, 10, none⟩ (.map (some (w.heap.size + 4)))
 have e3b : w3.heap.size + 1 = w.heap.size + 4 := by omega
 rw [e3b, e3] at hk
 rw [e3] at hc
 exact ⟨B3.trans (hb.mono (by omega)) |>.grown hg (by have := hb.size; omega) (fun k e => by cases e; show w.heap.size ≤ w.heap.size + 2; omega), by simp [World.setCell]; omega, c0.on hg (by simp), c1.on hg (by simp), by simpa using c2.set 10 (.map (some (w.heap.size + 4))), hc.on hg (by simp),
  by obtain ⟨es, c, q1, q2⟩ := hk; exact ⟨es, c, (hg.block _ (lt_of_block q1) (by simp)).trans q1, q2⟩⟩
set_option maxHeartbeats 4000000 in
theorem call17_good (X b cb : Nat) (s : ByteArray) (pa : Option Addr) (ln pc : Nat) (ty ho fi : Int) (aa : Option Addr) (ac : Nat) (al : Int) (ca : Option Addr) (cl cc : Nat) (w : World) (R P : Ending → World → Prop) (hX : X < w.heap.size) (h : w.cell? ⟨X, 6, none⟩ = some (.map (some b))) (h4 : w.cell? ⟨X, 4, none⟩ = some (.map (some cb))) (hh : ho < 0) (h0 : 0 ≤ al) (h1 : al ≤ 65536)
  (hl : (Instr.lookup 89 (.map (some cb)) (.string s) true).run Tryz.prog (w.alloc (.cells #[.int .u8 0, .int .u32 0, .int .u8 0, .int .i64 0, .int .i64 0, .slice none 0 0] 56)) = .ok (.tuple #[.agg #[.slice pa ln pc, .int .u8 ty, .int .i64 ho, .int .i64 fi], .bool true]) (w.alloc (.cells #[.int .u8 0, .int .u32 0, .int .u8 0, .int .i64 0, .int .i64 0, .slice none 0 0] 56)))
  (hR : Hid (∀ w9, F9 w.heap.size X al (.slice ca cl cc) pa ln pc ty ho fi w w9 → Calls Tryz.prog 43 #[.pointer (some ⟨w.heap.size + 2, 0, none⟩), .agg #[.slice pa ln pc, .int .u8 ty, .int .i64 ho, .int .i64 fi], .slice aa ln ac] w9 R))
  (hP : Hid (∀ e w', R e w' → e = .returned (.tuple #[]) ∧ ∃ a0 a1 a2 a9 a10 en v fa st rp ea el ec, Bx w' (w.heap.size + 2) #[a0, a1, a2, .int .u8 en, .int .u32 v, .int .u8 fa, .int .i64 st, .int .i64 rp, .slice ea el ec, a9, a10] 119 ∧ Bx w' w.heap.size #[.int .u8 0, .int .u32 0, .int .u8 0, .int .i64 0, .int .i64 0, .slice none 0 0] 56 ∧
   ∀ w'', w'.grownBy w'' (some w.heap.size) → P (.returned (.tuple #[.agg #[.int .u8 en, .int .u32 v, .int .u8 fa, .int .i64 st, .int .i64 rp, .slice ea el ec], .int .i64 0])) w'')) :
  Calls Tryz.prog 17 #[.pointer (some ⟨X, 0, none⟩), .string s, .slice aa ln ac, .int .i64 al, .slice ca cl cc] w P := by
 have h2 : (w.alloc (.cells #[.int .u8 0, .int .u32 0, .int .u8 0, .int .i64 0, .int .i64 0, .slice none 0 0] 56)).cell? ⟨X, 6, none⟩ = some (.map (some b)) := by
  rw [World.cell?_alloc_past _ _ _ (by simpa using hX)]
  exact h
 have h3 : (w.alloc (.cells #[.int .u8 0, .int .u32 0, .int .u8 0, .int .i64 0, .int .i64 0, .slice none 0 0] 56)).cell? ⟨X, 4, none⟩ = some (.map (some cb)) := by
  rw [World.cell?_alloc_past _ _ _ (by simpa using hX)]
  exact h4
 have c := hid (made41_yes X b _ h2)
 have d1 : ¬ al < 0 := by omega
 have d2 : ¬ 65536 < al := by omega
 have d3 : ¬ 0 ≤ ho := by omega
 obtain ⟨w3, hw3⟩ : ∃ x, x = ((w.alloc (.cells #[.int .u8 0, .int .u32 0, .int .u8 0, .int .i64 0, .int .i64 0, .slice none 0 0] 56)).alloc (.cells #[.slice pa ln pc, .int .u8 ty, .int .i64 ho, .int .i64 fi] 114)).alloc (.cells #[.pointer (some ⟨X, 0, none⟩), .int .i64 al, .slice ca cl cc, .int .u8 0, .int .u32 0, .int .u8 0, .int .i64 0, .int .i64 0, .slice none 0 0, .int .i64 0, .map none] 119) := ⟨_, rfl⟩
 have HW := hid hw3
 have ct := hid (table42 (w.heap.size + 2) w3)
 have e3 := hid (show w3.heap.size = w.heap.size + 3 by rw [hw3]; simp)
 have bM3 := hid (show Bx w3 (w.heap.size + 2) #[.pointer (some ⟨X, 0, none⟩), .int .i64 al, .slice ca cl cc, .int .u8 0, .int .u32 0, .int .u8 0, .int .i64 0, .int .i64 0, .slice none 0 0, .int .i64 0, .map none] 119 by rw [hw3]; simpa using Bx.new ((w.alloc (.cells #[.int .u8 0, .int .u32 0, .int .u8 0, .int .i64 0, .int .i64 0, .slice none 0 0] 56)).alloc (.cells #[.slice pa ln pc, .int .u8 ty, .int .i64 ho, .int .i64 fi] 114)) #[.pointer (some ⟨X, 0, none⟩), .int .i64 al, .slice ca cl cc, .int .u8 0, .int .u32 0, .int .u8 0, .int .i64 0, .int .i64 0, .slice none 0 0, .int .i64 0, .map none] 119)
 clear hh h h2 hX h0 h1 h4
 go_enter Tryz.func17, Tryz.ntmps17
 go_wp2_with fail
 refine c.out.mono ?_
 rintro e w2 ⟨rfl, rfl⟩
 go_wp2_with fail
 rw [← hw3]
 refine ct.out.mono ?_
 rintro e w4 ⟨rfl, hb4, hs4, hc4, hk4⟩
 have F := hid (F9.make (s := w.heap.size) (X := X) (al := al) (cx := .slice ca cl cc) rfl HW.out hb4 hs4 hc4 hk4)
 have M4 := bM3.out.on (grown_of_below hb4) (by simp)
 have f10 := M4.free 10
 have z10 := M4.cell 10
 simp at z10
 have e4 : w3.heap.size + 1 = w.heap.size + 4 := by have := e3.out; omega
 rw [e4]
 have cr := hid (hR.out _ F.out)
 have q0 := F.out.sig.cell 0
 have q1 := F.out.sig.cell 1
 have q2 := F.out.sig.cell 2
 have q3 := F.out.sig.cell 3
 simp at q0 q1 q2 q3
 clear hb4 hs4 hc4 hk4 M4 ct hw3
 go_wp2_with fail
 refine cr.out.mono ?_
 intro e w6 hr
 obtain ⟨rfl, a0, a1, a2, a9, a10, en, v, fa, st, rp, ea, el, ec, hM, hO, hfin⟩ := hP.out e w6 hr
 have HF := hid hfin
 have p3 := hM.cell 3
 have p4 := hM.cell 4
 have p5 := hM.cell 5
 have p6 := hM.cell 6
 have p7 := hM.cell 7
 have p8 := hM.cell 8
 simp at p3 p4 p5 p6 p7 p8
 have f0 := hO.free 0
 have f1 := hO.free 1
 have f2 := hO.free 2
 have f3 := hO.free 3
 have f4 := hO.free 4
 have f5 := hO.free 5
 have y0 := hO.cell 0
 have y1 := hO.cell 1
 have y2 := hO.cell 2
 have y3 := hO.cell 3
 have y4 := hO.cell 4
 have y5 := hO.cell 5
 simp at y0 y1 y2 y3 y4 y5
 have HO := hid hO
 clear hM hO hfin hr cr q0 q1 q2 q3 f10 z10
 go_wp2_with fail
 have hST := ((((((HO.out.set 0 (.int .u8 en)).set 1 (.int .u32 v)).set 2 (.int .u8 fa)).set 3 (.int .i64 st)).set 4 (.int .i64 rp)).set 5 (.slice ea el ec))
 simp at hST
 refine bodyPost_ret (v := .tuple #[.agg #[.int .u8 en, .int .u32 v, .int .u8 fa, .int .i64 st, .int .i64 rp, .slice ea el ec], .int .i64 0]) ?_ rfl ?_
 ·rw [results_cell_tmp rfl]
  have hload := run_loadVar_row (P := Tryz.prog) _ w.heap.size 56 56 _ (0, 0) _ hST Tryz.underlying56 rfl (by kernel_rfl)
  simp [asAddr, Result.andThen, hload]
 ·refine HF.out _ ?_
  have h9 := (((((Below.refl 0 w6).setCell (p := ⟨w.heap.size, 0, none⟩) (Nat.zero_le _) (.int .u8 en)).setCell (p := ⟨w.heap.size, 1, none⟩) (Nat.zero_le _) (.int .u32 v)).setCell (p := ⟨w.heap.size, 2, none⟩) (Nat.zero_le _) (.int .u8 fa)).setCell (p := ⟨w.heap.size, 3, none⟩) (Nat.zero_le _) (.int .i64 st)).setCell (p := ⟨w.heap.size, 4, none⟩) (Nat.zero_le _) (.int .i64 rp) |>.setCell (p := ⟨w.heap.size, 5, none⟩) (Nat.zero_le _) (.slice ea el ec)
  exact ⟨h9.os, h9.tape, h9.output, h9.size, fun k hk hn => by
   have hq : k ≠ w.heap.size := fun e => hn (by rw [e])
   rw [Below.heap_setCell _ ⟨w.heap.size, 5, none⟩ _ k hq, Below.heap_setCell _ ⟨w.heap.size, 4, none⟩ _ k hq, Below.heap_setCell _ ⟨w.heap.size, 3, none⟩ _ k hq, Below.heap_setCell _ ⟨w.heap.size, 2, none⟩ _ k hq, Below.heap_setCell _ ⟨w.heap.size, 1, none⟩ _ k hq, Below.heap_setCell _ ⟨w.heap.size, 0, none⟩ _ k hq]⟩
end
section
open Go.Shelf
/-- the empty outcome -/
def zeroO : Value := .agg #[.int .u8 0, .int .u32 0, .int .u8 0, .int .i64 0, .int .i64 0, .slice none 0 0]
set_option maxHeartbeats 1000000 in
theorem call17_nil (s args : Value) (al cx : Value) (w : World) : Calls Tryz.prog 17 #[.pointer none, s, args, al, cx] w fun e w' => e = .returned (.tuple #[zeroO, .int .i64 1]) ∧ Below w.heap.size w w' := by
 go_enter Tryz.func17, Tryz.ntmps17
 go_wp2_with fail
 refine (made41_nil _).mono ?_
 rintro e w2 ⟨rfl, rfl⟩
 go_wp2_with fail
 simp [bodyPost, results, Tryz.results17, go_sem, zeroO]
 all_goals (repeat (first | exact Below.refl _ _ | refine Below.drew ?_ | refine Below.alloc ?_ (by simp <;> omega) _))
set_option maxHeartbeats 1000000 in
theorem call17_off (X : Nat) (s args : Value) (al cx : Value) (w : World) (hX : X < w.heap.size) (h : w.cell? ⟨X, 6, none⟩ = some (.map none)) : Calls Tryz.prog 17 #[.pointer (some ⟨X, 0, none⟩), s, args, al, cx] w fun e w' => e = .returned (.tuple #[zeroO, .int .i64 1]) ∧ Below w.heap.size w w' := by
 have h2 : (w.alloc (.cells #[.int .u8 0, .int .u32 0, .int .u8 0, .int .i64 0, .int .i64 0, .slice none 0 0] 56)).cell? ⟨X, 6, none⟩ = some (.map none) := by
  rw [World.cell?_alloc_past _ _ _ (by simpa using hX)]
  exact h
 have c := hid (made41_no X _ h2)
 clear h h2 hX
 go_enter Tryz.func17, Tryz.ntmps17
 go_wp2_with fail
 refine c.out.mono ?_
 rintro e w2 ⟨rfl, rfl⟩
 go_wp2_with fail
 simp [bodyPost, results, Tryz.results17, go_sem, zeroO]
 all_goals (repeat (first | exact Below.refl _ _ | refine Below.drew ?_ | refine Below.alloc ?_ (by simp <;> omega) _))
end
section
open Go.Shelf
set_option maxHeartbeats 2000000 in
theorem call17_noname (X b cb : Nat) (s : ByteArray) (z args : Value) (al : Int) (cx : Value) (w : World) (hX : X < w.heap.size) (h : w.cell? ⟨X, 6, none⟩ = some (.map (some b))) (h4 : w.cell? ⟨X, 4, none⟩ = some (.map (some cb))) (h0 : 0 ≤ al) (h1 : al ≤ 65536)
  (hl : (Instr.lookup 89 (.map (some cb)) (.string s) true).run Tryz.prog (w.alloc (.cells #[.int .u8 0, .int .u32 0, .int .u8 0, .int .i64 0, .int .i64 0, .slice none 0 0] 56)) = .ok (.tuple #[.agg #[.slice none 0 0, .int .u8 0, .int .i64 0, .int .i64 0], .bool false]) (w.alloc (.cells #[.int .u8 0, .int .u32 0, .int .u8 0, .int .i64 0, .int .i64 0, .slice none 0 0] 56))) :
  Calls Tryz.prog 17 #[.pointer (some ⟨X, 0, none⟩), .string s, args, .int .i64 al, cx] w fun e w' => e = .returned (.tuple #[zeroO, .int .i64 291]) ∧ Below w.heap.size w w' := by
 have h2 : (w.alloc (.cells #[.int .u8 0, .int .u32 0, .int .u8 0, .int .i64 0, .int .i64 0, .slice none 0 0] 56)).cell? ⟨X, 6, none⟩ = some (.map (some b)) := by
  rw [World.cell?_alloc_past _ _ _ (by simpa using hX)]
  exact h
 have h3 : (w.alloc (.cells #[.int .u8 0, .int .u32 0, .int .u8 0, .int .i64 0, .int .i64 0, .slice none 0 0] 56)).cell? ⟨X, 4, none⟩ = some (.map (some cb)) := by
  rw [World.cell?_alloc_past _ _ _ (by simpa using hX)]
  exact h4
 have c := hid (made41_yes X b _ h2)
 have d1 : ¬ al < 0 := by omega
 have d2 : ¬ 65536 < al := by omega
 clear h h2 hX h0 h1 h4
 go_enter Tryz.func17, Tryz.ntmps17
 go_wp2_with fail
 refine c.out.mono ?_
 rintro e w2 ⟨rfl, rfl⟩
 go_wp2_with fail
 simp [bodyPost, results, Tryz.results17, go_sem, zeroO]
 all_goals (repeat (first | exact Below.refl _ _ | refine Below.drew ?_ | refine Below.alloc ?_ (by simp <;> omega) _))
end
end Go.Proofs.YtlabadkfkbenoaaGreatDoor
