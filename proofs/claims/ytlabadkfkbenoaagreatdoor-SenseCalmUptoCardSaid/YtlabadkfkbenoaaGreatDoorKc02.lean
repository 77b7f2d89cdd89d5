/- Walks and plain laws, merged: CalS CalT ArgA. No condition. -/
import Derived.Test.YtlabadkfkbenoaaGreatDoorKc01
namespace Go.Proofs.YtlabadkfkbenoaaGreatDoor
open Go.RowKit
set_option linter.unusedVariables false
set_option linter.unusedSimpArgs false
set_option maxRecDepth 100000
set_option maxHeartbeats 64000000
section
open Go.Shelf
theorem gatF_keep {vs : VS} : ∀ {l : List FH} {i : Nat} {c c2 : CSg}, gatF l i vs c = some c2 → ∀ s x, getM s c = some x → getM s c2 = some x
 | [], _, _, _, e, s, x, h => by cases e; exact h
 | a :: r, i, c, c2, e, s, x, h => by
  simp only [gatF] at e
  split at e
  ·cases e
  rename_i hn
  refine gatF_keep e s x ?_
  rw [getM_putM]
  split
  ·rename_i hs
   have : s = a.name := (MapKept.bytes_beq s a.name).1 hs
   subst this
   exfalso
   apply hn
   unfold hasN
   rw [h]
   simp
  ·exact h
theorem gatF_at {vs : VS} : ∀ {l : List FH} {i : Nat} {c c2 : CSg}, gatF l i vs c = some c2 → ∀ j (h : j < l.length), getM l[j].name c2 = some ⟨l[j].params, l[j].type, -1, ((i + j : Nat) : Int)⟩
 | a :: r, i, c, c2, e, j, h => by
  simp only [gatF] at e
  split at e
  ·cases e
  cases j with
  | zero =>
   refine gatF_keep e _ _ ?_
   simp only [List.getElem_cons_zero]
   rw [getM_putM, if_pos ((MapKept.bytes_beq _ _).2 rfl)]
   rfl
  | succ j =>
   have := gatF_at e j (by simpa using h)
   simp only [List.getElem_cons_succ]
   rw [this]
   congr 2
   omega
theorem gatU_fn {u : UT} {vs : VS} {cs : CSg} (h : gatU u = some (vs, cs)) (j : Nat) (hj : j < u.fs.length) : getM u.fs[j].name cs = some ⟨u.fs[j].params, u.fs[j].type, -1, (j : Int)⟩ := by
 obtain ⟨-, c1, h1, h2⟩ := gatU_parts h
 have := gatF_at h2 j hj
 rw [this, Nat.zero_add]
theorem nd_big {A A2 Z : Nat} (h : A ≤ A2) : nd A Z 0 0 0 ≤ nd A2 Z 0 0 0 := by
 unfold nd
 have h1 : (A + 1) * (Z + 4) ≤ (A2 + 1) * (Z + 4) := Nat.mul_le_mul_right _ (by omega)
 have h2 : (A - 0) * (Z + 4) ≤ (A2 - 0) * (Z + 4) := Nat.mul_le_mul_right _ (by omega)
 have h3 : (17 - 0) * ((A + 1) * (Z + 4)) ≤ (17 - 0) * ((A2 + 1) * (Z + 4)) := Nat.mul_le_mul_left _ h1
 omega
theorem call_fuel : ∃ K : Nat, ∀ (u : UT) (vs : VS) (cs : CSg) (al : Nat) (values : List Int) (s : ByteArray) (g : Sig) (args : List Int) (held : List (List Int)), u.Wf → senseU u = 0 → gatU u = some (vs, cs) → al ≤ 65536 → (∀ x ∈ values, U x) → getM s cs = some g → g.host < 0 → args.length = g.params.length →
  (evl (cfU u vs cs al values) K).F 0 g args ⟨held, 0, 0, []⟩ ≠ .lost := by
 refine ⟨nd 65536 16384 0 0 0, fun u vs cs al values s g args held wf hs hg ha hv hq hh hl => ?_⟩
 have hc := cfU_ok (allowed := al) (values := values) wf hs hg ha hv
 exact (evl_nl hc.ok hc.size _).F 0 s g args _ (by omega) hq hh hl (nd_big ha)
def callE (cs : CSg) (s : ByteArray) (n : Nat) : Int :=
 match getM s cs with
 | none => 291
 | some g => if 0 ≤ g.host then 291 else if n = g.params.length then 0 else 293
section
variable {w : World} {B : Nat} {u : UT} {vs : VS} {cs : CSg} {hd : HD} {xs : List Value} {X vb cb pb : Nat} {vg vh vf hv : Value}
theorem call17_any (h : WoR w B u vs cs (plG u.gs 0 []) hd xs X vb cb pb vg vh vf hv) (wf : u.Wf) (hs : senseU u = 0) (hg : gatU u = some (vs, cs)) (ho : HdOk u hd) {s : ByteArray} {args : List Int} {va : Value} {al : Nat} {values : List Int} {vv : Value} {k : Nat}
  (hU : ∀ x ∈ args, U x) (hra : RowA w args va) (ha : al ≤ 65536) (hvU : ∀ x ∈ values, U x) (hv0 : ValR w w.heap.size (own52 xs) values vv) (hvl : values.length ≤ 1000000000)
  (hnl : ∀ g, getM s cs = some g → g.host < 0 → args.length = g.params.length → (evl (cfU u vs cs al values) k).F 0 g args ⟨hd.map (·.2), 0, 0, []⟩ ≠ .lost) :
  Calls Tryz.prog 17 #[.pointer (some ⟨X, 0, none⟩), .string s, va, .int .i64 al, vv] w fun e w' =>
   (callE cs s args.length ≠ 0 ∧ e = .returned (.tuple #[zeroO, .int .i64 (callE cs s args.length)]) ∧ Below w.heap.size w w') ∨
   (callE cs s args.length = 0 ∧ ∃ g, getM s cs = some g ∧ g.host < 0 ∧ args.length = g.params.length ∧ PCall B u vs cs hd xs X vb cb pb vg vh vf hv ((evl (cfU u vs cs al values) k).F 0 g args ⟨hd.map (·.2), 0, 0, []⟩) w e w') := by
 have c6 : w.cell? ⟨X, 6, none⟩ = some (.map (some pb)) := by simpa using h.box.cell 6
 have c4 : w.cell? ⟨X, 4, none⟩ = some (.map (some cb)) := by simpa using h.box.cell 4
 have hX := h.box.lt
 rcases h.sig s with ⟨e1, hlk⟩ | ⟨g, ka, kc, e1, hsp, hlk⟩
 ·have e : callE cs s args.length = 291 := by unfold callE; rw [e1]
  rw [e]
  exact (call17_noname X pb cb s .nilIface va al vv w hX c6 c4 (by omega) (by omega) (hlk _ (by (repeat (first | exact Below.refl _ _ | refine Below.drew ?_ | refine Below.alloc ?_ (by simp <;> omega) _))))).mono fun e w' q => .inl ⟨by decide, q.1, q.2⟩
 by_cases hh : 0 ≤ g.host
 ·have e : callE cs s args.length = 291 := by unfold callE; rw [e1]; simp only [hh, if_true]
  rw [e]
  exact (call17_host X pb cb s ka g.params.length kc g.type g.host g.fn va al vv w hX c6 c4 hh (by omega) (by omega) (hlk _ (by (repeat (first | exact Below.refl _ _ | refine Below.drew ?_ | refine Below.alloc ?_ (by simp <;> omega) _))))).mono fun e w' q => .inl ⟨by decide, q.1, q.2⟩
 by_cases hl : args.length = g.params.length
 ·have e : callE cs s args.length = 0 := by unfold callE; rw [e1]; simp only [hh, if_false, hl, if_true]
  rw [e]
  exact (call17_call h wf hs hg ho e1 (by omega) hl hU hra ha hvU hv0 hvl (hnl g e1 (by omega) hl)).mono fun e w' q => .inr ⟨rfl, g, e1, by omega, hl, q⟩
 ·have e : callE cs s args.length = 293 := by unfold callE; rw [e1]; simp only [hh, if_false, hl]
  rw [e]
  obtain ⟨aa, ab, ao, ac, rfl, -, -⟩ := hra
  exact (call17_arity X pb cb s ka g.params.length kc g.type g.host g.fn aa args.length ac al vv w hX c6 c4 (by omega) (fun q => hl q.symm) (by omega) (by omega) (hlk _ (by (repeat (first | exact Below.refl _ _ | refine Below.drew ?_ | refine Below.alloc ?_ (by simp <;> omega) _))))).mono fun e w' q => .inl ⟨by decide, q.1, q.2⟩
end
end
section
open Go.Shelf
structure A4 (w0 : World) (n : Nat) (c26 c29 : Array Value) (wr : World) : Prop where
 b1 : Bx wr n c26 26
 b2 : Bx wr (n + 1) c29 29
 below : Below n w0 wr
theorem A4.on {w0 wr w' : World} {n : Nat} {c26 c29 : Array Value} (h : A4 w0 n c26 c29 wr) (hb : Below wr.heap.size wr w') : A4 w0 n c26 c29 w' :=
 ⟨h.b1.on (grown_of_below hb) (by simp), h.b2.on (grown_of_below hb) (by simp), h.below.trans (hb.mono (Nat.le_of_lt h.b1.lt))⟩
theorem A4.far {w0 wr w' : World} {n m : Nat} {c26 c29 : Array Value} (h : A4 w0 n c26 c29 wr) (hb : Below m wr w') (hm : n + 2 ≤ m) : A4 w0 n c26 c29 w' :=
 ⟨(hb.block _ (by omega)).trans h.b1, (hb.block _ (by omega)).trans h.b2, h.below.trans (hb.mono (by omega))⟩
theorem A4.start (w : World) (c26 c29 : Array Value) : A4 w w.heap.size c26 c29 ((w.alloc (.cells c26 26)).alloc (.cells c29 29)) :=
 ⟨(Bx.new w c26 26).al _, by simpa using Bx.new (w.alloc (.cells c26 26)) c29 29, by (repeat (first | exact Below.refl _ _ | refine Below.drew ?_ | refine Below.alloc ?_ (by simp <;> omega) _))⟩
theorem HeldR.kpt {w w' : World} {B : Nat} {hd : HD} {xs : List Value} {v : Value} (h : HeldR w B hd xs v) {T : Nat → Prop} (hk : Kpt T w.heap.size w w') (hT : ∀ b, B ≤ b → ¬ T b) : HeldR w' B hd xs v :=
 ⟨h.len, hk.own h.row fun b hb => ⟨(h.row.lt b hb).2, hT b (own_from h.row hb)⟩, fun i h1 h2 => hk.own (h.rows i h1 h2) fun b hb => ⟨((h.rows i h1 h2).lt b hb).2, hT b (own_from (h.rows i h1 h2) hb)⟩, h.pos, h.nd⟩
theorem RowA.valR {w w' : World} {l : List Int} {v : Value} (h : RowA w l v) (hb : Below w.heap.size w w') {xs : List Value} (hx : ∀ b, own52 xs b → w.heap.size ≤ b) : ValR w' w'.heap.size (own52 xs) l v := by
 obtain ⟨aa, ab, ao, ac, h1, h2, h3⟩ := h
 refine ⟨aa, ab, ao, ac, h1, h2, ?_, fun i hi => cell_on (h3 i hi) hb⟩
 by_cases h0 : l.length = 0
 ·exact .inl h0
 ·have := World.block_lt_of_cell? _ _ (h3 0 (by omega))
  simp only [] at this
  exact .inr ⟨by have := hb.size; omega, fun q => by have := hx _ q; omega⟩
theorem six_set {w : World} {b : Nat} {c0 c1 c2 c3 c4 c5 : Value} (h : Bx w b #[c0, c1, c2, c3, c4, c5] 56) (v0 v1 v2 v3 v4 v5 : Value) :
  w.grownBy ((((((w.setCell ⟨b, 0, none⟩ v0).setCell ⟨b, 1, none⟩ v1).setCell ⟨b, 2, none⟩ v2).setCell ⟨b, 3, none⟩ v3).setCell ⟨b, 4, none⟩ v4).setCell ⟨b, 5, none⟩ v5) (some b) ∧
   Bx ((((((w.setCell ⟨b, 0, none⟩ v0).setCell ⟨b, 1, none⟩ v1).setCell ⟨b, 2, none⟩ v2).setCell ⟨b, 3, none⟩ v3).setCell ⟨b, 4, none⟩ v4).setCell ⟨b, 5, none⟩ v5) b #[v0, v1, v2, v3, v4, v5] 56 := by
 have h9 := (((((Below.refl 0 w).setCell (p := ⟨b, 0, none⟩) (Nat.zero_le _) v0).setCell (p := ⟨b, 1, none⟩) (Nat.zero_le _) v1).setCell (p := ⟨b, 2, none⟩) (Nat.zero_le _) v2).setCell (p := ⟨b, 3, none⟩) (Nat.zero_le _) v3).setCell (p := ⟨b, 4, none⟩) (Nat.zero_le _) v4 |>.setCell (p := ⟨b, 5, none⟩) (Nat.zero_le _) v5
 have hs := (((((h.set 0 v0).set 1 v1).set 2 v2).set 3 v3).set 4 v4).set 5 v5
 simp at hs
 exact ⟨⟨h9.os, h9.tape, h9.output, h9.size, fun k hk hn => by
  have hq : k ≠ b := fun e => hn (by rw [e])
  rw [Below.heap_setCell _ ⟨b, 5, none⟩ _ k hq, Below.heap_setCell _ ⟨b, 4, none⟩ _ k hq, Below.heap_setCell _ ⟨b, 3, none⟩ _ k hq, Below.heap_setCell _ ⟨b, 2, none⟩ _ k hq, Below.heap_setCell _ ⟨b, 1, none⟩ _ k hq, Below.heap_setCell _ ⟨b, 0, none⟩ _ k hq]⟩, hs⟩
theorem A4.gr {w0 wr w' : World} {n b : Nat} {c26 c29 : Array Value} (h : A4 w0 n c26 c29 wr) (hg : wr.grownBy w' (some b)) (hn : n + 2 ≤ b) : A4 w0 n c26 c29 w' :=
 ⟨h.b1.on hg (by simp; omega), h.b2.on hg (by simp; omega), h.below.grown hg (Nat.le_of_lt h.b1.lt) (fun k e => by cases e; omega)⟩
theorem HeldR.gr {w w' : World} {B : Nat} {hd : HD} {xs : List Value} {v : Value} (h : HeldR w B hd xs v) {b : Nat} {c : Array Value} (hx : Bx w b c 56) (hg : w.grownBy w' (some b)) : HeldR w' B hd xs v :=
 h.on hg (.inr fun e => (h.box hx (by decide) (by decide)).1 e.symm) (fun x hm => .inr fun e => (h.box hx (by decide) (by decide)).2 x hm e.symm)
theorem WoR.gr {w w' : World} {B : Nat} {u : UT} {vs : VS} {cs : CSg} {pl : List (ByteArray × Int)} {hd : HD} {xs : List Value} {X vb cb pb : Nat} {vg vh vf hv : Value} (h : WoR w B u vs cs pl hd xs X vb cb pb vg vh vf hv) {b : Nat} {c : Array Value} (hx : Bx w b c 56) (hg : w.grownBy w' (some b)) (hB : B ≤ b) :
  WoR w' B u vs cs pl hd xs X vb cb pb vg vh vf hv := by
 have h2 := h.moveT (w' := w') (T := fun q => q = b) (held := hd.map (·.2)) (Kpt.gr hg (Nat.le_refl _) fun k e => by cases e; exact .inl rfl) (fun q hq e => by omega) (fun e => h.box.ne_box hx (by decide) (by simpa using e)) (fun q hq e => hx.not_row h.held.row (by decide) (by rw [hq, e])) (by simp) (fun i h1 h2 => by
  rw [held_at]
  exact (h.held.rows i h1 (by simpa using h2)).kept hg (.inr fun e => hx.not_row (h.held.rows i h1 (by simpa using h2)) (by decide) e.symm)) (fun q hq => by
  obtain ⟨a, ha, rfl⟩ := List.mem_map.1 hq
  obtain ⟨i, hi, rfl⟩ := List.getElem_of_mem ha
  exact h.held.pos i hi)
 rwa [hdOf_same] at h2
theorem WoR.far52 {w : World} {B : Nat} {u : UT} {vs : VS} {cs : CSg} {pl : List (ByteArray × Int)} {hd : HD} {xs : List Value} {X vb cb pb : Nat} {vg vh vf hv : Value} (h : WoR w B u vs cs pl hd xs X vb cb pb vg vh vf hv) {b : Nat} (hb : own52 xs b) : B ≤ b ∧ b < w.heap.size := by
 obtain ⟨x, hx, hq⟩ := hb
 obtain ⟨i, hi, rfl⟩ := List.getElem_of_mem hx
 have hr := h.held.rows i hi (by have := h.held.len; omega)
 exact ⟨own_from hr hq, (hr.lt b hq).2⟩
theorem calm4 (u : UT) (v : Value) (nm : ByteArray) (args values : List Int) (va0 vv0 vl : Value) (st mo : Int) (w : World) (ok : u.Ok) (wf : u.Wf) (hln : Hid (∀ x ∈ u.gs, 0 ≤ x.len ∧ x.len < 4294967296)) (hu : UIn w false none u v)
  (hst : -9223372036854775808 ≤ st ∧ st ≤ 9223372036854775807) (hra : RowA w args va0) (hrv : RowA w values vv0) (hU : Hid (∀ x ∈ args, U x)) (hV : Hid (∀ x ∈ values, U x)) (hvl : values.length ≤ 1000000000) :
  Calls Tryz.prog 4 #[v, .agg #[.string nm, va0, .int .i64 st, .int .i64 mo, vv0, vl]] w fun e w' => e = .returned (.bool true) ∧ Below w.heap.size w w' := by
 have HU := hid hu
 have OK := hid ok
 have WF := hid wf
 have HST := hid hst
 have HVL := hid hvl
 obtain ⟨Kf, hKf⟩ := call_fuel
 have HKf := hid hKf
 obtain ⟨vg, vh, vf, rfl, hg, hh, hf⟩ := hu
 obtain ⟨ga, gc, rfl⟩ := hg.shape
 obtain ⟨ha, hc, rfl⟩ := hh.shape
 obtain ⟨fa, fb, fo, fc, rfl, hfa, hfi⟩ := SlR.open hf
 have HF := hid hfi
 have HRA := hid hra
 have HRV := hid hrv
 obtain ⟨aa, ab, ao, ac, rfl, -, -⟩ := hra
 obtain ⟨ba0, bb0, bo0, bc0, rfl, -, -⟩ := hrv
 have g3 := ok.f
 obtain ⟨mg, hmg⟩ : ∃ m, m = u.gs.length := ⟨_, rfl⟩
 obtain ⟨mh, hmh⟩ : ∃ m, m = u.hs.length := ⟨_, rfl⟩
 obtain ⟨mf, hmf⟩ : ∃ m, m = u.fs.length := ⟨_, rfl⟩
 obtain ⟨la, hla⟩ : ∃ m, m = args.length := ⟨_, rfl⟩
 obtain ⟨lv, hlv⟩ : ∃ m, m = values.length := ⟨_, rfl⟩
 rw [← hmf] at hfa g3
 rw [← hmg, ← hmh, ← hmf] at HU ⊢
 rw [← hla] at HRA ⊢
 rw [← hlv] at HRV ⊢
 have HMF := hid hmf
 have HLA := hid hla
 have HLV := hid hlv
 obtain ⟨W1, hW1⟩ : ∃ x : World, x = (w.alloc (.cells #[.slice ga mg gc, .slice ha mh hc, .slice fa mf fc] 26)).alloc (.cells #[.string nm, .slice aa la ac, .int .i64 st, .int .i64 mo, .slice ba0 lv bc0, vl] 29) := ⟨_, rfl⟩
 have A1 := hid (show A4 w w.heap.size #[.slice ga mg gc, .slice ha mh hc, .slice fa mf fc] #[.string nm, .slice aa la ac, .int .i64 st, .int .i64 mo, .slice ba0 lv bc0, vl] W1 by rw [hW1]; exact A4.start _ _ _)
 have c1 := hid (lives8 W1)
 clear hg hh hf hfi ok wf hst hvl hKf hmg hmh hmf hla hlv
 go_enter Tryz.func4, Tryz.ntmps4
 go_wp2_with fail
 rw [← hW1]
 clear hW1
 refine c1.out.mono ?_
 rintro e w2 ⟨rfl, hb2⟩
 have A2 := hid (A1.out.on hb2)
 have c2 := hid (large9 u (.agg #[.slice ga mg gc, .slice ha mh hc, .slice fa mf fc]) w2 OK.out (HU.out.mono A2.out.below))
 have p0 := A2.out.b1.cell 0
 have p1 := A2.out.b1.cell 1
 have p2 := A2.out.b1.cell 2
 simp at p0 p1 p2
 clear c1 hb2
 go_wp2_with fail
 refine c2.out.mono ?_
 rintro e w3 ⟨⟨b, rfl⟩, hb3⟩
 have A3 := hid (A2.out.on hb3)
 clear c2 hb3 p0 p1 p2
 cases b with
 | true =>
  go_wp2_with fail
  go_ret
  exact ⟨rfl, A3.out.below⟩
 | false =>
  have c3 := hid (new16 u (.agg #[.slice ga mg gc, .slice ha mh hc, .slice fa mf fc]) w3 OK.out WF.out hln (HU.out.mono A3.out.below))
  have p0 := A3.out.b1.cell 0
  have p1 := A3.out.b1.cell 1
  have p2 := A3.out.b1.cell 2
  simp at p0 p1 p2
  go_wp2_with fail
  refine c3.out.mono ?_
  intro e w4 hp
  obtain ⟨hb4, hor⟩ := hp
  have A4a := hid (A3.out.on hb4)
  clear c3 hb4 p0 p1 p2
  rcases hor with ⟨hs, rfl⟩ | ⟨hs, B, vs, cs, X, vb, cb, pb, vg', vh', vf', hv, xs, rfl, hgu, hB, hX, hW⟩
  ·generalize senseU u = ck at hs ⊢
   have hck : (ck == 0) = false := by simpa using hs
   have hck2 : (ck != 0) = true := by simpa using hs
   go_wp2_with fail
   go_ret
   exact ⟨rfl, A4a.out.below⟩
  have HS := hid hs
  have HG := hid hgu
  have nB := hid (show w.heap.size + 2 ≤ B by have := A3.out.b2.lt; omega)
  have FX := hid (fun b (hb : own52 xs b) => hW.far52 hb)
  have IO := hid (HdOk.init WF.out hs)
  have c5 := hid (held20 B u vs cs _ _ xs X vb cb pb vg' vh' vf' hv w4 hW (by obtain ⟨_, _, _, _, h256, _⟩ := sense_parts hs; have := IO.out.len; omega) (hid fun a ha => (IO.out.pos WF.out hs a.2 (List.mem_map.2 ⟨a, ha, rfl⟩)).2))
  have HW4 := hid hW
  have S4 := hid (show B ≤ w4.heap.size from hW.lB)
  have H256 := hid (show u.gs.length ≤ 256 by obtain ⟨_, _, _, _, h256, _⟩ := sense_parts hs; exact h256)
  have LW := hid (show Hid (∀ a ∈ initH u.gs, a.2.length ≤ 4096) from hid fun a ha => (IO.out.pos WF.out hs a.2 (List.mem_map.2 ⟨a, ha, rfl⟩)).2)
  clear hs hgu hB hX hW
  go_wp2_with fail
  refine c5.out.mono ?_
  rintro e w5 ⟨v7, ys, rfl, hb5, hH⟩
  have A5 := hid (A4a.out.on hb5)
  have W5 := hid (HW4.out.on hb5)
  have H5 := hid hH
  obtain ⟨a7, c7, rfl, -⟩ := own_shape2 hH.row
  clear c5 hb5 hH HW4
  go_wp2_with fail
  go_loopw [4, 8] (fun z i wr => ∃ k : Nat, z = .bool false ∧ i = .int .i64 k ∧ k ≤ mf ∧ A4 w w.heap.size #[.slice ga mg gc, .slice ha mh hc, .slice fa mf fc] #[.string nm, .slice aa la ac, .int .i64 st, .int .i64 mo, .slice ba0 lv bc0, vl] wr ∧ WoR wr B u vs cs (plG u.gs 0 []) (initH u.gs) xs X vb cb pb vg' vh' vf' hv ∧ HeldR wr w4.heap.size (initH u.gs) ys (.slice a7 (initH u.gs).length c7)) (fun _ i _ => mf - (intOf i).toNat)
  case atStart => exact ⟨0, rfl, rfl, Nat.zero_le _, A5.out, W5.out, H5.out⟩
  case round =>
   clear A5 W5 H5
   obtain ⟨k, rfl, rfl, hk, hA, hW, hH⟩ := hrel
   have A5 := hid hA
   have W5 := hid hW
   have H5 := hid hH
   have p2 := hA.b1.cell 2
   simp at p2
   clear hA hW hH
   by_cases hlt : k < mf
   ·have hlt' : k < u.fs.length := by have := HMF.out; omega
    obtain ⟨-, y1, -, -, -, ⟨bv, y5, hbv⟩⟩ := HF.out k hlt'
    have hbl := OK.out.fb _ (List.getElem_mem hlt')
    have hfn := hid (gatU_fn HG.out k hlt')
    have hka2 : fa = some ⟨fb, fo, none⟩ := by rcases hfa with q | q; (· omega); (· exact q)
    subst hka2
    have hfk : u.fs[k]? = some u.fs[k] := List.getElem?_eq_getElem hlt'
    generalize u.fs[k] = a at *
    have HFK := hid hfk
    obtain ⟨at0, fnm, ps, ty, op, bd⟩ := a
    obtain ⟨ba, bc, rfl⟩ := hbv.shape'
    simp only [] at y1 y5 hbl hbv hfn
    have HFN := hid hfn
    have HBL := hid hbl
    have HBV := hid hbv
    have Y1 := hid y1
    have Y5 := hid y5
    clear hfa hfk hfn y1 y5 hbv hbl
    go_wp2_with fail
    by_cases hnm : fnm = nm
    ·subst hnm
     have D5 := hid (Below.refl wr.heap.size wr).drew
     have A6 := hid (A5.out.on D5.out)
     have W6 := hid (W5.out.on D5.out)
     have H6 := hid (H5.out.mono D5.out)
     refine wp_region_held_drew (S := (fun w9 => A4 w w.heap.size #[.slice ga mg gc, .slice ha mh hc, .slice (some ⟨fb, fo, none⟩) mf fc] #[.string fnm, .slice aa la ac, .int .i64 st, .int .i64 mo, .slice ba0 lv bc0, vl] w9)) (by kernel_rfl) A6.out (fun hHeld => ?_)
     generalize wr.drew = w6 at D5 A6 W6 H6 hHeld ⊢
     clear p2
     refine tk 0 ?_
     refine tk 1 ?_ (hy := by intro w' hSw; have q2 := hSw.b1.cell 2; simp at q2; go_simp; (try with_reducible rfl))
     refine tk 2 ?_
     refine tk 3 ?_
     refine tk 4 ?_
     refine tk 5 ?_ (hy := by intro w' hSw; have x1 := cell_on Y1.out hSw.below; go_simp; (try with_reducible rfl))
     refine tk 6 ?_
     refine tk 7 ?_ (hy := by intro w' hSw; have q := hSw.b2.cell 0; simp at q; go_simp; (try with_reducible rfl))
     refine tk 8 ?_
     refine tk 9 ?_
     refine tk 10 ?_
     refine tk 11 ?_ (hy := by intro w' hSw; have q2 := hSw.b1.cell 2; simp at q2; go_simp; (try with_reducible rfl))
     refine tk 12 ?_
     refine tk 13 ?_
     refine tk 14 ?_
     refine tk 15 ?_ (hy := by intro w' hSw; have x5 := cell_on Y5.out hSw.below; go_simp; (try with_reducible rfl))
     refine tr 16 fun K hK => ?_
     go_simp
     go_at_call 21
     refine (calm21 (bd.sz + 1) bd (.slice ba bd.len bc) w6 (Nat.lt_succ_self _) HBL.out (HBV.out.mono A6.out.below)).mono ?_
     rintro e w7 ⟨rfl, hb7⟩
     have hk := hHeld.on hb7
     have A7 := hid hk
     have W7 := hid (W6.out.on hb7)
     have H7 := hid (H6.out.mono hb7)
     clear hHeld hb7 A6 W6 H6 D5 A5 W5 H5
     cases hcm : calmS bd with
     | false =>
      go_wp2_with fail
      refine hK.out _ _ hk (fun hHeld => ?_)
      clear hK K hk
      try simp only [tpa, tpb, tpc, tpd, tpe]
      refine tk 17 ?_
      refine tk 18 ?_
      refine td ?_
      clear hHeld hcm
      go_wp2_with fail
      go_roundw
      case rel => exact ⟨k + 1, rfl, by go_num, by omega, A7.out, W7.out, H7.out⟩
      case measure => simp [intOf]; omega
     | true =>
      go_wp2_with fail
      refine hK.out _ _ hk (fun hHeld => ?_)
      clear hK K hk
      try simp only [tpa, tpb, tpc, tpd, tpe]
      refine tk 17 ?_
      refine tk 18 ?_
      refine td ?_
      clear hHeld
      have HCM := hid hcm
      clear hcm
      go_wp2_with fail
      have D7 := hid (Below.refl w7.heap.size w7).drew
      have A8 := hid (A7.out.on D7.out)
      have W8 := hid (W7.out.on D7.out)
      have H8 := hid (H7.out.mono D7.out)
      refine wp_region_held_drew (S := (fun w9 => A4 w w.heap.size #[.slice ga mg gc, .slice ha mh hc, .slice (some ⟨fb, fo, none⟩) mf fc] #[.string fnm, .slice aa la ac, .int .i64 st, .int .i64 mo, .slice ba0 lv bc0, vl] w9)) (by kernel_rfl) A8.out (fun hHeld => ?_)
      generalize w7.drew = w8 at D7 A8 W8 H8 hHeld ⊢
      refine tk 0 ?_
      refine tk 1 ?_
      refine tk 2 ?_ (hy := by intro w' hSw; have q := hSw.b2.cell 0; simp at q; go_simp; (try with_reducible rfl))
      refine tk 3 ?_
      refine tk 4 ?_ (hy := by intro w' hSw; have q := hSw.b2.cell 1; simp at q; go_simp; (try with_reducible rfl))
      refine tk 5 ?_
      refine tk 6 ?_ (hy := by intro w' hSw; have q := hSw.b2.cell 2; simp at q; go_simp; (try with_reducible rfl))
      refine tk 8 ?_
      refine tk 9 ?_ (hy := by intro w' hSw; have q := hSw.b2.cell 4; simp at q; go_simp; (try with_reducible rfl))
      obtain ⟨al, hal⟩ : ∃ al : Nat, pickV st = (al : Int) := ⟨(pickV st).toNat, by have := pickV_in st; omega⟩
      have hal2 : al ≤ 65536 := by have := pickV_in st; omega
      have HAL := hid hal
      clear hal
      refine wpAnyH_ready (rs := [7, 14]) (by kernel_rfl) (by simp) ?_
      refine AllReadyH.cons (by simp only [List.getElem?_toArray, List.getElem?_cons_succ, List.getElem?_cons_zero]; rfl) (fun K hK => ?_) (AllReadyH.cons (by simp only [List.getElem?_toArray, List.getElem?_cons_succ, List.getElem?_cons_zero]; rfl) (fun K hK => ?_) AllReadyH.nil)
      ·go_simp
       go_at_call 12
       have cp := pick12 st w8
       rw [HAL.out] at cp
       refine cp.mono ?_
       clear cp
       rintro e w8b ⟨rfl, rfl⟩
       have hk := hHeld
       clear hHeld
       go_wp2_with fail
       refine hK.out _ _ hk (fun hHeld => ?_)
       clear hK K hk
       try simp only [tpa, tpb, tpc, tpd, tpe]
       have c8 := hid (call17_any (s := fnm) (k := Kf) W8.out WF.out HS.out HG.out IO.out hU.out (HRA.out.below A8.out.below) hal2 hV.out (HRV.out.valR A8.out.below (fun b hb => by have := (FX.out b hb).1; have := nB.out; omega)) (by have := HVL.out; omega) (fun g q1 q2 q3 => HKf.out u vs cs al values fnm g args _ WF.out HS.out HG.out hal2 hV.out q1 q2 q3))
       refine wpAnyH_ready (rs := [10, 14]) (by kernel_rfl) (by simp) ?_
       refine AllReadyH.cons (by simp only [List.getElem?_toArray, List.getElem?_cons_succ, List.getElem?_cons_zero]; rfl) (fun K hK => ?_) (AllReadyH.cons (by simp only [List.getElem?_toArray, List.getElem?_cons_succ, List.getElem?_cons_zero]; rfl) (fun K hK => ?_) AllReadyH.nil)
       ·go_simp
        go_at_call 17
        refine c8.out.mono ?_
        rintro e w9 (⟨he, rfl, hb9⟩ | ⟨he, g, hq9, hh9, hl9, hp9⟩)
        ·have hk := hHeld.on hb9
         have A9 := hid hk
         have W9 := hid (W8.out.on hb9)
         have H9 := hid (H8.out.mono hb9)
         generalize callE cs fnm args.length = er at he ⊢
         have her : (er == 0) = false := by simpa using he
         clear hHeld hb9 c8 he
         unfold zeroO
         go_wp2_with fail
         refine hK.out _ _ hk (fun hHeld => ?_)
         clear hK K hk
         try simp only [tpa, tpb, tpc, tpd, tpe]
         refine tk 11 ?_
         refine tk 12 ?_
         refine tk 13 ?_
         have bA : Below w9.heap.size w9 (w9.alloc (.cells #[.int .u8 0, .int .u32 0, .int .u8 0, .int .i64 0, .int .i64 0, .slice none 0 0] 56)) := by (repeat (first | exact Below.refl _ _ | refine Below.drew ?_ | refine Below.alloc ?_ (by simp <;> omega) _))
         have bA2 : Below w9.heap.size w9 (w9.alloc (.cells #[.int .u8 0, .int .u32 0, .int .u8 0, .int .i64 0, .int .i64 0, .slice none 0 0] 56)) := by (repeat (first | exact Below.refl _ _ | refine Below.drew ?_ | refine Below.alloc ?_ (by simp <;> omega) _))
         refine tr 14 fun K hK => ?_
         go_simp
         refine hK.out _ _ (A9.out.on bA) (fun hHeld => ?_)
         clear hK K
         try simp only [tpa, tpb, tpc, tpd, tpe]
         refine tr 15 fun K hK => ?_
         go_simp
         have A10 := hid (A9.out.on bA2)
         have W10 := hid (W9.out.on bA2)
         have H10 := hid (H9.out.mono bA2)
         have X10 := hid (Bx.new w9 #[.int .u8 0, .int .u32 0, .int .u8 0, .int .i64 0, .int .i64 0, .slice none 0 0] 56)
         clear bA bA2
         refine hK.out _ _ A10.out (fun hHeld => ?_)
         clear hK K
         try simp only [tpa, tpb, tpc, tpd, tpe]
         generalize w9.heap.size = b9 at X10 ⊢
         generalize w9.alloc (.cells #[.int .u8 0, .int .u32 0, .int .u8 0, .int .i64 0, .int .i64 0, .slice none 0 0] 56) = w10 at A10 W10 H10 X10 hHeld ⊢
         refine tk 16 ?_
         refine td ?_
         clear hHeld A9 W9 H9
         go_wp2_with fail
         go_roundw
         case rel => exact ⟨k + 1, rfl, by go_num, by omega, A10.out, W10.out, H10.out⟩
         case measure => simp [intOf]; omega
        ·obtain ⟨m, en, x, fa9, ve, hor, rfl, hW9, hK9, ⟨ats, hE9⟩, hO9⟩ := hp9
         obtain rfl : g = ⟨ps, ty, -1, (k : Int)⟩ := by rw [HFN.out] at hq9; cases hq9; rfl
         have hcalm := funcV_calm (cfU u vs cs al values) Kf 0 ⟨ps, ty, -1, (k : Int)⟩ args ⟨(initH u.gs).map (·.2), 0, 0, []⟩ (fun f hf => by have h9 := HFK.out; simp only [Int.toNat_natCast] at hf; rw [h9] at hf; cases hf; exact HCM.out)
         have hsame : MS.same ⟨(initH u.gs).map (·.2), 0, 0, []⟩ m := by rcases hor with ⟨ho, -, -⟩ | ⟨ho, -⟩ <;> (rw [ho] at hcalm; exact hcalm)
         obtain ⟨hs1, hs2, hs3⟩ := hsame
         simp only [] at hs1 hs2 hs3
         rw [hs1, hdOf_same] at hW9
         rw [hs3] at hE9
         rw [hs2]
         obtain ⟨ea, ec, hev, -⟩ := own_shape2 hE9.row
         rw [hev]
         simp only [List.length_nil]
         have A9 := hid (A8.out.far (W8.out.far (Nat.le_refl _) hK9) nB.out)
         have W9 := hid hW9
         have H9 := hid (H8.out.kpt hK9 fun b hb hx => by have := (FX.out b hx).2; omega)
         have hk := A9.out
         clear hor hW9 hK9 hE9 hO9 hcalm hs1 hs2 hs3 hev hHeld c8 hq9
         generalize (m.steps : Int) = stp
         go_wp2_with fail
         refine hK.out _ _ hk (fun hHeld => ?_)
         clear hK K hk
         try simp only [tpa, tpb, tpc, tpd, tpe]
         refine tk 11 ?_
         refine tk 12 ?_
         refine tk 13 ?_
         have bA : Below w9.heap.size w9 (w9.alloc (.cells #[.int .u8 0, .int .u32 0, .int .u8 0, .int .i64 0, .int .i64 0, .slice none 0 0] 56)) := by (repeat (first | exact Below.refl _ _ | refine Below.drew ?_ | refine Below.alloc ?_ (by simp <;> omega) _))
         have bA2 : Below w9.heap.size w9 (w9.alloc (.cells #[.int .u8 en, .int .u32 x, .int .u8 fa9, .int .i64 stp, .int .i64 0, .slice ea 0 ec] 56)) := by (repeat (first | exact Below.refl _ _ | refine Below.drew ?_ | refine Below.alloc ?_ (by simp <;> omega) _))
         refine tr 14 fun K hK => ?_
         go_simp
         refine hK.out _ _ (A9.out.on bA) (fun hHeld => ?_)
         clear hK K
         try simp only [tpa, tpb, tpc, tpd, tpe]
         refine tr 15 fun K hK => ?_
         go_simp
         have A10 := hid (A9.out.on bA2)
         have W10 := hid (W9.out.on bA2)
         have H10 := hid (H9.out.mono bA2)
         have X10 := hid (Bx.new w9 #[.int .u8 en, .int .u32 x, .int .u8 fa9, .int .i64 stp, .int .i64 0, .slice ea 0 ec] 56)
         clear bA bA2
         refine hK.out _ _ A10.out (fun hHeld => ?_)
         clear hK K
         try simp only [tpa, tpb, tpc, tpd, tpe]
         generalize w9.heap.size = b9 at X10 ⊢
         generalize w9.alloc (.cells #[.int .u8 en, .int .u32 x, .int .u8 fa9, .int .i64 stp, .int .i64 0, .slice ea 0 ec] 56) = w10 at A10 W10 H10 X10 hHeld ⊢
         refine tk 16 ?_
         refine td ?_
         clear hHeld A9 W9 H9
         have q0 := X10.out.cell 0
         have q4 := X10.out.cell 4
         have q5 := X10.out.cell 5
         simp at q0 q4 q5
         have c9 := hid (held20 B u vs cs _ _ xs X vb cb pb vg' vh' vf' hv _ W10.out (by have := IO.out.len; have := H256.out; omega) LW.out)
         go_wp2_with fail
         refine c9.out.mono ?_
         rintro e w11 ⟨v11, ys2, rfl, hb11, hH11⟩
         have A11 := hid (A10.out.on hb11)
         have W11 := hid (W10.out.on hb11)
         have H11 := hid (H10.out.mono hb11)
         have c10 := hid (sameHeld19 (initH u.gs) _ _ w11 hH11.reads H11.out.reads (by have := IO.out.len; have := H256.out; omega) (hid fun a ha => by have := LW.out.out a ha; omega))
         obtain ⟨a11, c11, rfl, -⟩ := own_shape2 hH11.row
         clear c9 hb11 hH11 q0 q4 q5
         go_wp2_with fail
         refine c10.out.mono ?_
         rintro e w12 ⟨rfl, hb12⟩
         have A12 := hid (A11.out.on hb12)
         have W12 := hid (W11.out.on hb12)
         have H12 := hid (H11.out.mono hb12)
         clear c10 hb12
         go_wp2_with fail
         go_roundw
         case rel => exact ⟨k + 1, rfl, by go_num, by omega, A12.out, W12.out, H12.out⟩
         case measure => simp [intOf]; omega
       ·go_simp
        have bA : Below w8b.heap.size w8b (w8b.alloc (.cells #[.int .u8 0, .int .u32 0, .int .u8 0, .int .i64 0, .int .i64 0, .slice none 0 0] 56)) := by (repeat (first | exact Below.refl _ _ | refine Below.drew ?_ | refine Below.alloc ?_ (by simp <;> omega) _))
        have AA := hid (A8.out.on bA)
        have WA := hid (W8.out.on bA)
        have HA := hid (H8.out.mono bA)
        have XA := hid (Bx.new w8b #[.int .u8 0, .int .u32 0, .int .u8 0, .int .i64 0, .int .i64 0, .slice none 0 0] 56)
        have BN := hid (show w.heap.size + 2 ≤ w8b.heap.size by have := A8.out.b2.lt; omega)
        have BB := hid (show B ≤ w8b.heap.size from W8.out.lB)
        clear bA A8 W8 H8
        refine hK.out _ _ AA.out (fun hHeld => ?_)
        clear hK K
        try simp only [tpa, tpb, tpc, tpd, tpe]
        generalize w8b.heap.size = b9 at XA BN BB ⊢
        generalize w8b.alloc (.cells #[.int .u8 0, .int .u32 0, .int .u8 0, .int .i64 0, .int .i64 0, .slice none 0 0] 56) = w8c at AA WA HA XA hHeld ⊢
        have A8 := AA
        have W8 := WA
        have H8 := HA
        clear AA WA HA
        clear c8
        have c8 := hid (call17_any (s := fnm) (k := Kf) W8.out WF.out HS.out HG.out IO.out hU.out (HRA.out.below A8.out.below) hal2 hV.out (HRV.out.valR A8.out.below (fun b hb => by have := (FX.out b hb).1; have := nB.out; omega)) (by have := HVL.out; omega) (fun g q1 q2 q3 => HKf.out u vs cs al values fnm g args _ WF.out HS.out HG.out hal2 hV.out q1 q2 q3))
        refine tr 10 fun K hK => ?_
        go_simp
        go_at_call 17
        refine c8.out.mono ?_
        rintro e w9 (⟨he, rfl, hb9⟩ | ⟨he, g, hq9, hh9, hl9, hp9⟩)
        ·have hk := hHeld.on hb9
         have A9 := hid hk
         have W9 := hid (W8.out.on hb9)
         have H9 := hid (H8.out.mono hb9)
         have X9 := hid (XA.out.on (grown_of_below hb9) (by simp))
         generalize callE cs fnm args.length = er at he ⊢
         have her : (er == 0) = false := by simpa using he
         clear hHeld hb9 c8 he
         unfold zeroO
         go_wp2_with fail
         refine hK.out _ _ hk (fun hHeld => ?_)
         clear hK K hk
         try simp only [tpa, tpb, tpc, tpd, tpe]
         refine tk 11 ?_
         refine tk 12 ?_
         refine tk 13 ?_
         have z0 := X9.out.cell 0
         have z1 := X9.out.cell 1
         have z2 := X9.out.cell 2
         have z3 := X9.out.cell 3
         have z4 := X9.out.cell 4
         have z5 := X9.out.cell 5
         simp at z0 z1 z2 z3 z4 z5
         have f0 := X9.out.free 0
         have f1 := X9.out.free 1
         have f2 := X9.out.free 2
         have f3 := X9.out.free 3
         have f4 := X9.out.free 4
         have f5 := X9.out.free 5
         refine tr 15 fun K hK => ?_
         go_simp
         obtain ⟨hg10, hx10⟩ := six_set X9.out (.int .u8 0) (.int .u32 0) (.int .u8 0) (.int .i64 0) (.int .i64 0) (.slice none 0 0)
         have A10 := hid (A9.out.gr hg10 BN.out)
         have W10 := hid (W9.out.gr X9.out hg10 BB.out)
         have H10 := hid (H9.out.gr X9.out hg10)
         have X10 := hid hx10
         clear z0 z1 z2 z3 z4 z5 f0 f1 f2 f3 f4 f5 hg10 hx10
         refine hK.out _ _ A10.out (fun hHeld => ?_)
         clear hK K
         try simp only [tpa, tpb, tpc, tpd, tpe]
         generalize ((((((w9.setCell ⟨b9, 0, none⟩ (.int .u8 0)).setCell ⟨b9, 1, none⟩ (.int .u32 0)).setCell ⟨b9, 2, none⟩ (.int .u8 0)).setCell ⟨b9, 3, none⟩ (.int .i64 0)).setCell ⟨b9, 4, none⟩ (.int .i64 0)).setCell ⟨b9, 5, none⟩ (.slice none 0 0)) = w10 at A10 W10 H10 X10 hHeld ⊢
         refine tk 16 ?_
         refine td ?_
         clear hHeld A9 W9 H9
         go_wp2_with fail
         go_roundw
         case rel => exact ⟨k + 1, rfl, by go_num, by omega, A10.out, W10.out, H10.out⟩
         case measure => simp [intOf]; omega
        ·obtain ⟨m, en, x, fa9, ve, hor, rfl, hW9, hK9, ⟨ats, hE9⟩, hO9⟩ := hp9
         obtain rfl : g = ⟨ps, ty, -1, (k : Int)⟩ := by rw [HFN.out] at hq9; cases hq9; rfl
         have hcalm := funcV_calm (cfU u vs cs al values) Kf 0 ⟨ps, ty, -1, (k : Int)⟩ args ⟨(initH u.gs).map (·.2), 0, 0, []⟩ (fun f hf => by have h9 := HFK.out; simp only [Int.toNat_natCast] at hf; rw [h9] at hf; cases hf; exact HCM.out)
         have hsame : MS.same ⟨(initH u.gs).map (·.2), 0, 0, []⟩ m := by rcases hor with ⟨ho, -, -⟩ | ⟨ho, -⟩ <;> (rw [ho] at hcalm; exact hcalm)
         obtain ⟨hs1, hs2, hs3⟩ := hsame
         simp only [] at hs1 hs2 hs3
         rw [hs1, hdOf_same] at hW9
         rw [hs3] at hE9
         rw [hs2]
         obtain ⟨ea, ec, hev, -⟩ := own_shape2 hE9.row
         rw [hev]
         simp only [List.length_nil]
         have A9 := hid (A8.out.far (W8.out.far (Nat.le_refl _) hK9) nB.out)
         have W9 := hid hW9
         have H9 := hid (H8.out.kpt hK9 fun b hb hx => by have := (FX.out b hx).2; omega)
         have X9 := hid (hK9.box XA.out XA.out.lt (fun ⟨x, hx, hq⟩ => (W8.out.held.box XA.out (by decide) (by decide)).2 x hx hq.symm))
         have hk := A9.out
         clear hor hW9 hK9 hE9 hO9 hcalm hs1 hs2 hs3 hev hHeld c8 hq9
         generalize (m.steps : Int) = stp
         go_wp2_with fail
         refine hK.out _ _ hk (fun hHeld => ?_)
         clear hK K hk
         try simp only [tpa, tpb, tpc, tpd, tpe]
         refine tk 11 ?_
         refine tk 12 ?_
         refine tk 13 ?_
         have z0 := X9.out.cell 0
         have z1 := X9.out.cell 1
         have z2 := X9.out.cell 2
         have z3 := X9.out.cell 3
         have z4 := X9.out.cell 4
         have z5 := X9.out.cell 5
         simp at z0 z1 z2 z3 z4 z5
         have f0 := X9.out.free 0
         have f1 := X9.out.free 1
         have f2 := X9.out.free 2
         have f3 := X9.out.free 3
         have f4 := X9.out.free 4
         have f5 := X9.out.free 5
         refine tr 15 fun K hK => ?_
         go_simp
         obtain ⟨hg10, hx10⟩ := six_set X9.out (.int .u8 en) (.int .u32 x) (.int .u8 fa9) (.int .i64 stp) (.int .i64 0) (.slice ea 0 ec)
         have A10 := hid (A9.out.gr hg10 BN.out)
         have W10 := hid (W9.out.gr X9.out hg10 BB.out)
         have H10 := hid (H9.out.gr X9.out hg10)
         have X10 := hid hx10
         clear z0 z1 z2 z3 z4 z5 f0 f1 f2 f3 f4 f5 hg10 hx10
         refine hK.out _ _ A10.out (fun hHeld => ?_)
         clear hK K
         try simp only [tpa, tpb, tpc, tpd, tpe]
         generalize ((((((w9.setCell ⟨b9, 0, none⟩ (.int .u8 en)).setCell ⟨b9, 1, none⟩ (.int .u32 x)).setCell ⟨b9, 2, none⟩ (.int .u8 fa9)).setCell ⟨b9, 3, none⟩ (.int .i64 stp)).setCell ⟨b9, 4, none⟩ (.int .i64 0)).setCell ⟨b9, 5, none⟩ (.slice ea 0 ec)) = w10 at A10 W10 H10 X10 hHeld ⊢
         refine tk 16 ?_
         refine td ?_
         clear hHeld A9 W9 H9
         have q0 := X10.out.cell 0
         have q4 := X10.out.cell 4
         have q5 := X10.out.cell 5
         simp at q0 q4 q5
         have c9 := hid (held20 B u vs cs _ _ xs X vb cb pb vg' vh' vf' hv _ W10.out (by have := IO.out.len; have := H256.out; omega) LW.out)
         go_wp2_with fail
         refine c9.out.mono ?_
         rintro e w11 ⟨v11, ys2, rfl, hb11, hH11⟩
         have A11 := hid (A10.out.on hb11)
         have W11 := hid (W10.out.on hb11)
         have H11 := hid (H10.out.mono hb11)
         have c10 := hid (sameHeld19 (initH u.gs) _ _ w11 hH11.reads H11.out.reads (by have := IO.out.len; have := H256.out; omega) (hid fun a ha => by have := LW.out.out a ha; omega))
         obtain ⟨a11, c11, rfl, -⟩ := own_shape2 hH11.row
         clear c9 hb11 hH11 q0 q4 q5
         go_wp2_with fail
         refine c10.out.mono ?_
         rintro e w12 ⟨rfl, hb12⟩
         have A12 := hid (A11.out.on hb12)
         have W12 := hid (W11.out.on hb12)
         have H12 := hid (H11.out.mono hb12)
         clear c10 hb12
         go_wp2_with fail
         go_roundw
         case rel => exact ⟨k + 1, rfl, by go_num, by omega, A12.out, W12.out, H12.out⟩
         case measure => simp [intOf]; omega
      ·go_simp
       have bA : Below w8.heap.size w8 (w8.alloc (.cells #[.int .u8 0, .int .u32 0, .int .u8 0, .int .i64 0, .int .i64 0, .slice none 0 0] 56)) := by (repeat (first | exact Below.refl _ _ | refine Below.drew ?_ | refine Below.alloc ?_ (by simp <;> omega) _))
       have AA := hid (A8.out.on bA)
       have WA := hid (W8.out.on bA)
       have HA := hid (H8.out.mono bA)
       have XA := hid (Bx.new w8 #[.int .u8 0, .int .u32 0, .int .u8 0, .int .i64 0, .int .i64 0, .slice none 0 0] 56)
       have BN := hid (show w.heap.size + 2 ≤ w8.heap.size by have := A8.out.b2.lt; omega)
       have BB := hid (show B ≤ w8.heap.size from W8.out.lB)
       clear bA A8 W8 H8
       refine hK.out _ _ AA.out (fun hHeld => ?_)
       clear hK K
       try simp only [tpa, tpb, tpc, tpd, tpe]
       generalize w8.heap.size = b9 at XA BN BB ⊢
       generalize w8.alloc (.cells #[.int .u8 0, .int .u32 0, .int .u8 0, .int .i64 0, .int .i64 0, .slice none 0 0] 56) = w8c at AA WA HA XA hHeld ⊢
       have A8 := AA
       have W8 := WA
       have H8 := HA
       clear AA WA HA
       refine tr 7 fun K hK => ?_
       go_simp
       go_at_call 12
       have cp := pick12 st w8c
       rw [HAL.out] at cp
       refine cp.mono ?_
       clear cp
       rintro e w8d ⟨rfl, rfl⟩
       have hk := hHeld
       clear hHeld
       go_wp2_with fail
       refine hK.out _ _ hk (fun hHeld => ?_)
       clear hK K hk
       try simp only [tpa, tpb, tpc, tpd, tpe]
       have c8 := hid (call17_any (s := fnm) (k := Kf) W8.out WF.out HS.out HG.out IO.out hU.out (HRA.out.below A8.out.below) hal2 hV.out (HRV.out.valR A8.out.below (fun b hb => by have := (FX.out b hb).1; have := nB.out; omega)) (by have := HVL.out; omega) (fun g q1 q2 q3 => HKf.out u vs cs al values fnm g args _ WF.out HS.out HG.out hal2 hV.out q1 q2 q3))
       refine tr 10 fun K hK => ?_
       go_simp
       go_at_call 17
       refine c8.out.mono ?_
       rintro e w9 (⟨he, rfl, hb9⟩ | ⟨he, g, hq9, hh9, hl9, hp9⟩)
       ·have hk := hHeld.on hb9
        have A9 := hid hk
        have W9 := hid (W8.out.on hb9)
        have H9 := hid (H8.out.mono hb9)
        have X9 := hid (XA.out.on (grown_of_below hb9) (by simp))
        generalize callE cs fnm args.length = er at he ⊢
        have her : (er == 0) = false := by simpa using he
        clear hHeld hb9 c8 he
        unfold zeroO
        go_wp2_with fail
        refine hK.out _ _ hk (fun hHeld => ?_)
        clear hK K hk
        try simp only [tpa, tpb, tpc, tpd, tpe]
        refine tk 11 ?_
        refine tk 12 ?_
        refine tk 13 ?_
        have z0 := X9.out.cell 0
        have z1 := X9.out.cell 1
        have z2 := X9.out.cell 2
        have z3 := X9.out.cell 3
        have z4 := X9.out.cell 4
        have z5 := X9.out.cell 5
        simp at z0 z1 z2 z3 z4 z5
        have f0 := X9.out.free 0
        have f1 := X9.out.free 1
        have f2 := X9.out.free 2
        have f3 := X9.out.free 3
        have f4 := X9.out.free 4
        have f5 := X9.out.free 5
        refine tr 15 fun K hK => ?_
        go_simp
        obtain ⟨hg10, hx10⟩ := six_set X9.out (.int .u8 0) (.int .u32 0) (.int .u8 0) (.int .i64 0) (.int .i64 0) (.slice none 0 0)
        have A10 := hid (A9.out.gr hg10 BN.out)
        have W10 := hid (W9.out.gr X9.out hg10 BB.out)
        have H10 := hid (H9.out.gr X9.out hg10)
        have X10 := hid hx10
        clear z0 z1 z2 z3 z4 z5 f0 f1 f2 f3 f4 f5 hg10 hx10
        refine hK.out _ _ A10.out (fun hHeld => ?_)
        clear hK K
        try simp only [tpa, tpb, tpc, tpd, tpe]
        generalize ((((((w9.setCell ⟨b9, 0, none⟩ (.int .u8 0)).setCell ⟨b9, 1, none⟩ (.int .u32 0)).setCell ⟨b9, 2, none⟩ (.int .u8 0)).setCell ⟨b9, 3, none⟩ (.int .i64 0)).setCell ⟨b9, 4, none⟩ (.int .i64 0)).setCell ⟨b9, 5, none⟩ (.slice none 0 0)) = w10 at A10 W10 H10 X10 hHeld ⊢
        refine tk 16 ?_
        refine td ?_
        clear hHeld A9 W9 H9
        go_wp2_with fail
        go_roundw
        case rel => exact ⟨k + 1, rfl, by go_num, by omega, A10.out, W10.out, H10.out⟩
        case measure => simp [intOf]; omega
       ·obtain ⟨m, en, x, fa9, ve, hor, rfl, hW9, hK9, ⟨ats, hE9⟩, hO9⟩ := hp9
        obtain rfl : g = ⟨ps, ty, -1, (k : Int)⟩ := by rw [HFN.out] at hq9; cases hq9; rfl
        have hcalm := funcV_calm (cfU u vs cs al values) Kf 0 ⟨ps, ty, -1, (k : Int)⟩ args ⟨(initH u.gs).map (·.2), 0, 0, []⟩ (fun f hf => by have h9 := HFK.out; simp only [Int.toNat_natCast] at hf; rw [h9] at hf; cases hf; exact HCM.out)
        have hsame : MS.same ⟨(initH u.gs).map (·.2), 0, 0, []⟩ m := by rcases hor with ⟨ho, -, -⟩ | ⟨ho, -⟩ <;> (rw [ho] at hcalm; exact hcalm)
        obtain ⟨hs1, hs2, hs3⟩ := hsame
        simp only [] at hs1 hs2 hs3
        rw [hs1, hdOf_same] at hW9
        rw [hs3] at hE9
        rw [hs2]
        obtain ⟨ea, ec, hev, -⟩ := own_shape2 hE9.row
        rw [hev]
        simp only [List.length_nil]
        have A9 := hid (A8.out.far (W8.out.far (Nat.le_refl _) hK9) nB.out)
        have W9 := hid hW9
        have H9 := hid (H8.out.kpt hK9 fun b hb hx => by have := (FX.out b hx).2; omega)
        have X9 := hid (hK9.box XA.out XA.out.lt (fun ⟨x, hx, hq⟩ => (W8.out.held.box XA.out (by decide) (by decide)).2 x hx hq.symm))
        have hk := A9.out
        clear hor hW9 hK9 hE9 hO9 hcalm hs1 hs2 hs3 hev hHeld c8 hq9
        generalize (m.steps : Int) = stp
        go_wp2_with fail
        refine hK.out _ _ hk (fun hHeld => ?_)
        clear hK K hk
        try simp only [tpa, tpb, tpc, tpd, tpe]
        refine tk 11 ?_
        refine tk 12 ?_
        refine tk 13 ?_
        have z0 := X9.out.cell 0
        have z1 := X9.out.cell 1
        have z2 := X9.out.cell 2
        have z3 := X9.out.cell 3
        have z4 := X9.out.cell 4
        have z5 := X9.out.cell 5
        simp at z0 z1 z2 z3 z4 z5
        have f0 := X9.out.free 0
        have f1 := X9.out.free 1
        have f2 := X9.out.free 2
        have f3 := X9.out.free 3
        have f4 := X9.out.free 4
        have f5 := X9.out.free 5
        refine tr 15 fun K hK => ?_
        go_simp
        obtain ⟨hg10, hx10⟩ := six_set X9.out (.int .u8 en) (.int .u32 x) (.int .u8 fa9) (.int .i64 stp) (.int .i64 0) (.slice ea 0 ec)
        have A10 := hid (A9.out.gr hg10 BN.out)
        have W10 := hid (W9.out.gr X9.out hg10 BB.out)
        have H10 := hid (H9.out.gr X9.out hg10)
        have X10 := hid hx10
        clear z0 z1 z2 z3 z4 z5 f0 f1 f2 f3 f4 f5 hg10 hx10
        refine hK.out _ _ A10.out (fun hHeld => ?_)
        clear hK K
        try simp only [tpa, tpb, tpc, tpd, tpe]
        generalize ((((((w9.setCell ⟨b9, 0, none⟩ (.int .u8 en)).setCell ⟨b9, 1, none⟩ (.int .u32 x)).setCell ⟨b9, 2, none⟩ (.int .u8 fa9)).setCell ⟨b9, 3, none⟩ (.int .i64 stp)).setCell ⟨b9, 4, none⟩ (.int .i64 0)).setCell ⟨b9, 5, none⟩ (.slice ea 0 ec)) = w10 at A10 W10 H10 X10 hHeld ⊢
        refine tk 16 ?_
        refine td ?_
        clear hHeld A9 W9 H9
        have q0 := X10.out.cell 0
        have q4 := X10.out.cell 4
        have q5 := X10.out.cell 5
        simp at q0 q4 q5
        have c9 := hid (held20 B u vs cs _ _ xs X vb cb pb vg' vh' vf' hv _ W10.out (by have := IO.out.len; have := H256.out; omega) LW.out)
        go_wp2_with fail
        refine c9.out.mono ?_
        rintro e w11 ⟨v11, ys2, rfl, hb11, hH11⟩
        have A11 := hid (A10.out.on hb11)
        have W11 := hid (W10.out.on hb11)
        have H11 := hid (H10.out.mono hb11)
        have c10 := hid (sameHeld19 (initH u.gs) _ _ w11 hH11.reads H11.out.reads (by have := IO.out.len; have := H256.out; omega) (hid fun a ha => by have := LW.out.out a ha; omega))
        obtain ⟨a11, c11, rfl, -⟩ := own_shape2 hH11.row
        clear c9 hb11 hH11 q0 q4 q5
        go_wp2_with fail
        refine c10.out.mono ?_
        rintro e w12 ⟨rfl, hb12⟩
        have A12 := hid (A11.out.on hb12)
        have W12 := hid (W11.out.on hb12)
        have H12 := hid (H11.out.mono hb12)
        clear c10 hb12
        go_wp2_with fail
        go_roundw
        case rel => exact ⟨k + 1, rfl, by go_num, by omega, A12.out, W12.out, H12.out⟩
        case measure => simp [intOf]; omega
    ·have hne3 : ¬ fnm.toList = nm.toList := by have := toList_ne hnm; simpa using this
     have D5 := hid (Below.refl wr.heap.size wr).drew
     have A6 := hid (A5.out.on D5.out)
     have W6 := hid (W5.out.on D5.out)
     have H6 := hid (H5.out.mono D5.out)
     refine wp_region_held_drew (S := (fun w9 => A4 w w.heap.size #[.slice ga mg gc, .slice ha mh hc, .slice (some ⟨fb, fo, none⟩) mf fc] #[.string nm, .slice aa la ac, .int .i64 st, .int .i64 mo, .slice ba0 lv bc0, vl] w9)) (by kernel_rfl) A6.out (fun hHeld => ?_)
     generalize wr.drew = w6 at D5 A6 W6 H6 hHeld ⊢
     clear p2
     refine tk 0 ?_
     refine tk 1 ?_ (hy := by intro w' hSw; have q2 := hSw.b1.cell 2; simp at q2; go_simp; (try with_reducible rfl))
     refine tk 2 ?_
     refine tk 3 ?_
     refine tk 4 ?_
     refine tk 5 ?_ (hy := by intro w' hSw; have x1 := cell_on Y1.out hSw.below; go_simp; (try with_reducible rfl))
     refine tk 6 ?_
     refine tk 7 ?_ (hy := by intro w' hSw; have q := hSw.b2.cell 0; simp at q; go_simp; (try with_reducible rfl))
     refine wpAnyH_take (i := 8) (v := .bool true) (by simp only [List.getElem?_toArray, List.getElem?_cons_succ, List.getElem?_cons_zero]; rfl) (by kernel_rfl) (by kernel_rfl) (by kernel_rfl) (by intro _ _ _ h; exact h) (Or.inl ⟨by rfl, ?_⟩) (by assumption) ?_
     ·intro w' hSw; go_simp; (try simp); (try exact hne3)
     try simp only [tpa, tpb, tpc, tpd, tpe]
     refine tk 9 ?_
     refine tn 10 ?_
     refine tn 11 ?_
     refine tn 12 ?_
     refine tn 13 ?_
     refine tn 14 ?_
     refine tn 15 ?_
     refine tn 16 ?_
     refine tn 17 ?_
     refine tk 18 ?_
     refine td ?_
     clear hHeld
     go_wp2_with fail
     go_roundw
     case rel => exact ⟨k + 1, rfl, by go_num, by omega, A6.out, W6.out, H6.out⟩
     case measure => simp [intOf]; omega
   ·go_wp2_with fail
    go_ret
    exact ⟨rfl, A5.out.below⟩
end
section
open Go.ChangeShapes Go.WideShapes Go.ChangeAt
/-! ### the arguments opened -/
section
variable {H : Type} {enc : TypeId × Value → H} {w : World}
theorem cells_get {base : Nat} {a : Addr} {n : Nat} {cs : List Value} (h : w.cells? base a n = some cs) : cs.length = n ∧ ∀ j, j < n → w.cell? (a.add j) = cs[j]? := by
 unfold World.cells? at h
 split at h
 ·have hl := mapM_some_length h
  rw [List.length_range] at hl
  refine ⟨hl, fun j hj => ?_⟩
  have := mapM_some_get h j j (by simp [hj])
  exact this
 ·simp at h
theorem add_plain' (b o j : Nat) : (⟨b, o, none⟩ : Addr).add j = ⟨b, o + j, none⟩ := by
 unfold Addr.add
 split
 ·rename_i h; subst h; rfl
 ·rfl
theorem rows_open {P : Program} {t e : TypeId} {c fuel : Nat} {v : Value} {y : DataW H × List MemPlace} (ht : P.underlying t = some (.slice e)) (hc : P.cellsOf e = c) (hpos : 0 < c)
  (h : DataW.trod enc P w 0 (fun _ => true) true fuel t [v] = some y) :
  ∃ (a : Option Addr) (b off n cap : Nat) (elems : List (DataW H × List MemPlace)), v = .slice a elems.length cap ∧ (elems.length = 0 ∨ a = some ⟨b, off, none⟩) ∧ n < fuel ∧ Rows.uptoBulkAll (elems.map (·.1)) + 1 ≤ Rows.uptoBulk y.1 ∧
   ∀ i (hi : i < elems.length), ∃ cs : List Value, cs.length = c ∧ (∀ j, j < c → w.cell? ⟨b, off + i * c + j, none⟩ = cs[j]?) ∧ DataW.trod enc P w 0 (fun _ => true) true n e cs = some elems[i] := by
 have hf0 : 0 < fuel := by
  rcases Nat.eq_zero_or_pos fuel with rfl | q
  ·simp [DataW.trod] at h
  ·exact q
 rcases DataW.trod_slice ht h with ⟨hcs, hx⟩ | ⟨x, l, c', elems, rest, n, hfu, hcs, hx, _, hl, hm, hel, heach, hsp, _⟩
 ·simp only [List.cons.injEq, and_true] at hcs
  subst hcs
  refine ⟨none, 0, 0, 0, 0, [], rfl, .inl rfl, hf0, ?_, fun i hi => by simp at hi⟩
  rw [hx]
  simp [Rows.uptoBulk, Rows.uptoBulkAll]
 ·simp only [List.cons.injEq, and_true] at hcs
  subst hcs
  have hb : Rows.uptoBulkAll (elems.map (·.1)) + 1 ≤ Rows.uptoBulk y.1 := by rw [hx]; simp only [Rows.uptoBulk]; omega
  have each : ∀ i (hi : i < elems.length), ∃ cs : List Value, cs.length = c ∧ (∀ j, j < c → w.cell? ((x.add (i * c)).add j) = cs[j]?) ∧ DataW.trod enc P w 0 (fun _ => true) true n e cs = some elems[i] := by
   intro i hi
   have h1 := heach i (by omega)
   rw [List.getElem?_eq_getElem hi, Option.bind_eq_some_iff] at h1
   obtain ⟨cs, h2, h3⟩ := h1
   rw [hc] at h2
   obtain ⟨h4, h5⟩ := cells_get h2
   exact ⟨cs, h4, h5, h3⟩
  by_cases h0 : elems.length = 0
  ·exact ⟨some x, 0, 0, n, c', elems, by rw [hel], .inl h0, by omega, hb, fun i hi => by omega⟩
  ·obtain ⟨b, off, spot⟩ := x
   have hspot : spot = none := by
    obtain ⟨cs, h1, h2, _⟩ := each 0 (by omega)
    have := h2 0 hpos
    rw [List.getElem?_eq_getElem (by omega)] at this
    simpa [Addr.add] using World.cell?_spot this
   subst hspot
   refine ⟨some ⟨b, off, none⟩, b, off, n, c', elems, by rw [hel], .inr rfl, by omega, hb, fun i hi => ?_⟩
   obtain ⟨cs, h1, h2, h3⟩ := each i hi
   refine ⟨cs, h1, fun j hj => ?_, h3⟩
   have := h2 j hj
   rwa [add_plain', add_plain'] at this
theorem pick_sum {α β : Type} (Q : Nat → α → Prop) (μ : α → Nat) (ν : β → Nat) : ∀ (es : List β) (k : Nat), (∀ i (h : i < es.length), ∃ r, Q (k + i) r ∧ μ r + 1 ≤ ν es[i]) → ∃ l : List α, l.length = es.length ∧ (∀ i (h : i < l.length), Q (k + i) l[i]) ∧ (l.map (fun a => μ a + 1)).sum ≤ (es.map ν).sum
 | [], k, _ => ⟨[], rfl, fun i h => by simp at h, Nat.le_refl _⟩
 | e :: es, k, h => by
  obtain ⟨r, h1, h2⟩ := h 0 (by simp)
  obtain ⟨l, h3, h4, h5⟩ := pick_sum Q μ ν es (k + 1) (fun i hi => by
   have := h (i + 1) (by simpa using hi)
   rw [show k + (i + 1) = k + 1 + i by omega] at this
   exact this)
  refine ⟨r :: l, by simp [h3], fun i hi => ?_, by simp only [List.map_cons, List.sum_cons]; simp only [List.getElem_cons_zero] at h2; omega⟩
  cases i with
  | zero => exact h1
  | succ i =>
   have := h4 i (by simpa using hi)
   rw [show k + 1 + i = k + (i + 1) by omega] at this
   exact this
theorem bulk_sum : ∀ l : List (DataW H), Rows.uptoBulkAll l = (l.map Rows.uptoBulk).sum
 | [] => rfl
 | d :: l => by simp only [Rows.uptoBulkAll, List.map_cons, List.sum_cons, bulk_sum l]
theorem rows_list {P : Program} {α : Type} {t e : TypeId} {c fuel : Nat} {v : Value} {y : DataW H × List MemPlace} (ht : P.underlying t = some (.slice e)) (hc : P.cellsOf e = c) (hpos : 0 < c) (R : α → Nat → Nat → Prop) (μ : α → Nat)
  (each : ∀ (n : Nat) (cs : List Value) (z : DataW H × List MemPlace) (b q : Nat), n < fuel → cs.length = c → (∀ j, j < c → w.cell? ⟨b, q + j, none⟩ = cs[j]?) → DataW.trod enc P w 0 (fun _ => true) true n e cs = some z → ∃ a, R a b q ∧ μ a + 1 ≤ Rows.uptoBulk z.1)
  (h : DataW.trod enc P w 0 (fun _ => true) true fuel t [v] = some y) : ∃ l : List α, SlR w none e c R l v ∧ (l.map (fun a => μ a + 1)).sum + 1 ≤ Rows.uptoBulk y.1 := by
 obtain ⟨a, b, off, n, cap, elems, rfl, ha, hn, hb, hE⟩ := rows_open ht hc hpos h
 obtain ⟨l, h1, h2, h3⟩ := pick_sum (fun i r => R r b (off + i * c)) μ (fun z : DataW H × List MemPlace => Rows.uptoBulk z.1) elems 0 (fun i hi => by
  obtain ⟨cs, e1, e2, e3⟩ := hE i hi
  obtain ⟨r, e4, e5⟩ := each n cs _ b (off + i * c) hn e1 e2 e3
  exact ⟨r, by rw [Nat.zero_add]; exact e4, e5⟩)
 refine ⟨l, ⟨a, b, off, cap, by rw [h1], by rw [h1]; exact ha.imp (fun q => ⟨q, rfl⟩) (fun q => ⟨q, Zone.any⟩), fun i hi => by have := h2 i hi; rwa [Nat.zero_add] at this⟩, ?_⟩
 rw [bulk_sum, List.map_map] at hb
 have : (elems.map (Rows.uptoBulk ∘ fun x => x.1)).sum = (elems.map (fun z : DataW H × List MemPlace => Rows.uptoBulk z.1)).sum := rfl
 omega
theorem fld_int {P : Program} {k : IntKind} {t : TypeId} {n : Nat} {v : Value} {y : DataW H × List MemPlace} (ht : P.underlying t = some (.int k)) (h : DataW.trod enc P w 0 (fun _ => true) true n t [v] = some y) :
  ∃ x, v = .int k x ∧ (Lit.int k x).wf = true := by
 obtain ⟨x, h1, h2, h3⟩ := DataW.trod_int ht h
 simp only [List.cons.injEq, and_true] at h1
 exact ⟨x, h1, h3⟩
theorem fld_bool {P : Program} {t : TypeId} {n : Nat} {v : Value} {y : DataW H × List MemPlace} (ht : P.underlying t = some .bool) (h : DataW.trod enc P w 0 (fun _ => true) true n t [v] = some y) :
  ∃ x, v = .bool x := by
 obtain ⟨x, h1, _⟩ := DataW.trod_bool ht h
 simp only [List.cons.injEq, and_true] at h1
 exact ⟨x, h1⟩
theorem fld_str {P : Program} {t : TypeId} {n : Nat} {v : Value} {y : DataW H × List MemPlace} (ht : P.underlying t = some .string) (h : DataW.trod enc P w 0 (fun _ => true) true n t [v] = some y) :
  ∃ x, v = .string x ∧ x.size + 1 = Rows.uptoBulk y.1 := by
 obtain ⟨x, h1, h2, h3⟩ := DataW.trod_string ht h
 simp only [List.cons.injEq, and_true] at h1
 refine ⟨x, h1, ?_⟩
 rw [h2]
 simp [Rows.uptoBulk]
theorem fld {P : Program} {fs : Array Field} {cs : List Value} {xs : List (DataW H × List MemPlace)} {n : Nat}
  (hf : ∀ (i : Nat) (f : Field), fs[i]? = some f → DataW.trod enc P w 0 (fun _ => true) true n f.type ((cs.drop f.offset).take (P.cellsOf f.type)) = xs[i]?)
  (i : Nat) (f : Field) (hi : fs[i]? = some f) (l : List Value) (hl : (cs.drop f.offset).take (P.cellsOf f.type) = l) (T : TypeId) (hT : f.type = T) (y : DataW H × List MemPlace) (hy : xs[i]? = some y) :
  DataW.trod enc P w 0 (fun _ => true) true n T l = some y := by
 have h := hf i f hi
 rw [hl, hT, hy] at h
 exact h
end
theorem cells134 : Tryz.prog.cellsOf 134 = 7 := by kernel_rfl
theorem cells109 : Tryz.prog.cellsOf 109 = 8 := by kernel_rfl
theorem cells46 : Tryz.prog.cellsOf 46 = 2 := by kernel_rfl
theorem cells105 : Tryz.prog.cellsOf 105 = 5 := by kernel_rfl
theorem cells101 : Tryz.prog.cellsOf 101 = 5 := by kernel_rfl
theorem cells52 : Tryz.prog.cellsOf 52 = 1 := by kernel_rfl
theorem cells43 : Tryz.prog.cellsOf 43 = 6 := by kernel_rfl
def U32 (x : Int) : Prop := 0 ≤ x ∧ x < 4294967296
theorem u32_of {x : Int} (h : (Lit.int .u32 x).wf = true) : U32 x := by
 have := wf_u32.1 h
 unfold U32
 omega
def Exs.wt : Exs → Nat
 | .nil => 0
 | .cons h k r => h.name.size + h.sign.size + k.wt + r.wt + 1
def Exs.Rg : Exs → Prop
 | .nil => True
 | .cons h k r => U32 h.word ∧ k.Rg ∧ r.Rg
def Sts.wt : Sts → Nat
 | .nil => 0
 | .cons h x b e r => h.name.size + h.sign.size + x.wt + b.wt + e.wt + r.wt + 1
def Sts.Rg : Sts → Prop
 | .nil => True
 | .cons _ x b e r => x.Rg ∧ b.Rg ∧ e.Rg ∧ r.Rg
theorem Exs.sz_wt : ∀ l : Exs, l.sz ≤ l.wt
 | .nil => Nat.le_refl _
 | .cons h k r => by have := Exs.sz_wt k; have := Exs.sz_wt r; simp only [Exs.sz, Exs.wt]; omega
theorem Sts.sz_wt : ∀ l : Sts, l.sz ≤ l.wt
 | .nil => Nat.le_refl _
 | .cons h x b e r => by have := Exs.sz_wt x; have := Sts.sz_wt b; have := Sts.sz_wt e; have := Sts.sz_wt r; simp only [Sts.sz, Sts.wt]; omega
theorem Exs.wf_of : ∀ l : Exs, l.wt ≤ 1048576 → l.Rg → l.Wf
 | .nil, _, _ => trivial
 | .cons h k r, hw, hr => by
  simp only [Exs.wt] at hw
  exact ⟨⟨hr.1, by omega, by omega⟩, Exs.wf_of k (by omega) hr.2.1, Exs.wf_of r (by omega) hr.2.2⟩
theorem Sts.wf_of : ∀ l : Sts, l.wt ≤ 1048576 → l.Rg → l.Wf
 | .nil, _, _ => trivial
 | .cons h x b e r, hw, hr => by
  simp only [Sts.wt] at hw
  exact ⟨⟨by omega, by omega⟩, Exs.wf_of x (by omega) hr.1, Sts.wf_of b (by omega) hr.2.1, Sts.wf_of e (by omega) hr.2.2.1, Sts.wf_of r (by omega) hr.2.2.2⟩
def Exs.ofL : List (EH × Exs) → Exs
 | [] => .nil
 | a :: l => .cons a.1 a.2 (Exs.ofL l)
theorem Exs.to_of : ∀ l, (Exs.ofL l).toL = l
 | [] => rfl
 | a :: l => by simp [Exs.ofL, Exs.toL, Exs.to_of l]
theorem Exs.wt_of : ∀ l, (Exs.ofL l).wt = (l.map (fun a : EH × Exs => (a.1.name.size + a.1.sign.size + a.2.wt) + 1)).sum
 | [] => rfl
 | a :: l => by simp only [Exs.ofL, Exs.wt, List.map_cons, List.sum_cons, Exs.wt_of l]; omega
theorem Exs.rg_of : ∀ l, (∀ a ∈ l, U32 a.1.word ∧ a.2.Rg) → (Exs.ofL l).Rg
 | [], _ => trivial
 | a :: l, h => ⟨(h a (by simp)).1, (h a (by simp)).2, Exs.rg_of l (fun b hb => h b (by simp [hb]))⟩
def Sts.ofL : List SB → Sts
 | [] => .nil
 | a :: l => .cons a.1 a.2.1 a.2.2.1 a.2.2.2 (Sts.ofL l)
theorem Sts.to_of : ∀ l, (Sts.ofL l).toL = l
 | [] => rfl
 | a :: l => by simp [Sts.ofL, Sts.toL, Sts.to_of l]
theorem Sts.wt_of : ∀ l, (Sts.ofL l).wt = (l.map (fun a : SB => (a.1.name.size + a.1.sign.size + a.2.1.wt + a.2.2.1.wt + a.2.2.2.wt) + 1)).sum
 | [] => rfl
 | a :: l => by simp only [Sts.ofL, Sts.wt, List.map_cons, List.sum_cons, Sts.wt_of l]; omega
theorem Sts.rg_of : ∀ l, (∀ a : SB, a ∈ l → a.2.1.Rg ∧ a.2.2.1.Rg ∧ a.2.2.2.Rg) → (Sts.ofL l).Rg
 | [], _ => trivial
 | a :: l, h => ⟨(h a (by simp)).1, (h a (by simp)).2.1, (h a (by simp)).2.2, Sts.rg_of l (fun b hb => h b (by simp [hb]))⟩
theorem SlR.each {α : Type} {w : World} {o : Option (Nat → Prop)} {t : TypeId} {n : Nat} {R : α → Nat → Nat → Prop} {l : List α} {v : Value} (h : SlR w o t n R l v) (G : α → Prop) (hG : ∀ a b q, R a b q → G a) : ∀ a ∈ l, G a := by
 obtain ⟨ka, kb, koff, kcap, rfl, y2, y3⟩ := h
 intro a ha
 obtain ⟨i, hi, rfl⟩ := List.getElem_of_mem ha
 exact hG _ _ _ (y3 i hi)
section
variable {H : Type} {enc : TypeId × Value → H} {w : World}
theorem exs_open : ∀ (fuel : Nat) (v : Value) (y : DataW H × List MemPlace), DataW.trod enc Tryz.prog w 0 (fun _ => true) true fuel 107 [v] = some y → ∃ l : Exs, SlE w true none l v ∧ l.wt + 1 ≤ Rows.uptoBulk y.1 ∧ l.Rg := by
 intro fuel
 induction fuel using Nat.strongRecOn with
 | ind fuel ih =>
  intro v y h
  obtain ⟨l, h1, h2⟩ := rows_list Tryz.underlying107 cells134 (by decide) (fun a b q => ExpR w true none a b q ∧ U32 a.1.word ∧ a.2.Rg) (fun a => a.1.name.size + a.1.sign.size + a.2.wt) (fun n cs z b q hn hl hc ht => by
   obtain ⟨xs, m, hm, hx, _, hxs, hf⟩ := DataW.trod_struct Tryz.underlying134 ht
   match cs, hl with
   | [c0, c1, c2, c3, c4, c5, c6], _ =>
    match xs, hxs with
    | [x0, x1, x2, x3, x4, x5, x6], _ =>
     obtain ⟨y0, rfl, -⟩ := fld_int Tryz.underlying3 (fld hf 0 _ rfl [c0] (by kernel_rfl) 3 rfl x0 rfl)
     obtain ⟨y1, rfl, -⟩ := fld_int Tryz.underlying132 (fld hf 1 _ rfl [c1] (by kernel_rfl) 132 rfl x1 rfl)
     obtain ⟨y2, rfl, w2⟩ := fld_int Tryz.underlying52 (fld hf 2 _ rfl [c2] (by kernel_rfl) 52 rfl x2 rfl)
     obtain ⟨y3, rfl, -⟩ := fld_int Tryz.underlying40 (fld hf 3 _ rfl [c3] (by kernel_rfl) 40 rfl x3 rfl)
     obtain ⟨y4, rfl, s4⟩ := fld_str Tryz.underlying9 (fld hf 4 _ rfl [c4] (by kernel_rfl) 9 rfl x4 rfl)
     obtain ⟨y5, rfl, s5⟩ := fld_str Tryz.underlying9 (fld hf 5 _ rfl [c5] (by kernel_rfl) 9 rfl x5 rfl)
     obtain ⟨kids, hk, hs, hg⟩ := ih m (by omega) c6 x6 (fld hf 6 _ rfl [c6] (by kernel_rfl) 107 rfl x6 rfl)
     refine ⟨(⟨y0, y1, y2, y3, y4, y5⟩, kids), ⟨⟨⟨⟨y0, hc 0 (by omega), fun _ => rfl⟩, hc 1 (by omega), hc 2 (by omega), hc 3 (by omega), hc 4 (by omega), hc 5 (by omega)⟩, ⟨c6, hc 6 (by omega), hk⟩⟩, u32_of w2, hg⟩, ?_⟩
     rw [hx]
     simp only [Rows.uptoBulk, Rows.uptoBulkAll, List.map_cons, List.map_nil]
     omega) h
  refine ⟨Exs.ofL l, SlE_iff.2 (by rw [Exs.to_of]; exact h1.same (fun _ _ _ h => h.1)), by rw [Exs.wt_of]; exact h2, Exs.rg_of l (h1.each _ (fun a b q h => h.2))⟩
theorem sts_open : ∀ (fuel : Nat) (v : Value) (y : DataW H × List MemPlace), DataW.trod enc Tryz.prog w 0 (fun _ => true) true fuel 41 [v] = some y → ∃ l : Sts, SlS w true none l v ∧ l.wt + 1 ≤ Rows.uptoBulk y.1 ∧ l.Rg := by
 intro fuel
 induction fuel using Nat.strongRecOn with
 | ind fuel ih =>
  intro v y h
  obtain ⟨l, h1, h2⟩ := rows_list Tryz.underlying41 cells109 (by decide) (fun (a : SB) b q => StmR w true none a b q ∧ a.2.1.Rg ∧ a.2.2.1.Rg ∧ a.2.2.2.Rg) (fun a : SB => a.1.name.size + a.1.sign.size + a.2.1.wt + a.2.2.1.wt + a.2.2.2.wt) (fun n cs z b q hn hl hc ht => by
   obtain ⟨xs, m, hm, hx, _, hxs, hf⟩ := DataW.trod_struct Tryz.underlying109 ht
   match cs, hl with
   | [c0, c1, c2, c3, c4, c5, c6, c7], _ =>
    match xs, hxs with
    | [x0, x1, x2, x3, x4, x5, x6, x7], _ =>
     obtain ⟨y0, rfl, -⟩ := fld_int Tryz.underlying3 (fld hf 0 _ rfl [c0] (by kernel_rfl) 3 rfl x0 rfl)
     obtain ⟨y1, rfl, -⟩ := fld_int Tryz.underlying106 (fld hf 1 _ rfl [c1] (by kernel_rfl) 106 rfl x1 rfl)
     obtain ⟨y2, rfl, s2⟩ := fld_str Tryz.underlying9 (fld hf 2 _ rfl [c2] (by kernel_rfl) 9 rfl x2 rfl)
     obtain ⟨y3, rfl, -⟩ := fld_int Tryz.underlying40 (fld hf 3 _ rfl [c3] (by kernel_rfl) 40 rfl x3 rfl)
     obtain ⟨y4, rfl, s4⟩ := fld_str Tryz.underlying9 (fld hf 4 _ rfl [c4] (by kernel_rfl) 9 rfl x4 rfl)
     obtain ⟨ex, hk5, hs5, hg5⟩ := exs_open m c5 x5 (fld hf 5 _ rfl [c5] (by kernel_rfl) 107 rfl x5 rfl)
     obtain ⟨body, hk6, hs6, hg6⟩ := ih m (by omega) c6 x6 (fld hf 6 _ rfl [c6] (by kernel_rfl) 41 rfl x6 rfl)
     obtain ⟨els, hk7, hs7, hg7⟩ := ih m (by omega) c7 x7 (fld hf 7 _ rfl [c7] (by kernel_rfl) 41 rfl x7 rfl)
     refine ⟨(⟨y0, y1, y2, y3, y4⟩, ex, body, els), ⟨⟨⟨⟨y0, hc 0 (by omega), fun _ => rfl⟩, hc 1 (by omega), hc 2 (by omega), hc 3 (by omega), hc 4 (by omega)⟩, ⟨c5, hc 5 (by omega), hk5⟩, ⟨c6, hc 6 (by omega), hk6⟩, ⟨c7, hc 7 (by omega), hk7⟩⟩, hg5, hg6, hg7⟩, ?_⟩
     rw [hx]
     simp only [Rows.uptoBulk, Rows.uptoBulkAll, List.map_cons, List.map_nil]
     omega) h
  refine ⟨Sts.ofL l, SlS_iff.2 (by rw [Sts.to_of]; exact h1.same (fun _ _ _ h => h.1)), by rw [Sts.wt_of]; exact h2, Sts.rg_of l (h1.each _ (fun a b q h => h.2))⟩
theorem sum_len {α : Type} (μ : α → Nat) : ∀ l : List α, l.length ≤ (l.map (fun a => μ a + 1)).sum
 | [] => Nat.le_refl _
 | a :: l => by have := sum_len μ l; simp only [List.map_cons, List.sum_cons, List.length_cons]; omega
theorem sum_mem {α : Type} (μ : α → Nat) : ∀ (l : List α) (a : α), a ∈ l → μ a + 1 ≤ (l.map (fun a => μ a + 1)).sum
 | b :: l, a, h => by
  simp only [List.map_cons, List.sum_cons]
  rcases List.mem_cons.1 h with rfl | h'
  ·omega
  ·have := sum_mem μ l a h'; omega
def ptot (l : List PW) : Nat := (l.map (fun a : PW => a.1.size + 1)).sum
theorem ptot_len (l : List PW) : l.length ≤ ptot l := sum_len (fun a : PW => a.1.size) l
theorem ptot_mem (l : List PW) (a : PW) (h : a ∈ l) : a.1.size + 1 ≤ ptot l := sum_mem (fun a : PW => a.1.size) l a h
theorem pars_open (fuel : Nat) (v : Value) (y : DataW H × List MemPlace) (h : DataW.trod enc Tryz.prog w 0 (fun _ => true) true fuel 39 [v] = some y) : ∃ l : List PW, SlPz w none l v ∧ ptot l + 1 ≤ Rows.uptoBulk y.1 := by
 obtain ⟨l, h1, h2⟩ := rows_list Tryz.underlying39 cells46 (by decide) (ParR w) (fun a => a.1.size) (fun n cs z b q hn hl hc ht => by
  obtain ⟨xs, m, hm, hx, _, hxs, hf⟩ := DataW.trod_struct Tryz.underlying46 ht
  match cs, hl with
  | [c0, c1], _ =>
   match xs, hxs with
   | [x0, x1], _ =>
    obtain ⟨y0, rfl, s0⟩ := fld_str Tryz.underlying9 (fld hf 0 _ rfl [c0] (by kernel_rfl) 9 rfl x0 rfl)
    obtain ⟨y1, rfl, -⟩ := fld_int Tryz.underlying40 (fld hf 1 _ rfl [c1] (by kernel_rfl) 40 rfl x1 rfl)
    refine ⟨(y0, y1), ⟨hc 0 (by omega), hc 1 (by omega)⟩, ?_⟩
    rw [hx]
    simp only [Rows.uptoBulk, Rows.uptoBulkAll, List.map_cons, List.map_nil]
    omega) h
 exact ⟨l, h1, h2⟩
theorem glos_open (fuel : Nat) (v : Value) (y : DataW H × List MemPlace) (h : DataW.trod enc Tryz.prog w 0 (fun _ => true) true fuel 22 [v] = some y) : ∃ l : List GH, SlG w true none l v ∧ l.length + 1 ≤ Rows.uptoBulk y.1 ∧ ∀ a ∈ l, a.name.size + 1 ≤ Rows.uptoBulk y.1 ∧ (U32 a.word ∧ U32 a.len) := by
 obtain ⟨l, h1, h2⟩ := rows_list Tryz.underlying22 cells105 (by decide) (fun a b q => GloR w true a b q ∧ (U32 a.word ∧ U32 a.len)) (fun a => a.name.size) (fun n cs z b q hn hl hc ht => by
  obtain ⟨xs, m, hm, hx, _, hxs, hf⟩ := DataW.trod_struct Tryz.underlying105 ht
  match cs, hl with
  | [c0, c1, c2, c3, c4], _ =>
   match xs, hxs with
   | [x0, x1, x2, x3, x4], _ =>
    obtain ⟨y0, rfl, -⟩ := fld_int Tryz.underlying3 (fld hf 0 _ rfl [c0] (by kernel_rfl) 3 rfl x0 rfl)
    obtain ⟨y1, rfl, s1⟩ := fld_str Tryz.underlying9 (fld hf 1 _ rfl [c1] (by kernel_rfl) 9 rfl x1 rfl)
    obtain ⟨y2, rfl, -⟩ := fld_int Tryz.underlying40 (fld hf 2 _ rfl [c2] (by kernel_rfl) 40 rfl x2 rfl)
    obtain ⟨y3, rfl, w3⟩ := fld_int Tryz.underlying52 (fld hf 3 _ rfl [c3] (by kernel_rfl) 52 rfl x3 rfl)
    obtain ⟨y4, rfl, w4⟩ := fld_int Tryz.underlying52 (fld hf 4 _ rfl [c4] (by kernel_rfl) 52 rfl x4 rfl)
    refine ⟨⟨y0, y1, y2, y3, y4⟩, ⟨⟨⟨y0, hc 0 (by omega), fun _ => rfl⟩, hc 1 (by omega), hc 2 (by omega), hc 3 (by omega), hc 4 (by omega)⟩, u32_of w4, u32_of w3⟩, ?_⟩
    rw [hx]
    simp only [Rows.uptoBulk, Rows.uptoBulkAll, List.map_cons, List.map_nil]
    omega) h
 exact ⟨l, h1.same (fun _ _ _ h => h.1), by have := sum_len (fun a : GH => a.name.size) l; omega, fun a ha => ⟨by have := sum_mem (fun a : GH => a.name.size) l a ha; omega, h1.each (fun a : GH => U32 a.word ∧ U32 a.len) (fun a b q h => h.2) a ha⟩⟩
theorem hoss_open (fuel : Nat) (v : Value) (y : DataW H × List MemPlace) (h : DataW.trod enc Tryz.prog w 0 (fun _ => true) true fuel 23 [v] = some y) : ∃ l : List HH, SlH w true none l v ∧ l.length + 1 ≤ Rows.uptoBulk y.1 ∧ ∀ a ∈ l, a.name.size + ptot a.params + 1 ≤ Rows.uptoBulk y.1 := by
 obtain ⟨l, h1, h2⟩ := rows_list Tryz.underlying23 cells101 (by decide) (HosR w true none) (fun a => a.name.size + ptot a.params) (fun n cs z b q hn hl hc ht => by
  obtain ⟨xs, m, hm, hx, _, hxs, hf⟩ := DataW.trod_struct Tryz.underlying101 ht
  match cs, hl with
  | [c0, c1, c2, c3, c4], _ =>
   match xs, hxs with
   | [x0, x1, x2, x3, x4], _ =>
    obtain ⟨y0, rfl, -⟩ := fld_int Tryz.underlying3 (fld hf 0 _ rfl [c0] (by kernel_rfl) 3 rfl x0 rfl)
    obtain ⟨y1, rfl, s1⟩ := fld_str Tryz.underlying9 (fld hf 1 _ rfl [c1] (by kernel_rfl) 9 rfl x1 rfl)
    obtain ⟨ps, hp, hs⟩ := pars_open m c2 x2 (fld hf 2 _ rfl [c2] (by kernel_rfl) 39 rfl x2 rfl)
    obtain ⟨y3, rfl, -⟩ := fld_int Tryz.underlying40 (fld hf 3 _ rfl [c3] (by kernel_rfl) 40 rfl x3 rfl)
    obtain ⟨y4, rfl, -⟩ := fld_int Tryz.underlying52 (fld hf 4 _ rfl [c4] (by kernel_rfl) 52 rfl x4 rfl)
    refine ⟨⟨y0, y1, ps, y3, y4⟩, ⟨⟨y0, hc 0 (by omega), fun _ => rfl⟩, hc 1 (by omega), ⟨c2, hc 2 (by omega), hp⟩, hc 3 (by omega), hc 4 (by omega)⟩, ?_⟩
    rw [hx]
    simp only [Rows.uptoBulk, Rows.uptoBulkAll, List.map_cons, List.map_nil]
    omega) h
 exact ⟨l, h1, by have := sum_len (fun a : HH => a.name.size + ptot a.params) l; omega, fun a ha => by have := sum_mem (fun a : HH => a.name.size + ptot a.params) l a ha; omega⟩
theorem funs_open (fuel : Nat) (v : Value) (y : DataW H × List MemPlace) (h : DataW.trod enc Tryz.prog w 0 (fun _ => true) true fuel 24 [v] = some y) : ∃ l : List FH, SlF w true none l v ∧ l.length + 1 ≤ Rows.uptoBulk y.1 ∧ ∀ a ∈ l, a.name.size + ptot a.params + a.body.wt + 1 ≤ Rows.uptoBulk y.1 ∧ a.body.Rg := by
 obtain ⟨l, h1, h2⟩ := rows_list Tryz.underlying24 cells43 (by decide) (fun a b q => FunR w true none a b q ∧ a.body.Rg) (fun a => a.name.size + ptot a.params + a.body.wt) (fun n cs z b q hn hl hc ht => by
  obtain ⟨xs, m, hm, hx, _, hxs, hf⟩ := DataW.trod_struct Tryz.underlying43 ht
  match cs, hl with
  | [c0, c1, c2, c3, c4, c5], _ =>
   match xs, hxs with
   | [x0, x1, x2, x3, x4, x5], _ =>
    obtain ⟨y0, rfl, -⟩ := fld_int Tryz.underlying3 (fld hf 0 _ rfl [c0] (by kernel_rfl) 3 rfl x0 rfl)
    obtain ⟨y1, rfl, s1⟩ := fld_str Tryz.underlying9 (fld hf 1 _ rfl [c1] (by kernel_rfl) 9 rfl x1 rfl)
    obtain ⟨ps, hp, hs⟩ := pars_open m c2 x2 (fld hf 2 _ rfl [c2] (by kernel_rfl) 39 rfl x2 rfl)
    obtain ⟨y3, rfl, -⟩ := fld_int Tryz.underlying40 (fld hf 3 _ rfl [c3] (by kernel_rfl) 40 rfl x3 rfl)
    obtain ⟨y4, rfl⟩ := fld_bool Tryz.underlying4 (fld hf 4 _ rfl [c4] (by kernel_rfl) 4 rfl x4 rfl)
    obtain ⟨bd, hb, hbs, hbg⟩ := sts_open m c5 x5 (fld hf 5 _ rfl [c5] (by kernel_rfl) 41 rfl x5 rfl)
    refine ⟨⟨y0, y1, ps, y3, y4, bd⟩, ⟨⟨⟨y0, hc 0 (by omega), fun _ => rfl⟩, hc 1 (by omega), ⟨c2, hc 2 (by omega), hp⟩, hc 3 (by omega), hc 4 (by omega), ⟨c5, hc 5 (by omega), hb⟩⟩, hbg⟩, ?_⟩
    rw [hx]
    simp only [Rows.uptoBulk, Rows.uptoBulkAll, List.map_cons, List.map_nil]
    omega) h
 exact ⟨l, h1.same (fun _ _ _ h => h.1), by have := sum_len (fun a : FH => a.name.size + ptot a.params + a.body.wt) l; omega, fun a ha => ⟨by have := sum_mem (fun a : FH => a.name.size + ptot a.params + a.body.wt) l a ha; omega, h1.each (fun a : FH => a.body.Rg) (fun a b q h => h.2) a ha⟩⟩
theorem unit_open {base : Nat} {v : Value} {d : DataW H} {p : List MemPlace} (hval : Value.okWide Tryz.prog w .any base 26 v) (h : DataW.Trod enc Tryz.prog w 0 (fun _ => true) true 26 v d p) (hs : Rows.uptoBulk d ≤ 1048576) : ∃ u : UT, UIn w true none u v ∧ (u.Ok ∧ u.Wf) ∧ ∀ x ∈ u.gs, U32 x.len := by
 simp only [Value.okWide, Tryz.underlying26] at hval
 obtain ⟨cs, rfl, hsz, -⟩ := hval
 obtain ⟨fuel, h⟩ := h
 obtain ⟨xs, m, hm, hx, hl, hxs, hf⟩ := DataW.trod_struct Tryz.underlying26 h
 have hc3 : cs.size = 3 := hsz.trans (by kernel_rfl)
 obtain ⟨cl⟩ := cs
 have hl3 : cl.length = 3 := hc3
 simp only [Value.cells] at hf
 match cl, hl3 with
 | [c0, c1, c2], _ =>
  match xs, hxs with
  | [x0, x1, x2], _ =>
   obtain ⟨gs, g1, g2, g3⟩ := glos_open m c0 x0 (fld hf 0 _ rfl [c0] (by kernel_rfl) 22 rfl x0 rfl)
   obtain ⟨hs', h1, h2, h3⟩ := hoss_open m c1 x1 (fld hf 1 _ rfl [c1] (by kernel_rfl) 23 rfl x1 rfl)
   obtain ⟨fs, f1, f2, f3⟩ := funs_open m c2 x2 (fld hf 2 _ rfl [c2] (by kernel_rfl) 24 rfl x2 rfl)
   simp only [Prod.mk.injEq] at hx
   rw [hx.1] at hs
   simp only [Rows.uptoBulk, Rows.uptoBulkAll, List.map_cons, List.map_nil] at hs
   refine ⟨⟨gs, hs', fs⟩, ⟨c0, c1, c2, rfl, g1, h1, f1⟩, ⟨⟨by show gs.length ≤ _; omega, by show hs'.length ≤ _; omega, by show fs.length ≤ _; omega, fun x hx => by have := (h3 x hx); have := ptot_len x.params; omega, fun x hx => by have := (f3 x hx).1; have := ptot_len x.params; omega, fun x hx => by have := (f3 x hx).1; have := x.body.sz_wt; omega⟩, ?_⟩, fun x hx => (g3 x hx).2.2⟩
   exact ⟨fun x hx => ⟨by have := (g3 x hx).1; omega, (g3 x hx).2.1⟩, fun x hx => ⟨by have := h3 x hx; omega, fun a ha => by have := h3 x hx; have := ptot_mem x.params a ha; omega⟩, fun x hx => ⟨by have := (f3 x hx).1; omega, fun a ha => by have := (f3 x hx).1; have := ptot_mem x.params a ha; omega, Sts.wf_of _ (by have := (f3 x hx).1; omega) (f3 x hx).2⟩⟩
theorem words_open (fuel : Nat) (v : Value) (y : DataW H × List MemPlace) (h : DataW.trod enc Tryz.prog w 0 (fun _ => true) true fuel 27 [v] = some y) : ∃ l : List Int, RowA w l v ∧ (∀ x ∈ l, U x) ∧ l.length + 1 ≤ Rows.uptoBulk y.1 := by
 obtain ⟨l, h1, h2⟩ := rows_list Tryz.underlying27 cells52 (by decide) (fun (a : Int) b q => w.cell? ⟨b, q, none⟩ = some (.int .u32 a) ∧ U32 a) (fun _ => 0) (fun n cs z b q hn hl hc ht => by
  match cs, hl with
  | [c0], _ =>
   obtain ⟨y0, rfl, w0⟩ := fld_int Tryz.underlying52 ht
   exact ⟨y0, ⟨hc 0 (by omega), u32_of w0⟩, bulk_one _⟩) h
 have h3 := h1.each (fun a : Int => U32 a) (fun a b q h => h.2)
 have h4 := sum_len (fun _ : Int => 0) l
 obtain ⟨ka, kb, koff, kcap, rfl, y2, y3⟩ := h1
 refine ⟨l, ⟨ka, kb, koff, kcap, rfl, y2.imp (fun q => q.1) (fun q => q.1), fun i hi => by have := (y3 i hi).1; rwa [Nat.mul_one] at this⟩, fun x hx => h3 x hx, by omega⟩
theorem ask_open {base : Nat} {v : Value} {d : DataW H} {p : List MemPlace} (hval : Value.okWide Tryz.prog w .any base 29 v) (h : DataW.Trod enc Tryz.prog w 0 (fun _ => true) true 29 v d p) (hs : Rows.uptoBulk d ≤ 1048576) :
  ∃ (nm : ByteArray) (va vv vl : Value) (st mo : Int) (args values later : List Int), v = .agg #[.string nm, va, .int .i64 st, .int .i64 mo, vv, vl] ∧ (-9223372036854775808 ≤ st ∧ st ≤ 9223372036854775807) ∧ (-9223372036854775808 ≤ mo ∧ mo ≤ 9223372036854775807) ∧ nm.size ≤ 1048576 ∧
   (RowA w args va ∧ RowA w values vv ∧ RowA w later vl) ∧ ((∀ x ∈ args, U x) ∧ (∀ x ∈ values, U x) ∧ ∀ x ∈ later, U x) ∧ args.length ≤ 1048576 ∧ values.length ≤ 1048576 ∧ later.length ≤ 1048576 := by
 simp only [Value.okWide, Tryz.underlying29] at hval
 obtain ⟨cs, rfl, hsz, -⟩ := hval
 obtain ⟨fuel, h⟩ := h
 obtain ⟨xs, m, hm, hx, hl, hxs, hf⟩ := DataW.trod_struct Tryz.underlying29 h
 have hc3 : cs.size = 6 := hsz.trans (by kernel_rfl)
 obtain ⟨cl⟩ := cs
 have hl3 : cl.length = 6 := hc3
 simp only [Value.cells] at hf
 match cl, hl3 with
 | [c0, c1, c2, c3, c4, c5], _ =>
  match xs, hxs with
  | [x0, x1, x2, x3, x4, x5], _ =>
   obtain ⟨nm, rfl, s0⟩ := fld_str Tryz.underlying9 (fld hf 0 _ rfl [c0] (by kernel_rfl) 9 rfl x0 rfl)
   obtain ⟨args, a1, a2, a3⟩ := words_open m c1 x1 (fld hf 1 _ rfl [c1] (by kernel_rfl) 27 rfl x1 rfl)
   obtain ⟨st, rfl, w2⟩ := fld_int Tryz.underlying3 (fld hf 2 _ rfl [c2] (by kernel_rfl) 3 rfl x2 rfl)
   obtain ⟨mo, rfl, w3⟩ := fld_int Tryz.underlying3 (fld hf 3 _ rfl [c3] (by kernel_rfl) 3 rfl x3 rfl)
   obtain ⟨values, b1, b2, b3⟩ := words_open m c4 x4 (fld hf 4 _ rfl [c4] (by kernel_rfl) 27 rfl x4 rfl)
   obtain ⟨later, e1, e2, e3⟩ := words_open m c5 x5 (fld hf 5 _ rfl [c5] (by kernel_rfl) 27 rfl x5 rfl)
   simp only [Prod.mk.injEq] at hx
   rw [hx.1] at hs
   simp only [Rows.uptoBulk, Rows.uptoBulkAll, List.map_cons, List.map_nil] at hs
   have i2 := wf_i64.1 w2
   have i3 := wf_i64.1 w3
   exact ⟨nm, c1, c4, c5, st, mo, args, values, later, rfl, by omega, by omega, by omega, ⟨a1, b1, e1⟩, ⟨a2, b2, e2⟩, by omega, by omega, by omega⟩
end
end
end Go.Proofs.YtlabadkfkbenoaaGreatDoor
