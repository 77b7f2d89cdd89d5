/- Walks and plain laws, merged: SenO. No condition. -/
import Derived.Laws.ResultCell
import Derived.Test.YtlabadkfkbenoaaGreatDoorKn17
namespace Go.Proofs.YtlabadkfkbenoaaGreatDoor
open Go.RowKit
set_option linter.unusedVariables false
set_option linter.unusedSimpArgs false
set_option maxRecDepth 100000
section
open Go.Shelf
def wordsL : List GH → Int
 | [] => 0
 | g :: r => (if g.len < 1 then 1 else g.len) + wordsL r
set_option maxHeartbeats 8000000 in
theorem words64 (u : UT) (v : Value) (w : World) (ok : u.gs.length ≤ 100000000) (hl : Hid (∀ x ∈ u.gs, 0 ≤ x.len ∧ x.len < 4294967296)) (hv : UIn w false none u v) :
  Calls Tryz.prog 64 #[v] w fun e w' => e = .returned (.int .i64 (wordsL u.gs)) ∧ Below w.heap.size w w' := by
 obtain ⟨vg, vh, vf, rfl, hg, hh, hf⟩ := hv
 obtain ⟨ga, gb, go, gc, rfl, hga, hgi⟩ := SlR.open hg
 obtain ⟨ha, hbk, ho, hc, rfl, -, -⟩ := SlR.open hh
 obtain ⟨fa, fb, fo, fc, rfl, -, -⟩ := SlR.open hf
 obtain ⟨gs, hs, fs⟩ := u
 simp only [] at *
 have hG := hid hgi
 obtain ⟨len, hlen⟩ : ∃ m, m = gs.length := ⟨_, rfl⟩
 rw [← hlen] at hga ok ⊢
 have HL := hid hlen
 clear hg hh hf hgi hlen
 have hX0 := hid (SB1.new (Below.refl w.heap.size w) #[.slice ga len gc, .slice ha hs.length hc, .slice fa fs.length fc] 26)
 go_enter Tryz.func64, Tryz.ntmps64
 go_wp2_with fail
 go_loopw [3, 9] (fun z i wr => ∃ (k : Nat) (s : Int), z = .int .i64 s ∧ k ≤ len ∧ i = .int .i64 k ∧ wordsL gs = s + wordsL (gs.drop k) ∧ 0 ≤ s ∧ s ≤ k * 4294967296 ∧ SB1 w w.heap.size #[.slice ga len gc, .slice ha hs.length hc, .slice fa fs.length fc] 26 wr) (fun _ i _ => len - (intOf i).toNat)
 case atStart => exact ⟨0, 0, rfl, Nat.zero_le _, rfl, by simp, by omega, by omega, hX0.out⟩
 case round =>
  clear hX0
  obtain ⟨k, s, rfl, hk, rfl, hw, hs0, hs1, hX⟩ := hrel
  have hX1 := hid hX
  have hb := hid hX.below
  have hW := hid hw
  clear hX hw
  by_cases hlt : k < len
  ·have hlt' : k < gs.length := by have := HL.out; omega
   obtain ⟨⟨t, y0, _⟩, y1, y2, y3, y4⟩ := hG.out k hlt'
   have hln := hl.out _ (List.getElem_mem hlt')
   have hdr := hid (show gs.drop k = gs[k] :: gs.drop (k + 1) from List.drop_eq_getElem_cons hlt')
   have x0 := cell_on y0 hb.out
   have x1 := cell_on y1 hb.out
   have x2 := cell_on y2 hb.out
   have x3 := cell_on y3 hb.out
   have x4 := cell_on y4 hb.out
   have hka2 : ga = some ⟨gb, go, none⟩ := by rcases hga with q | q; (· omega); (· exact q)
   subst hka2
   generalize gs[k] = a at x1 x2 x3 x4 hln hdr
   obtain ⟨at0, nm, ty, ln, wd⟩ := a
   simp only [] at x1 x2 x3 x4 hln
   have hX2 := hid (hX1.out.on ((Below.refl wr.heap.size wr).alloc (Nat.le_refl _) (.cells #[.int .i64 t, .string nm, .int .u8 ty, .int .u32 ln, .int .u32 wd] 105)))
   clear hga y0 y1 y2 y3 y4
   obtain ⟨m, hm⟩ : ∃ m, m = (if ln < 1 then 1 else ln) := ⟨_, rfl⟩
   have hm1 : 0 ≤ m ∧ m < 4294967296 := by rw [hm]; split <;> omega
   have hM := hid hm
   have hwr : wrap64 (s + m) = s + m := by simp only [wrap64]; omega
   have hE := hid (show wordsL gs = (s + m) + wordsL (gs.drop (k + 1)) by rw [hW.out, hdr.out]; simp only [wordsL]; rw [← hM.out]; omega)
   by_cases hl1 : ln < 1
   ·have hm2 : m = 1 := by rw [hm, if_pos hl1]
    subst hm2
    clear hm
    go_wp2_with fail
    exact ⟨⟨k + 1, s + 1, by simp [hwr], by omega, by go_num, hE.out, by omega, by omega, hX2.out⟩, by simp only [intOf]; omega⟩
   ·have hm2 : m = ln := by rw [hm, if_neg hl1]
    subst hm2
    clear hm
    go_wp2_with fail
    exact ⟨⟨k + 1, s + m, by simp [hwr], by omega, by go_num, hE.out, by omega, by omega, hX2.out⟩, by simp only [intOf]; omega⟩
  ·have hk2 : k = len := by omega
   subst k
   have hE := hid (show wordsL gs = s by rw [hW.out, HL.out, List.drop_length]; simp [wordsL])
   go_wp2_with fail
   go_ret
   rw [hE.out]
   exact ⟨rfl, hX1.out.below⟩
/-! ### names -/
abbrev VS := List (ByteArray × (Int × Int))
abbrev CSg := List (ByteArray × Sig)
def gatG : List GH → VS → Option VS
 | [], vs => some vs
 | g :: r, vs => if hasN vs [] g.name then none else gatG r (putM g.name (g.type, g.len) vs)
def gatH : List HH → Nat → VS → CSg → Option CSg
 | [], _, _, cs => some cs
 | h :: r, i, vs, cs => if hasN vs cs h.name then none else gatH r (i + 1) vs (putM h.name ⟨h.params, h.type, i, -1⟩ cs)
def gatF : List FH → Nat → VS → CSg → Option CSg
 | [], _, _, cs => some cs
 | f :: r, i, vs, cs => if hasN vs cs f.name then none else gatF r (i + 1) vs (putM f.name ⟨f.params, f.type, -1, i⟩ cs)
/-- the names of a unit, if none is given twice -/
def gatU (u : UT) : Option (VS × CSg) :=
 match gatG u.gs [] with
 | none => none
 | some vs => match gatH u.hs 0 vs [] with
  | none => none
  | some c1 => match gatF u.fs 0 vs c1 with
   | none => none
   | some cs => some (vs, cs)
structure G40 (w : World) (n : Nat) (box : Array Value) (vs : VS) (cs : CSg) (wr : World) : Prop where
 b1 : Bx wr n box 26
 b2 : Bx wr (n + 1) #[.map none, .map none] 91
 mv : Mp wr (n + 1 + 1) (vs.map fun x => (x.1, varv x.2))
 mc : ∃ l, Mp wr (n + 1 + 1 + 1) l ∧ CalR w cs l
 b4 : Bx wr (n + 1 + 1 + 1 + 1) #[.map (some (n + 1 + 1)), .map (some (n + 1 + 1 + 1))] 91
 below : Below n w wr
 size : n = w.heap.size
section
variable {w wr w' : World} {n : Nat} {box : Array Value} {vs : VS} {cs : CSg}
theorem G40.on (h : G40 w n box vs cs wr) (hb : Below wr.heap.size wr w') : G40 w n box vs cs w' :=
 ⟨h.b1.on (grown_of_below hb) (by simp), h.b2.on (grown_of_below hb) (by simp), h.mv.mono hb, by obtain ⟨l, h1, h2⟩ := h.mc; exact ⟨l, h1.mono hb, h2⟩, h.b4.on (grown_of_below hb) (by simp), h.below.trans (hb.mono (by have := h.b1.lt; omega)), h.size⟩
theorem G40.nm (h : G40 w n box vs cs wr) : NmR wr vs cs (n + 1 + 1) (n + 1 + 1 + 1) := by
 obtain ⟨l, h1, h2⟩ := h.mc
 exact ⟨h.mv, l, h1, h2.mono (h.size ▸ h.below)⟩
theorem G40.putV {vs' : VS} (h : G40 w n box vs cs wr) (hg : wr.grownBy w' (some (n + 1 + 1))) (hm : Mp w' (n + 1 + 1) (vs'.map fun x => (x.1, varv x.2))) : G40 w n box vs' cs w' :=
 ⟨h.b1.on hg (by simp <;> omega), h.b2.on hg (by simp <;> omega), hm, by obtain ⟨l, h1, h2⟩ := h.mc; exact ⟨l, h1.on hg (by simp <;> omega), h2⟩, h.b4.on hg (by simp <;> omega), h.below.grown hg (by have := h.b1.lt; omega) (fun k e => by cases e; omega), h.size⟩
theorem G40.putC {cs' : CSg} {l : List (ByteArray × Value)} (h : G40 w n box vs cs wr) (hg : wr.grownBy w' (some (n + 1 + 1 + 1))) (hm : Mp w' (n + 1 + 1 + 1) l) (hc : CalR w cs' l) : G40 w n box vs cs' w' :=
 ⟨h.b1.on hg (by simp <;> omega), h.b2.on hg (by simp <;> omega), h.mv.on hg (by simp <;> omega), ⟨l, hm, hc⟩, h.b4.on hg (by simp <;> omega), h.below.grown hg (by have := h.b1.lt; omega) (fun k e => by cases e; omega), h.size⟩
theorem G40.start (w : World) (box : Array Value) : G40 w w.heap.size box [] [] (((((w.alloc (.cells box 26)).alloc (.cells #[.map none, .map none] 91)).alloc (.map #[] 0)).alloc (.map #[] 0)).alloc (.cells #[.map (some (w.heap.size + 1 + 1)), .map (some (w.heap.size + 1 + 1 + 1))] 91)) :=
  ⟨((((Bx.new w box 26).al _).al _).al _).al _, by simpa using (((Bx.new (w.alloc (.cells box 26)) #[.map none, .map none] 91).al _).al _).al _,
   by simpa using ((Mp.new ((w.alloc (.cells box 26)).alloc (.cells #[.map none, .map none] 91))).al _).al _,
   ⟨[], by simpa using (Mp.new (((w.alloc (.cells box 26)).alloc (.cells #[.map none, .map none] 91)).alloc (.map #[] 0))).al _, .nil⟩,
   by simpa using Bx.new ((((w.alloc (.cells box 26)).alloc (.cells #[.map none, .map none] 91)).alloc (.map #[] 0)).alloc (.map #[] 0)) _ 91, by (repeat (first | exact Below.refl _ _ | refine Below.drew ?_ | refine Below.alloc ?_ (by simp <;> omega) _)), rfl⟩
end
def P40 (w : World) (u : UT) (e : Ending) (w' : World) : Prop :=
 ∃ v0 b, e = .returned (.tuple #[v0, .bool b]) ∧ Below w.heap.size w w' ∧ match gatU u with
  | none => b = false ∧ v0 = .agg #[.map (some (w.heap.size + 1 + 1)), .map (some (w.heap.size + 1 + 1 + 1))]
  | some (vs, cs) => b = true ∧ v0 = .agg #[.map (some (w.heap.size + 1 + 1)), .map (some (w.heap.size + 1 + 1 + 1))] ∧ NmR w' vs cs (w.heap.size + 1 + 1) (w.heap.size + 1 + 1 + 1)
theorem P40.no {w w' : World} {u : UT} (h : gatU u = none) (hb : Below w.heap.size w w') : P40 w u (.returned (.tuple #[.agg #[.map (some (w.heap.size + 1 + 1)), .map (some (w.heap.size + 1 + 1 + 1))], .bool false])) w' := by
 unfold P40
 rw [h]
 exact ⟨_, _, rfl, hb, rfl, rfl⟩
theorem P40.yes {w w' : World} {u : UT} {vs : VS} {cs : CSg} (h : gatU u = some (vs, cs)) (hb : Below w.heap.size w w') (hn : NmR w' vs cs (w.heap.size + 1 + 1) (w.heap.size + 1 + 1 + 1)) : P40 w u (.returned (.tuple #[.agg #[.map (some (w.heap.size + 1 + 1)), .map (some (w.heap.size + 1 + 1 + 1))], .bool true])) w' := by
 unfold P40
 rw [h]
 exact ⟨_, _, rfl, hb, rfl, rfl, hn⟩
theorem res40 (w : World) (q : Nat) (a b : Value) (hb : Bx w q #[a, b] 91) : (loadVar 91 ⟨q, 0, none⟩).run Tryz.prog w = .ok (.agg #[a, b]) w :=
 run_loadVar_row (P := Tryz.prog) w q 91 91 _ (0, 0) _ hb Tryz.underlying91 rfl (by kernel_rfl)
theorem grown2 (w : World) (q : Nat) (a b : Value) : w.grownBy ((w.setCell ⟨q, 0, none⟩ a).setCell ⟨q, 1, none⟩ b) (some q) :=
 have h := ((Below.refl 0 w).setCell (p := ⟨q, 0, none⟩) (Nat.zero_le _) a).setCell (p := ⟨q, 1, none⟩) (Nat.zero_le _) b
 ⟨h.os, h.tape, h.output, h.size, fun k hk hn => by
  have hq : k ≠ q := fun e => hn (by rw [e])
  rw [Below.heap_setCell _ ⟨q, 1, none⟩ _ k hq, Below.heap_setCell _ ⟨q, 0, none⟩ _ k hq]⟩
set_option maxHeartbeats 16000000 in
theorem gathered40 (u : UT) (v : Value) (w : World) (ok : u.Ok) (hv : UIn w false none u v) : Calls Tryz.prog 40 #[v] w (P40 w u) := by
 obtain ⟨vg, vh, vf, rfl, hg, hh, hf⟩ := hv
 obtain ⟨ga, gb, go, gc, rfl, hga, hgi⟩ := SlR.open hg
 obtain ⟨ha, hbk, ho, hc, rfl, hha, hhi⟩ := SlR.open hh
 obtain ⟨fa, fb, fo, fc, rfl, hfa, hfi⟩ := SlR.open hf
 have hG := hid hgi
 have hH := hid hhi
 have hF := hid hfi
 have g1 := ok.g
 have g2 := ok.h
 have g3 := ok.f
 obtain ⟨gs, hs, fs⟩ := u
 simp only [] at *
 obtain ⟨mg, hmg⟩ : ∃ m, m = gs.length := ⟨_, rfl⟩
 obtain ⟨mh, hmh⟩ : ∃ m, m = hs.length := ⟨_, rfl⟩
 obtain ⟨mf, hmf⟩ : ∃ m, m = fs.length := ⟨_, rfl⟩
 rw [← hmg] at hga g1 ⊢
 rw [← hmh] at hha g2 ⊢
 rw [← hmf] at hfa g3 ⊢
 have hMG := hid hmg
 have hMH := hid hmh
 have hMF := hid hmf
 clear hg hh hf hgi hhi hfi ok hmg hmh hmf
 have hX0 := hid (G40.start w #[.slice ga mg gc, .slice ha mh hc, .slice fa mf fc])
 have hm8 : ∀ w : World, (Instr.makeMap 88 none).run Tryz.prog w = .ok (.map (some w.heap.size)) (w.alloc (.map #[] 0)) := fun w => run_makeMap 88 w
 have hm9 : ∀ w : World, (Instr.makeMap 89 none).run Tryz.prog w = .ok (.map (some w.heap.size)) (w.alloc (.map #[] 0)) := fun w => run_makeMap 89 w
 go_enter Tryz.func40, Tryz.ntmps40
 go_wp2_with fail
 clear hm8 hm9
 go_loopw [17] (fun i wr => ∃ (k : Nat) (vs : VS), k ≤ mg ∧ i = .int .i64 k ∧ gatG gs [] = gatG (gs.drop k) vs ∧ G40 w w.heap.size #[.slice ga mg gc, .slice ha mh hc, .slice fa mf fc] vs [] wr) (fun i _ => mg - (intOf i).toNat)
 case atStart => exact ⟨0, [], Nat.zero_le _, rfl, rfl, hX0.out⟩
 case round =>
  clear hX0
  obtain ⟨k, vs, hk, rfl, hgat, hX⟩ := hrel
  have hA := hid hgat
  have hX1 := hid hX
  have hb := hid hX.below
  have p0 := hX1.out.b1.cell 0
  have p1 := hX1.out.b1.cell 1
  have p2 := hX1.out.b1.cell 2
  simp at p0 p1 p2
  clear hgat hX
  by_cases hlt : k < mg
  ·have hlt' : k < gs.length := by have := hMG.out; omega
   obtain ⟨⟨t, y0, _⟩, y1, y2, y3, y4⟩ := hG.out k hlt'
   have hdr := hid (show gs.drop k = gs[k] :: gs.drop (k + 1) from List.drop_eq_getElem_cons hlt')
   have x0 := cell_on y0 hb.out
   have x1 := cell_on y1 hb.out
   have x2 := cell_on y2 hb.out
   have x3 := cell_on y3 hb.out
   have x4 := cell_on y4 hb.out
   have hka2 : ga = some ⟨gb, go, none⟩ := by rcases hga with q | q; (· omega); (· exact q)
   subst hka2
   generalize gs[k] = a at x1 x2 x3 x4 hdr
   obtain ⟨at0, nm, ty, ln, wd⟩ := a
   simp only [] at x1 x2 x3 x4
   clear hga y0 y1 y2 y3 y4 p0 p1 p2
   have hX2 := hid (hX1.out.on ((Below.refl wr.heap.size wr).alloc (Nat.le_refl _) (.cells #[.int .i64 t, .string nm, .int .u8 ty, .int .u32 ln, .int .u32 wd] 105)))
   have q0 := hX2.out.b4.cell 0
   have q1 := hX2.out.b4.cell 1
   simp at q0 q1
   have cx := hid (has73 nm _ _ _ _ _ hX2.out.nm)
   cases hha : hasN vs [] nm with
   | true =>
    have hN := hid (show gatU ⟨gs, hs, fs⟩ = none by unfold gatU; rw [hA.out, hdr.out]; simp [gatG, hha])
    rw [hha] at cx
    go_wp2_with fail
    refine cx.out.mono ?_
    rintro e w2 ⟨rfl, hb2⟩
    have hX3 := hid (hX2.out.on hb2)
    clear hb2 cx q0 q1
    have q0 := hX3.out.b4.cell 0
    have q1 := hX3.out.b4.cell 1
    have z0 := hX3.out.b2.cell 0
    have z1 := hX3.out.b2.cell 1
    have f0 := hX3.out.b2.free 0
    have f1 := hX3.out.b2.free 1
    simp at q0 q1 z0 z1
    have hST := hid (hX3.out.b2.set 0 (.map (some (w.heap.size + 1 + 1))) |>.set 1 (.map (some (w.heap.size + 1 + 1 + 1))))
    simp at hST
    go_wp2_with fail
    refine bodyPost_ret (v := .tuple #[.agg #[.map (some (w.heap.size + 1 + 1)), .map (some (w.heap.size + 1 + 1 + 1))], .bool false]) ?_ rfl ?_
    ·rw [results_cell_tmp rfl]
     have hload := res40 _ _ _ _ hST.out
     simp [asAddr, Result.andThen, hload]
    ·exact P40.no hN.out (hX3.out.below.grown (grown2 _ _ _ _) hX3.out.below.size (fun k e => by cases e; omega))
   | false =>
    rw [hha] at cx
    go_wp2_with fail
    refine cx.out.mono ?_
    rintro e w2 ⟨rfl, hb2⟩
    have hX3 := hid (hX2.out.on hb2)
    have n1 := cell_on (show (wr.alloc (.cells #[.int .i64 t, .string nm, .int .u8 ty, .int .u32 ln, .int .u32 wd] 105)).cell? ⟨wr.heap.size, 1, none⟩ = some (.string nm) by simp [(Bx.new wr #[.int .i64 t, .string nm, .int .u8 ty, .int .u32 ln, .int .u32 wd] 105).cell 1]) hb2
    have n2 := cell_on (show (wr.alloc (.cells #[.int .i64 t, .string nm, .int .u8 ty, .int .u32 ln, .int .u32 wd] 105)).cell? ⟨wr.heap.size, 2, none⟩ = some (.int .u8 ty) by simp [(Bx.new wr #[.int .i64 t, .string nm, .int .u8 ty, .int .u32 ln, .int .u32 wd] 105).cell 2]) hb2
    have n3 := cell_on (show (wr.alloc (.cells #[.int .i64 t, .string nm, .int .u8 ty, .int .u32 ln, .int .u32 wd] 105)).cell? ⟨wr.heap.size, 3, none⟩ = some (.int .u32 ln) by simp [(Bx.new wr #[.int .i64 t, .string nm, .int .u8 ty, .int .u32 ln, .int .u32 wd] 105).cell 3]) hb2
    clear hb2 cx q0 q1
    have q0 := hX3.out.b4.cell 0
    simp at q0
    obtain ⟨w3, hrun, hg3, hsz3, hmp⟩ := hX3.out.mv.update under88 under9 nm (varv (ty, ln))
    have hX4 := hid (hX3.out.putV hg3 (by rw [← putM_map varv]; exact hmp))
    clear hg3 hsz3 hmp
    go_wp2_with fail
    exact ⟨⟨k + 1, putM nm (ty, ln) vs, by omega, by go_num, by rw [hA.out, hdr.out]; simp [gatG, hha], hX4.out⟩, by simp only [intOf]; omega⟩
  ·have hk2 : k = mg := by omega
   subst k
   have hV := hid (show gatG gs [] = some vs by rw [hA.out, hMG.out, List.drop_length]; rfl)
   clear hA hga hG
   go_wp2_with fail
   go_loopw [39] (fun i wr => ∃ (k : Nat) (cs : CSg), k ≤ mh ∧ i = .int .i64 k ∧ gatH hs 0 vs [] = gatH (hs.drop k) k vs cs ∧ G40 w w.heap.size #[.slice ga mg gc, .slice ha mh hc, .slice fa mf fc] vs cs wr) (fun i _ => mh - (intOf i).toNat)
   case atStart => exact ⟨0, [], Nat.zero_le _, rfl, rfl, hX1.out⟩
   case round =>
    clear hX1 hb p0 p1 p2 hlt hk
    obtain ⟨k, cs, hk, rfl, hgat, hX⟩ := hrel
    have hA := hid hgat
    have hX1 := hid hX
    have hb := hid hX.below
    have p0 := hX1.out.b1.cell 0
    have p1 := hX1.out.b1.cell 1
    have p2 := hX1.out.b1.cell 2
    simp at p0 p1 p2
    clear hgat hX
    by_cases hlt : k < mh
    ·have hlt' : k < hs.length := by have := hMH.out; omega
     obtain ⟨⟨t, y0, _⟩, y1, ⟨v2, y2, y2'⟩, y3, y4⟩ := hH.out k hlt'
     have hdr := hid (show hs.drop k = hs[k] :: hs.drop (k + 1) from List.drop_eq_getElem_cons hlt')
     have x0 := cell_on y0 hb.out
     have x1 := cell_on y1 hb.out
     have x2 := cell_on y2 hb.out
     have x3 := cell_on y3 hb.out
     have x4 := cell_on y4 hb.out
     have hka2 : ha = some ⟨hbk, ho, none⟩ := by rcases hha with q | q; (· omega); (· exact q)
     subst hka2
     generalize hs[k] = a at x1 x2 x3 x4 hdr y2'
     obtain ⟨at0, nm, ps, ty, nu⟩ := a
     simp only [] at x1 x2 x3 x4 y2'
     obtain ⟨va, vc, rfl⟩ := y2'.shape'
     have hPS := hid y2'.plain
     clear hha y0 y1 y2 y3 y4 y2' p0 p1 p2
     have hX2 := hid (hX1.out.on ((Below.refl wr.heap.size wr).alloc (Nat.le_refl _) (.cells #[.int .i64 t, .string nm, .slice va ps.length vc, .int .u8 ty, .int .u32 nu] 101)))
     have q0 := hX2.out.b4.cell 0
     have q1 := hX2.out.b4.cell 1
     simp at q0 q1
     have cx := hid (has73 nm _ _ _ _ _ hX2.out.nm)
     cases hha : hasN vs cs nm with
     | true =>
      have hN := hid (show gatU ⟨gs, hs, fs⟩ = none by unfold gatU; rw [hV.out]; simp only []; rw [hA.out, hdr.out]; simp [gatH, hha])
      rw [hha] at cx
      go_wp2_with fail
      refine cx.out.mono ?_
      rintro e w2 ⟨rfl, hb2⟩
      have hX3 := hid (hX2.out.on hb2)
      clear hb2 cx q0 q1
      have q0 := hX3.out.b4.cell 0
      have q1 := hX3.out.b4.cell 1
      have z0 := hX3.out.b2.cell 0
      have z1 := hX3.out.b2.cell 1
      have f0 := hX3.out.b2.free 0
      have f1 := hX3.out.b2.free 1
      simp at q0 q1 z0 z1
      have hST := hid (hX3.out.b2.set 0 (.map (some (w.heap.size + 1 + 1))) |>.set 1 (.map (some (w.heap.size + 1 + 1 + 1))))
      simp at hST
      go_wp2_with fail
      refine bodyPost_ret (v := .tuple #[.agg #[.map (some (w.heap.size + 1 + 1)), .map (some (w.heap.size + 1 + 1 + 1))], .bool false]) ?_ rfl ?_
      ·rw [results_cell_tmp rfl]
       have hload := res40 _ _ _ _ hST.out
       simp [asAddr, Result.andThen, hload]
      ·exact P40.no hN.out (hX3.out.below.grown (grown2 _ _ _ _) hX3.out.below.size (fun k e => by cases e; omega))
     | false =>
      rw [hha] at cx
      go_wp2_with fail
      refine cx.out.mono ?_
      rintro e w2 ⟨rfl, hb2⟩
      have hX3 := hid (hX2.out.on hb2)
      have n1 := cell_on (show (wr.alloc (.cells #[.int .i64 t, .string nm, .slice va ps.length vc, .int .u8 ty, .int .u32 nu] 101)).cell? ⟨wr.heap.size, 1, none⟩ = some (.string nm) by simp [(Bx.new wr #[.int .i64 t, .string nm, .slice va ps.length vc, .int .u8 ty, .int .u32 nu] 101).cell 1]) hb2
      have n2 := cell_on (show (wr.alloc (.cells #[.int .i64 t, .string nm, .slice va ps.length vc, .int .u8 ty, .int .u32 nu] 101)).cell? ⟨wr.heap.size, 2, none⟩ = some (.slice va ps.length vc) by simp [(Bx.new wr #[.int .i64 t, .string nm, .slice va ps.length vc, .int .u8 ty, .int .u32 nu] 101).cell 2]) hb2
      have n3 := cell_on (show (wr.alloc (.cells #[.int .i64 t, .string nm, .slice va ps.length vc, .int .u8 ty, .int .u32 nu] 101)).cell? ⟨wr.heap.size, 3, none⟩ = some (.int .u8 ty) by simp [(Bx.new wr #[.int .i64 t, .string nm, .slice va ps.length vc, .int .u8 ty, .int .u32 nu] 101).cell 3]) hb2
      clear hb2 cx q0 q1
      have q1 := hX3.out.b4.cell 1
      simp at q1
      obtain ⟨l, hl1, hl2⟩ := hX3.out.mc
      obtain ⟨w3, hrun, hg3, hsz3, hmp⟩ := hl1.update under89 under9 nm (.agg #[.slice va ps.length vc, .int .u8 ty, .int .i64 k, .int .i64 (-1)])
      have hX4 := hid (hX3.out.putC hg3 hmp (hl2.put nm (g := ⟨ps, ty, k, -1⟩) ⟨_, rfl, hPS.out⟩))
      clear hg3 hsz3 hmp hl1 hl2
      go_wp2_with fail
      exact ⟨⟨k + 1, putM nm ⟨ps, ty, k, -1⟩ cs, by omega, by go_num, by rw [hA.out, hdr.out]; simp [gatH, hha], hX4.out⟩, by simp only [intOf]; omega⟩
    ·have hk2 : k = mh := by omega
     subst k
     have hC := hid (show gatH hs 0 vs [] = some cs by rw [hA.out, hMH.out, List.drop_length]; rfl)
     clear hA hha hH
     go_wp2_with fail
     go_loopw [63] (fun i wr => ∃ (k : Nat) (c2 : CSg), k ≤ mf ∧ i = .int .i64 k ∧ gatF fs 0 vs cs = gatF (fs.drop k) k vs c2 ∧ G40 w w.heap.size #[.slice ga mg gc, .slice ha mh hc, .slice fa mf fc] vs c2 wr) (fun i _ => mf - (intOf i).toNat)
     case atStart => exact ⟨0, cs, Nat.zero_le _, rfl, rfl, hX1.out⟩
     case round =>
      clear hX1 hb p0 p1 p2 hlt hk
      obtain ⟨k, c2, hk, rfl, hgat, hX⟩ := hrel
      have hA := hid hgat
      have hX1 := hid hX
      have hb := hid hX.below
      have p0 := hX1.out.b1.cell 0
      have p1 := hX1.out.b1.cell 1
      have p2 := hX1.out.b1.cell 2
      simp at p0 p1 p2
      clear hgat hX
      by_cases hlt : k < mf
      ·have hlt' : k < fs.length := by have := hMF.out; omega
       obtain ⟨⟨t, y0, _⟩, y1, ⟨v2, y2, y2'⟩, y3, y4, ⟨v5, y5, y5'⟩⟩ := hF.out k hlt'
       have hdr := hid (show fs.drop k = fs[k] :: fs.drop (k + 1) from List.drop_eq_getElem_cons hlt')
       have x0 := cell_on y0 hb.out
       have x1 := cell_on y1 hb.out
       have x2 := cell_on y2 hb.out
       have x3 := cell_on y3 hb.out
       have x4 := cell_on y4 hb.out
       have x5 := cell_on y5 hb.out
       have hka2 : fa = some ⟨fb, fo, none⟩ := by rcases hfa with q | q; (· omega); (· exact q)
       subst hka2
       generalize fs[k] = a at x1 x2 x3 x4 x5 hdr y2' y5'
       obtain ⟨at0, nm, ps, ty, op, bd⟩ := a
       simp only [] at x1 x2 x3 x4 x5 y2' y5'
       obtain ⟨va, vc, rfl⟩ := y2'.shape'
       obtain ⟨ba, bc, rfl⟩ := y5'.shape'
       have hPS := hid y2'.plain
       clear hfa y0 y1 y2 y3 y4 y5 y2' y5' p0 p1 p2
       have hX2 := hid (hX1.out.on ((Below.refl wr.heap.size wr).alloc (Nat.le_refl _) (.cells #[.int .i64 t, .string nm, .slice va ps.length vc, .int .u8 ty, .bool op, .slice ba bd.len bc] 43)))
       have q0 := hX2.out.b4.cell 0
       have q1 := hX2.out.b4.cell 1
       simp at q0 q1
       have cx := hid (has73 nm _ _ _ _ _ hX2.out.nm)
       cases hha : hasN vs c2 nm with
       | true =>
        have hN := hid (show gatU ⟨gs, hs, fs⟩ = none by unfold gatU; rw [hV.out]; simp only []; rw [hC.out]; simp only []; rw [hA.out, hdr.out]; simp [gatF, hha])
        rw [hha] at cx
        go_wp2_with fail
        refine cx.out.mono ?_
        rintro e w2 ⟨rfl, hb2⟩
        have hX3 := hid (hX2.out.on hb2)
        clear hb2 cx q0 q1
        have q0 := hX3.out.b4.cell 0
        have q1 := hX3.out.b4.cell 1
        have z0 := hX3.out.b2.cell 0
        have z1 := hX3.out.b2.cell 1
        have f0 := hX3.out.b2.free 0
        have f1 := hX3.out.b2.free 1
        simp at q0 q1 z0 z1
        have hST := hid (hX3.out.b2.set 0 (.map (some (w.heap.size + 1 + 1))) |>.set 1 (.map (some (w.heap.size + 1 + 1 + 1))))
        simp at hST
        go_wp2_with fail
        refine bodyPost_ret (v := .tuple #[.agg #[.map (some (w.heap.size + 1 + 1)), .map (some (w.heap.size + 1 + 1 + 1))], .bool false]) ?_ rfl ?_
        ·rw [results_cell_tmp rfl]
         have hload := res40 _ _ _ _ hST.out
         simp [asAddr, Result.andThen, hload]
        ·exact P40.no hN.out (hX3.out.below.grown (grown2 _ _ _ _) hX3.out.below.size (fun k e => by cases e; omega))
       | false =>
        rw [hha] at cx
        go_wp2_with fail
        refine cx.out.mono ?_
        rintro e w2 ⟨rfl, hb2⟩
        have hX3 := hid (hX2.out.on hb2)
        have n1 := cell_on (show (wr.alloc (.cells #[.int .i64 t, .string nm, .slice va ps.length vc, .int .u8 ty, .bool op, .slice ba bd.len bc] 43)).cell? ⟨wr.heap.size, 1, none⟩ = some (.string nm) by simp [(Bx.new wr #[.int .i64 t, .string nm, .slice va ps.length vc, .int .u8 ty, .bool op, .slice ba bd.len bc] 43).cell 1]) hb2
        have n2 := cell_on (show (wr.alloc (.cells #[.int .i64 t, .string nm, .slice va ps.length vc, .int .u8 ty, .bool op, .slice ba bd.len bc] 43)).cell? ⟨wr.heap.size, 2, none⟩ = some (.slice va ps.length vc) by simp [(Bx.new wr #[.int .i64 t, .string nm, .slice va ps.length vc, .int .u8 ty, .bool op, .slice ba bd.len bc] 43).cell 2]) hb2
        have n3 := cell_on (show (wr.alloc (.cells #[.int .i64 t, .string nm, .slice va ps.length vc, .int .u8 ty, .bool op, .slice ba bd.len bc] 43)).cell? ⟨wr.heap.size, 3, none⟩ = some (.int .u8 ty) by simp [(Bx.new wr #[.int .i64 t, .string nm, .slice va ps.length vc, .int .u8 ty, .bool op, .slice ba bd.len bc] 43).cell 3]) hb2
        clear hb2 cx q0 q1
        have q1 := hX3.out.b4.cell 1
        simp at q1
        obtain ⟨l, hl1, hl2⟩ := hX3.out.mc
        obtain ⟨w3, hrun, hg3, hsz3, hmp⟩ := hl1.update under89 under9 nm (.agg #[.slice va ps.length vc, .int .u8 ty, .int .i64 (-1), .int .i64 k])
        have hX4 := hid (hX3.out.putC hg3 hmp (hl2.put nm (g := ⟨ps, ty, -1, k⟩) ⟨_, rfl, hPS.out⟩))
        clear hg3 hsz3 hmp hl1 hl2
        go_wp2_with fail
        exact ⟨⟨k + 1, putM nm ⟨ps, ty, -1, k⟩ c2, by omega, by go_num, by rw [hA.out, hdr.out]; simp [gatF, hha], hX4.out⟩, by simp only [intOf]; omega⟩
      ·have hk2 : k = mf := by omega
       subst k
       have hN := hid (show gatU ⟨gs, hs, fs⟩ = some (vs, c2) by unfold gatU;  rw [hV.out]; simp only []; rw [hC.out]; simp only []; rw [hA.out, hMF.out, List.drop_length]; rfl)
       clear hA hfa hF
       have q0 := hX1.out.b4.cell 0
       have q1 := hX1.out.b4.cell 1
       have z0 := hX1.out.b2.cell 0
       have z1 := hX1.out.b2.cell 1
       have f0 := hX1.out.b2.free 0
       have f1 := hX1.out.b2.free 1
       simp at q0 q1 z0 z1
       have hST := hid (hX1.out.b2.set 0 (.map (some (w.heap.size + 1 + 1))) |>.set 1 (.map (some (w.heap.size + 1 + 1 + 1))))
       simp at hST
       have hgr := grown2 wr (w.heap.size + 1) (.map (some (w.heap.size + 1 + 1))) (.map (some (w.heap.size + 1 + 1 + 1)))
       have hB9 := hid (hX1.out.below.grown hgr hX1.out.below.size (fun k e => by cases e; omega))
       have hN9 := hid (show NmR _ vs c2 _ _ from ⟨hX1.out.mv.on hgr (by simp <;> omega), by obtain ⟨l, h1, h2⟩ := hX1.out.mc; exact ⟨l, h1.on hgr (by simp <;> omega), h2.mono hB9.out⟩⟩)
       clear hgr
       go_wp2_with fail
       refine bodyPost_ret (v := .tuple #[.agg #[.map (some (w.heap.size + 1 + 1)), .map (some (w.heap.size + 1 + 1 + 1))], .bool true]) ?_ rfl ?_
       ·rw [results_cell_tmp rfl]
        have hload := res40 _ _ _ _ hST.out
        simp [asAddr, Result.andThen, hload]
       ·exact P40.yes hN.out hB9.out hN9.out
end
end Go.Proofs.YtlabadkfkbenoaaGreatDoor
