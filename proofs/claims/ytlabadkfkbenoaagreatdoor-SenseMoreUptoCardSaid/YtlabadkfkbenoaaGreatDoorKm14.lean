/- Walks and plain laws, merged: SenY AluA AluB. No condition. -/
import Derived.Laws.OwnMore
import Derived.Deep.OwnRows
import Derived.Test.YtlabadkfkbenoaaGreatDoorKm01
import Derived.Test.YtlabadkfkbenoaaGreatDoorKm13
import Derived.Laws.Externs
import Derived.Laws.Cover2
import Derived.Laws.ComplexArith
import Derived.Test.YtlabadkfkbenoaaGreatDoorKm02
namespace Go.Proofs.YtlabadkfkbenoaaGreatDoor
open Go.RowKit
set_option linter.unusedVariables false
set_option linter.unusedSimpArgs false
set_option maxRecDepth 100000
set_option maxHeartbeats 64000000
section
open Go.Shelf
theorem step_append_str {P : Program} {w : World} {ops : Array Oper} {o : Oper} {a : Act} {K : Act → World → Prop} {Q : Exit → Act → World → Prop} {E : Prop} (hgd : o.guard = none) (s x : Operand) (t : TypeId)
  (ho : o.op = .call { callee := .builtin .append, args := #[s, x], argTypes := #[t, t] })
  (base : Nat) (e e' : TypeId) (z : Value) (size bytes m : Nat) (ht : P.underlying t = some (.slice e)) (hinfo : (P.info? e).map (fun i => (i.zero, i.size, i.bytes)) = some (some z, size, bytes))
  (hzs : z.cells.size = size) (hsz : 0 < size)
  (v : Value) (n : Nat) (xs news : List Value) (fr : Nat × Nat) (hown : w.ownsRow base e size v n xs) (hl : news.length = m * size) (h1 : ∀ u ∈ news, u.oneCell' = true)
  (h63 : n + m ≤ maxLen) (hbytes : (n + m) * bytes ≤ 140737488355328) (hbase : base ≤ w.heap.size)
  (hs : a.eval s = v) (hx : a.eval x = .slice (some ⟨w.heap.size, 0, none⟩) m m)
  (h : ∀ v' w', Appended w w' base e size v v' n m xs news → K (a.put o.dst v') w') :
  if Region.wanted o (yielded ops a.tmps) = true then Oper.wp P o a (w.alloc (.cells news.toArray e' fr)) K Q else E := by
 have hw : Region.wanted o (yielded ops a.tmps) = true := by simp [Region.wanted, hgd]
 rw [if_pos hw]
 obtain ⟨i, hi, hz0, hz1, hz2⟩ := info_parts hinfo
 subst hz1
 subst hz2
 obtain ⟨v', w', hr, hA⟩ := append_strong (P := P) (w.alloc (.cells news.toArray e' fr)) base t o.type e i z ht hi hz0 hzs hsz v n xs (hown.alloc _) ⟨w.heap.size, 0, none⟩ m m news hl (by
  intro j u hj
  have hadd : (⟨w.heap.size, 0, none⟩ : Addr).add j = ⟨w.heap.size, j, none⟩ := by unfold Addr.add; split <;> simp_all
  rw [hadd, World.cell?_alloc_mark]; simpa using hj) h1 h63 hbytes (by simp; omega)
 unfold Oper.wp execOp
 simp only [ho, resolve, invoke, builtin, Sem.run_bind, Sem.run_pure, Result.andThen_ok, List.map_toArray, List.map_cons, List.map_nil, hs, hx, hr]
 refine h v' w' ⟨hA.own, hA.old, grown_trans (World.grownBy_alloc w _ _) hA.grown, ?_, hA.nil⟩
 rcases hA.place with h | ⟨g, h1, h2, h3⟩
 ·exact .inl h
 ·exact .inr ⟨g, h1, by simp at h2; omega, h3⟩
theorem initH_drop {gs : List GH} {k : Nat} (h : k < gs.length) : initH (gs.drop k) = (gs[k].name, initG gs[k]) :: initH (gs.drop (k + 1)) := by
 rw [List.drop_eq_getElem_cons h]
 rfl
theorem plG_drop {gs : List GH} {k i : Nat} {l : List (ByteArray × Int)} (h : k < gs.length) : plG (gs.drop k) i l = plG (gs.drop (k + 1)) (i + 1) (putM gs[k].name (i : Int) l) := by
 rw [List.drop_eq_getElem_cons h]
 rfl
theorem own_box {w : World} {B g n : Nat} {cs : Array Value} {e : TypeId} (h : Bx w g cs e) (hB : B ≤ g) (hs : cs.size = n) (hn : n ≤ 100000000) : w.ownsRow B e 1 (.slice (some ⟨g, 0, none⟩) n n) n cs.toList :=
 ⟨by simp [hs], .inr ⟨g, n, cs, rfl, hB, h, Nat.le_refl _, by unfold maxLen; omega, by simp [hs], by rw [Nat.mul_one, ← hs]; exact List.take_length⟩⟩
structure R16 (w6 : World) (X pb : Nat) (va vh vf vb cb : Value) (hd : HD) (xs : List Value) (hv : Value) (l : List (ByteArray × Int)) (wr : World) : Prop where
 box : Bx wr X #[va, vh, vf, vb, cb, hv, .map (some pb)] 94
 held : HeldR wr (w6.heap.size + 1 + 1 + 1) hd xs hv
 place : Mp wr pb (l.map fun x => (x.1, Value.int .i64 x.2))
 below : Below w6.heap.size w6 wr
 far : w6.heap.size ≤ X
 farp : w6.heap.size ≤ pb
section
variable {w6 wr w' : World} {X pb : Nat} {va vh vf vb cb hv : Value} {hd : HD} {xs : List Value} {l : List (ByteArray × Int)}
theorem R16.on (h : R16 w6 X pb va vh vf vb cb hd xs hv l wr) (hb : Below wr.heap.size wr w') : R16 w6 X pb va vh vf vb cb hd xs hv l w' :=
 ⟨h.box.on (grown_of_below hb) (by simp), h.held.mono hb, h.place.mono hb, h.below.trans (hb.mono h.below.size), h.far, h.farp⟩
theorem R16.add {nm : ByteArray} {ws : List Int} {x v' : Value} {w2 : World} (h : R16 w6 X pb va vh vf vb cb hd xs hv l wr) (hx : wr.ownsRow (w6.heap.size + 1 + 1 + 1) 52 1 x ws.length (ws.map (Value.int .u32))) (hp : 0 < ws.length) (hne : ∀ y ∈ xs, y.ownBlock ≠ x.ownBlock)
  (hA : Appended wr w2 (w6.heap.size + 1 + 1 + 1) 82 2 hv v' hd.length 1 (hcells hd xs) [.string nm, x]) : R16 w6 X pb va vh vf vb cb (hd ++ [(nm, ws)]) (xs ++ [x]) v' l (w2.setCell ⟨X, 5, none⟩ v') := by
 have b2 : Bx w2 X #[va, vh, vf, vb, cb, hv, .map (some pb)] 94 := h.box.on hA.grown (h.box.not_row h.held.row (by decide))
 have hg := grown_setCell w2 ⟨X, 5, none⟩ v'
 have h2 := h.held.add hx hp hne hA
 have hbx := h2.box b2 (by decide) (by decide)
 have hm2 : Mp w2 pb _ := h.place.on hA.grown (own_not_map h.place h.held.row)
 refine ⟨by simpa using b2.set 5 v', h2.on hg (.inr (fun e => hbx.1 e.symm)) (fun y hy => .inr (fun e => hbx.2 y hy e.symm)), hm2.on hg (by have := b2.not_map hm2; simpa using this), ?_, h.far, h.farp⟩
 refine (h.below.grown hA.grown h.below.size (fun q e => ?_)).grown hg (Nat.le_trans h.below.size hA.grown.size) (fun q e => by cases e; exact h.far)
 have := (h.held.row.lt q e).1
 omega
theorem R16.put {nm : ByteArray} {i : Int} (h : R16 w6 X pb va vh vf vb cb hd xs hv l wr) (hg : wr.grownBy w' (some pb)) (hm : Mp w' pb (putM nm (Value.int .i64 i) (l.map fun x => (x.1, Value.int .i64 x.2)))) : R16 w6 X pb va vh vf vb cb hd xs hv (putM nm i l) w' := by
 refine ⟨h.box.on hg (by have := h.box.not_map h.place; simpa using this.symm), h.held.on hg ?_ (fun y hy => ?_), by rw [← putM_map (Value.int .i64)]; exact hm, h.below.grown hg h.below.size (fun q e => by cases e; exact h.farp), h.far, h.farp⟩
 ·exact .inr (fun e => own_not_map h.place h.held.row e.symm)
 ·obtain ⟨i, hi, rfl⟩ := List.getElem_of_mem hy
  exact .inr (fun e => own_not_map h.place (h.held.rows i hi (by have := h.held.len; omega)) e.symm)
theorem R16.fresh (h : R16 w6 X pb va vh vf vb cb hd xs hv l wr) : (∀ y ∈ xs, ∀ q, y.ownBlock = some q → q < wr.heap.size) ∧ ∀ q, hv.ownBlock = some q → q < wr.heap.size :=
 ⟨fun y hy q e => by
  obtain ⟨i, hi, rfl⟩ := List.getElem_of_mem hy
  exact ((h.held.rows i hi (by have := h.held.len; omega)).lt q e).2, fun q e => (h.held.row.lt q e).2⟩
end
theorem under92 : Tryz.prog.underlying 92 = some (.map 9 3) := by kernel_rfl
theorem P16.no {w w' : World} {u : UT} (h : senseU u ≠ 0) (hb : Below w.heap.size w w') : P16 w u (.returned (.tuple #[.pointer none, .int .i64 (senseU u)])) w' := ⟨hb, .inl ⟨h, rfl⟩⟩
theorem new16 (u : UT) (v : Value) (w : World) (ok : u.Ok) (wf : u.Wf) (hln : Hid (∀ x ∈ u.gs, 0 ≤ x.len ∧ x.len < 4294967296)) (hv : UIn w false none u v) : Calls Tryz.prog 16 #[v] w (P16 w u) := by
  have hV := hid hv
  have OK := hid ok
  obtain ⟨vg, vh, vf, rfl, hg, hh, hf⟩ := hv
  obtain ⟨ga, gb, go, gc, rfl, hga, hgi⟩ := SlR.open hg
  obtain ⟨ha, hc, rfl⟩ := hh.shape
  obtain ⟨fa, fc, rfl⟩ := hf.shape
  have hG := hid hgi
  obtain ⟨mg, hmg⟩ : ∃ m, m = u.gs.length := ⟨_, rfl⟩
  rw [← hmg] at hga hV ⊢
  have MG := hid hmg
  have hmb : mg ≤ 100000000 := by rw [hmg]; exact ok.g
  obtain ⟨W1, hW1⟩ : ∃ x : World, x = w.alloc (.cells #[.slice ga mg gc, .slice ha u.hs.length hc, .slice fa u.fs.length fc] 26) := ⟨_, rfl⟩
  have X1 := hid (show Bx W1 w.heap.size #[.slice ga mg gc, .slice ha u.hs.length hc, .slice fa u.fs.length fc] 26 by rw [hW1]; exact Bx.new w _ _)
  have hB := hid (show Below w.heap.size w W1 by rw [hW1]; (repeat (first | exact Below.refl _ _ | refine Below.drew ?_ | refine Below.alloc ?_ (by simp <;> omega) _)))
  have cc := hid (check10 u (.agg #[.slice ga mg gc, .slice ha u.hs.length hc, .slice fa u.fs.length fc]) W1 ok wf hln (hV.out.mono hB.out))
  have p0 := X1.out.cell 0
  have p1 := X1.out.cell 1
  have p2 := X1.out.cell 2
  simp at p0 p1 p2
  obtain ⟨ck, hck⟩ : ∃ c, c = senseU u := ⟨_, rfl⟩
  rw [← hck] at cc
  have HCK := hid hck
  clear hg hh hf hgi ok wf hmg hck
  go_enter Tryz.func16, Tryz.ntmps16
  go_wp2_with fail
  rw [← hW1]
  clear hW1
  refine cc.out.mono ?_
  rintro e w2 ⟨⟨f, s, rfl⟩, hb2⟩
  have T2 := hid hb2
  clear cc hb2 p0 p1 p2
  have B4 := hid (Bx.new w2 #[.int .i64 ck, .int .i64 f, .int .i64 s] 34)
  have T3 := hid ((Below.refl w2.heap.size w2).alloc (Nat.le_refl _) (.cells #[.int .i64 ck, .int .i64 f, .int .i64 s] 34))
  have hB3 := hid (hB.out.trans ((bth T2.out T3.out).mono hB.out.size))
  by_cases hc0 : ck = 0
  · subst hc0
    obtain ⟨hch, vs, cs, hgu, hg256, hfs⟩ := sense_parts HCK.out.symm
    have SP := hid (And.intro hgu (chkU_fits hch))
    have X2 := hid (X1.out.on (grown_of_below T2.out) (by simp))
    have X3 := hid (X2.out.al (.cells #[.int .i64 0, .int .i64 f, .int .i64 s] 34))
    have cd := hid (copied39 u (.agg #[.slice ga mg gc, .slice ha u.hs.length hc, .slice fa u.fs.length fc]) (w2.alloc (.cells #[.int .i64 0, .int .i64 f, .int .i64 s] 34)) OK.out (hV.out.mono hB3.out))
    have p0 := X3.out.cell 0
    have p1 := X3.out.cell 1
    have p2 := X3.out.cell 2
    simp at p0 p1 p2
    clear hch hgu hfs
    go_wp2_with fail
    refine cd.out.mono ?_
    generalize hW3 : w2.alloc (.cells #[.int .i64 0, .int .i64 f, .int .i64 s] 34) = W3 at *
    clear cd hW3
    rintro e w4 ⟨v4, rfl, hu4, hb4⟩
    obtain ⟨vg4, vh4, vf4, rfl, i1, i2, i3⟩ := hu4
    obtain ⟨a1, c1, rfl⟩ := i1.shape
    obtain ⟨a2, c2, rfl⟩ := i2.shape
    obtain ⟨a3, c3, rfl⟩ := i3.shape
    have hU4 := hid (show UIn w4 false none u (.agg #[.slice a1 u.gs.length c1, .slice a2 u.hs.length c2, .slice a3 u.fs.length c3]) from UIn.sub ⟨_, _, _, rfl, i1, i2, i3⟩ (cells_only _ _))
    have hB4 := hid (hB3.out.trans (hb4.mono hB3.out.size))
    have X4 := hid (X3.out.on (grown_of_below hb4) (by simp))
    clear hb4 i1 i2 i3 p0 p1 p2
    have T5 := hid ((Below.refl w4.heap.size w4).alloc (Nat.le_refl _) (.cells #[.slice a1 u.gs.length c1, .slice a2 u.hs.length c2, .slice a3 u.fs.length c3] 26))
    have X5 := hid (Bx.new w4 #[.slice a1 u.gs.length c1, .slice a2 u.hs.length c2, .slice a3 u.fs.length c3] 26)
    have cg := hid (gathered40 u (.agg #[.slice a1 u.gs.length c1, .slice a2 u.hs.length c2, .slice a3 u.fs.length c3]) (w4.alloc (.cells #[.slice a1 u.gs.length c1, .slice a2 u.hs.length c2, .slice a3 u.fs.length c3] 26)) OK.out (hU4.out.mono T5.out))
    go_wp2_with fail
    refine cg.out.mono ?_
    generalize hW5 : w4.alloc (.cells #[.slice a1 u.gs.length c1, .slice a2 u.hs.length c2, .slice a3 u.fs.length c3] 26) = W5 at *
    clear cg hW5
    unfold P40
    rintro e w6 ⟨v0, b, rfl, hb6, hgat⟩
    rw [SP.out.1] at hgat
    obtain ⟨rfl, rfl, hnm⟩ := hgat
    obtain ⟨vb, hvb⟩ : ∃ q, q = W5.heap.size + 1 + 1 := ⟨_, rfl⟩
    obtain ⟨cb, hcb⟩ : ∃ q, q = W5.heap.size + 1 + 1 + 1 := ⟨_, rfl⟩
    rw [← hcb, ← hvb] at hnm
    rw [← hcb, ← hvb]
    have T6 := hid hb6
    have NM := hid hnm
    clear hb6 hvb hcb hnm
    have hB6 := hid (hB4.out.trans ((bth T5.out T6.out).mono hB4.out.size))
    have X6 := hid ((X4.out.on (grown_of_below T5.out) (by simp)).on (grown_of_below T6.out) (by simp))
    have X6b := hid (X5.out.on (grown_of_below T6.out) (by simp))
    have hU6 := hid (hU4.out.mono (bth T5.out T6.out))
    have q0 := (X6b.out.al (.cells #[.map (some vb), .map (some cb)] 91)).cell 0
    have q1 := (X6b.out.al (.cells #[.map (some vb), .map (some cb)] 91)).cell 1
    have q2 := (X6b.out.al (.cells #[.map (some vb), .map (some cb)] 91)).cell 2
    have p0 := X6.out.cell 0
    have p0b := ((((X6.out.al (.cells #[.map (some vb), .map (some cb)] 91)).al (.map #[] 0)).al (.cells #[.slice a1 u.gs.length c1, .slice a2 u.hs.length c2, .slice a3 u.fs.length c3, .map (some vb), .map (some cb), .slice none 0 0, .map (some (w6.heap.size + 1))] 94))).cell 0
    simp at q0 q1 q2 p0 p0b
    have hmm : ∀ w : World, (Instr.makeMap 92 none).run Tryz.prog w = .ok (.map (some w.heap.size)) (w.alloc (.map #[] 0)) := fun w => run_makeMap 92 w
    go_wp2_with fail
    have hR0 := hid (show R16 w6 (w6.heap.size + 1 + 1) (w6.heap.size + 1) (.slice a1 u.gs.length c1) (.slice a2 u.hs.length c2) (.slice a3 u.fs.length c3) (.map (some vb)) (.map (some cb)) [] [] (.slice none 0 0) [] (((w6.alloc (.cells #[.map (some vb), .map (some cb)] 91)).alloc (.map #[] 0)).alloc (.cells #[.slice a1 u.gs.length c1, .slice a2 u.hs.length c2, .slice a3 u.fs.length c3, .map (some vb), .map (some cb), .slice none 0 0, .map (some (w6.heap.size + 1))] 94)) from
      ⟨by simpa using Bx.new ((w6.alloc (.cells #[.map (some vb), .map (some cb)] 91)).alloc (.map #[] 0)) #[.slice a1 u.gs.length c1, .slice a2 u.hs.length c2, .slice a3 u.fs.length c3, .map (some vb), .map (some cb), .slice none 0 0, .map (some (w6.heap.size + 1))] 94, ⟨rfl, World.ownsRow_nil _ _ _ _, fun i h => by simp at h, fun i h => by simp at h, by simp⟩,
       by simpa using (Mp.new (w6.alloc (.cells #[.map (some vb), .map (some cb)] 91))).al (.cells #[.slice a1 u.gs.length c1, .slice a2 u.hs.length c2, .slice a3 u.fs.length c3, .map (some vb), .map (some cb), .slice none 0 0, .map (some (w6.heap.size + 1))] 94), by (repeat (first | exact Below.refl _ _ | refine Below.drew ?_ | refine Below.alloc ?_ (by simp <;> omega) _)), by omega, by omega⟩)
    clear q0 q1 q2 p0 p0b
    go_loopw [34] (fun i wr => ∃ (k : Nat) (hd : HD) (xs : List Value) (hv : Value) (l : List (ByteArray × Int)), i = .int .i64 k ∧ k ≤ mg ∧ hd.length = k ∧ initH u.gs = hd ++ initH (u.gs.drop k) ∧ plG u.gs 0 [] = plG (u.gs.drop k) k l ∧ R16 w6 (w6.heap.size + 1 + 1) (w6.heap.size + 1) (.slice a1 u.gs.length c1) (.slice a2 u.hs.length c2) (.slice a3 u.fs.length c3) (.map (some vb)) (.map (some cb)) hd xs hv l wr) (fun i _ => mg - (intOf i).toNat)
    case atStart => exact ⟨0, [], [], _, [], rfl, Nat.zero_le _, rfl, rfl, rfl, hR0.out⟩
    case round =>
      clear hR0
      obtain ⟨k, hd, xs, hv, l, rfl, hk, hdl, hin, hpl, hR⟩ := hrel
      have hR1 := hid hR
      have IN := hid (And.intro hin hpl)
      have HDL := hid hdl
      clear hin hpl hR hdl
      by_cases hlt : k < mg
      · have hlt' : k < u.gs.length := by have := MG.out; omega
        obtain ⟨⟨t, y0, _⟩, y1, y2, y3, y4⟩ := hG.out k hlt'
        have hln1 := hln.out _ (List.getElem_mem hlt')
        have hfi := fitsU_glo SP.out.2.1 (List.getElem_mem hlt')
        have hwr := hid (hB6.out.trans (hR1.out.below.mono hB6.out.size))
        have d1 := hid (initH_drop hlt')
        have d2 := hid (plG_drop (i := k) (l := l) hlt')
        have x0 := cell_on y0 hwr.out
        have x1 := cell_on y1 hwr.out
        have x2 := cell_on y2 hwr.out
        have x3 := cell_on y3 hwr.out
        have x4 := cell_on y4 hwr.out
        have hka2 : ga = some ⟨gb, go, none⟩ := by rcases hga with q | q; (· omega); (· exact q)
        subst hka2
        generalize u.gs[k] = a at x1 x2 x3 x4 hln1 hfi d1 d2
        obtain ⟨at0, nm, ty, ln, wd⟩ := a
        simp only [] at x1 x2 x3 x4 hln1 hfi d1 d2
        obtain ⟨m, rfl⟩ : ∃ m : Nat, ln = (m : Int) := ⟨ln.toNat, by omega⟩
        clear hga y0 y1 y2 y3 y4
        have hR2 := hid (hR1.out.on (Below.refl _ _))
        obtain ⟨hva, hvc, hvs, -⟩ := own_shape2 hR1.out.held.row
        subst hvs
        have qn := hR1.out.fresh
        have QN := hid qn
        clear qn
        by_cases hm : 0 < m
        · have hm2 : (0 : Int) < (m : Int) := by omega
          have hmk := fun w9 => run_make_row' (P := Tryz.prog) 27 52 (.int .u32 0) 4 Tryz.underlying27 (by kernel_rfl) rfl .u32 .u32 m (by omega) (by omega) w9
          go_wp2_with fail
          clear hmk
          have Q82 := hid (show Bx ((((wr.alloc (.cells #[.int .i64 t, .string nm, .int .u8 ty, .int .u32 (m : Int), .int .u32 wd] 105)).alloc (.cells #[.int .u32 wd] 52)).alloc (.cells #[.string nm, .slice (some ⟨wr.heap.size + 1 + 1 + 1, 0, none⟩) m m] 82)).alloc (.cells (madeCells #[.int .u32 0] m) 52)) (wr.heap.size + 1 + 1) #[.string nm, .slice (some ⟨wr.heap.size + 1 + 1 + 1, 0, none⟩) m m] 82 by simpa using (Bx.new ((wr.alloc (.cells #[.int .i64 t, .string nm, .int .u8 ty, .int .u32 (m : Int), .int .u32 wd] 105)).alloc (.cells #[.int .u32 wd] 52)) #[.string nm, .slice (some ⟨wr.heap.size + 1 + 1 + 1, 0, none⟩) m m] 82).al (.cells (madeCells #[.int .u32 0] m) 52))
          have Q105 := hid (show Bx ((((wr.alloc (.cells #[.int .i64 t, .string nm, .int .u8 ty, .int .u32 (m : Int), .int .u32 wd] 105)).alloc (.cells #[.int .u32 wd] 52)).alloc (.cells #[.string nm, .slice (some ⟨wr.heap.size + 1 + 1 + 1, 0, none⟩) m m] 82)).alloc (.cells (madeCells #[.int .u32 0] m) 52)) wr.heap.size #[.int .i64 t, .string nm, .int .u8 ty, .int .u32 (m : Int), .int .u32 wd] 105 from (((Bx.new wr #[.int .i64 t, .string nm, .int .u8 ty, .int .u32 (m : Int), .int .u32 wd] 105).al _).al _).al _)
          have QX := hid (show Bx ((((wr.alloc (.cells #[.int .i64 t, .string nm, .int .u8 ty, .int .u32 (m : Int), .int .u32 wd] 105)).alloc (.cells #[.int .u32 wd] 52)).alloc (.cells #[.string nm, .slice (some ⟨wr.heap.size + 1 + 1 + 1, 0, none⟩) m m] 82)).alloc (.cells (madeCells #[.int .u32 0] m) 52)) (wr.heap.size + 1 + 1 + 1) (madeCells #[.int .u32 0] m) 52 by simpa using Bx.new (((wr.alloc (.cells #[.int .i64 t, .string nm, .int .u8 ty, .int .u32 (m : Int), .int .u32 wd] 105)).alloc (.cells #[.int .u32 wd] 52)).alloc (.cells #[.string nm, .slice (some ⟨wr.heap.size + 1 + 1 + 1, 0, none⟩) m m] 82)) (madeCells #[.int .u32 0] m) 52)
          have TE := hid (show Below wr.heap.size wr ((((wr.alloc (.cells #[.int .i64 t, .string nm, .int .u8 ty, .int .u32 (m : Int), .int .u32 wd] 105)).alloc (.cells #[.int .u32 wd] 52)).alloc (.cells #[.string nm, .slice (some ⟨wr.heap.size + 1 + 1 + 1, 0, none⟩) m m] 82)).alloc (.cells (madeCells #[.int .u32 0] m) 52)) by (repeat (first | exact Below.refl _ _ | refine Below.drew ?_ | refine Below.alloc ?_ (by simp <;> omega) _)))
          generalize ((((wr.alloc (.cells #[.int .i64 t, .string nm, .int .u8 ty, .int .u32 (m : Int), .int .u32 wd] 105)).alloc (.cells #[.int .u32 wd] 52)).alloc (.cells #[.string nm, .slice (some ⟨wr.heap.size + 1 + 1 + 1, 0, none⟩) m m] 82)).alloc (.cells (madeCells #[.int .u32 0] m) 52)) = W at Q82 Q105 QX TE ⊢
          have RW := hid ((hR1.out.on TE.out).on (Below.refl _ _).drew)
          have hwx := hR1.out.below.size
          have OX := hid (show W.drew.ownsRow (w6.heap.size + 1 + 1 + 1) 52 1 (.slice (some ⟨wr.heap.size + 1 + 1 + 1, 0, none⟩) m m) (List.replicate m 0 : List Int).length ((List.replicate m 0 : List Int).map (Value.int .u32)) from by have h9 := World.ownsRow.drew (own_box (n := m) QX.out (show w6.heap.size + 1 + 1 + 1 ≤ wr.heap.size + 1 + 1 + 1 by omega) (size_madeCells _ _) (by omega)); rw [toList_madeCells_one] at h9; simpa using h9)
          have Q82D := hid (Q82.out.on (grownBy_drew W none) (by simp))
          have Q105D := hid (Q105.out.on (grownBy_drew W none) (by simp))
          have TD := hid TE.out.drew
          clear Q82 Q105 QX hwx
          refine wp_region_held_drew (S := (fun w9 => Bx w9 (wr.heap.size + 1 + 1) #[.string nm, .slice (some ⟨wr.heap.size + 1 + 1 + 1, 0, none⟩) m m] 82)) (by kernel_rfl) Q82D.out (fun hHeld => ?_)
          generalize W.drew = Wd at *
          clear TE
          refine tk 0 ?_
          refine tk 1 ?_
          refine tk 2 ?_
          refine tk 3 ?_
          refine tk 5 ?_ (hy := by intro w' hSw; have q1 := hSw.cell 0; have q2 := hSw.cell 1; simp at q1 q2; go_simp; (try with_reducible rfl))
          have r5 := RW.out.box.cell 5
          have r5b := (RW.out.box.al (.cells #[.string nm, .slice (some ⟨wr.heap.size + 1 + 1 + 1, 0, none⟩) m m] 82)).cell 5
          simp at r5 r5b
          refine wpAnyH_ready (rs := [4, 6]) (by kernel_rfl) (by simp) ?_
          refine AllReadyH.cons (by simp only [List.getElem?_toArray, List.getElem?_cons_succ, List.getElem?_cons_zero]; rfl) (fun K hK => ?_) (AllReadyH.cons (by simp only [List.getElem?_toArray, List.getElem?_cons_succ, List.getElem?_cons_zero]; rfl) (fun K hK => ?_) AllReadyH.nil)
          · go_simp
            refine hK.out _ _ Q82D.out (fun hHeld => ?_)
            clear hK K
            try simp only [tpa, tpb, tpc, tpd, tpe]
            refine tr 6 fun K hK => ?_
            go_simp
            refine hK.out _ _ (Q82D.out.al _) (fun hHeld => ?_)
            clear hK K
            try simp only [tpa, tpb, tpc, tpd, tpe]
            refine tr 7 fun K hK => ?_
            refine step_append_str rfl _ _ 61 rfl (w6.heap.size + 1 + 1 + 1) 82 82 (.agg #[.string ⟨#[]⟩, .slice none 0 0]) 2 40 1 Tryz.underlying61 (by kernel_rfl) rfl (by decide) (.slice hva hd.length hvc) hd.length (hcells hd xs) [.string nm, .slice (some ⟨wr.heap.size + 1 + 1 + 1, 0, none⟩) m m] (0, 0) RW.out.held.row rfl (by simp [Value.oneCell']) (by have := HDL.out; unfold maxLen; omega) (by have := HDL.out; omega) (by have := RW.out.box.lt; omega) rfl rfl ?_
            intro v' w3 hA
            have RA := hid (RW.out.add OX.out (by simp <;> omega) (fun y hy e => by have h1 := QN.out.1 y hy _ e; simp at h1; omega) hA)
            obtain ⟨na, nc, rfl, -⟩ := own_shape2 hA.own
            have hq1 : some (wr.heap.size + 1 + 1) ≠ (Value.slice hva hd.length hvc).ownBlock := fun e => by have h1 := QN.out.2 _ e.symm; omega
            have Q82E := hid (Q82D.out.on hA.grown hq1)
            have Q105E := hid (Q105D.out.on hA.grown (fun e => by have h1 := QN.out.2 _ e.symm; omega))
            have bX := RW.out.box.on hA.grown (RW.out.box.not_row RW.out.held.row (by decide))
            have z5 := bX.cell 5
            have f5 := bX.free 5
            simp at z5
            have hXl : w6.heap.size + 1 + 1 < wr.heap.size := hR1.out.box.lt
            clear bX hA hq1
            refine hK.out _ _ Q82E.out (fun hHeld => ?_)
            clear hK K
            try simp only [tpa, tpb, tpc, tpd, tpe]
            refine tk 8 ?_
            refine tk 9 ?_
            refine tr 10 fun K hK => ?_
            go_simp
            have Q82F := Q82E.out.on (grown_setCell w3 ⟨w6.heap.size + 1 + 1, 5, none⟩ (.slice na (hd.length + 1) nc)) (by simp; omega)
            have Q105F := hid (Q105E.out.on (grown_setCell w3 ⟨w6.heap.size + 1 + 1, 5, none⟩ (.slice na (hd.length + 1) nc)) (by simp; omega))
            refine hK.out _ _ Q82F (fun hHeld => ?_)
            clear hK K Q82F hHeld
            try simp only [tpa, tpb, tpc, tpd, tpe]
            refine td ?_
            generalize (w3.setCell ⟨w6.heap.size + 1 + 1, 5, none⟩ (.slice na (hd.length + 1) nc)) = w5 at RA Q105F ⊢
            clear r5 r5b z5 f5
            have RB := hid (RA.out.on (Below.refl _ _).drew)
            obtain ⟨w4, hrun, hg4, hsz4, hmp⟩ := RB.out.place.update under92 under9 nm (.int .i64 k)
            have RC := hid (RB.out.put hg4 hmp)
            clear hg4 hsz4 hmp
            have z6 := RB.out.box.cell 6
            have z1 := (Q105F.out.on (grownBy_drew w5 none) (by simp)).cell 1
            simp at z6 z1
            go_wp2_with fail
            go_region
            go_wp2_with fail
            have hin := hid (show initH u.gs = (hd ++ [(nm, List.replicate m 0)]) ++ initH (u.gs.drop (k + 1)) by rw [IN.out.1, d1.out]; simp [initG, hm])
            exact ⟨⟨k + 1, _, _, _, _, by go_num, by omega, by simp [HDL.out], hin.out, by rw [IN.out.2, d2.out], RC.out⟩, by simp only [intOf]; omega⟩
          · go_simp
            refine hK.out _ _ (Q82D.out.al _) (fun hHeld => ?_)
            clear hK K
            try simp only [tpa, tpb, tpc, tpd, tpe]
            refine tr 4 fun K hK => ?_
            go_simp
            refine hK.out _ _ (Q82D.out.al _) (fun hHeld => ?_)
            clear hK K
            try simp only [tpa, tpb, tpc, tpd, tpe]
            refine tr 7 fun K hK => ?_
            refine step_append_str rfl _ _ 61 rfl (w6.heap.size + 1 + 1 + 1) 82 82 (.agg #[.string ⟨#[]⟩, .slice none 0 0]) 2 40 1 Tryz.underlying61 (by kernel_rfl) rfl (by decide) (.slice hva hd.length hvc) hd.length (hcells hd xs) [.string nm, .slice (some ⟨wr.heap.size + 1 + 1 + 1, 0, none⟩) m m] (0, 0) RW.out.held.row rfl (by simp [Value.oneCell']) (by have := HDL.out; unfold maxLen; omega) (by have := HDL.out; omega) (by have := RW.out.box.lt; omega) rfl rfl ?_
            intro v' w3 hA
            have RA := hid (RW.out.add OX.out (by simp <;> omega) (fun y hy e => by have h1 := QN.out.1 y hy _ e; simp at h1; omega) hA)
            obtain ⟨na, nc, rfl, -⟩ := own_shape2 hA.own
            have hq1 : some (wr.heap.size + 1 + 1) ≠ (Value.slice hva hd.length hvc).ownBlock := fun e => by have h1 := QN.out.2 _ e.symm; omega
            have Q82E := hid (Q82D.out.on hA.grown hq1)
            have Q105E := hid (Q105D.out.on hA.grown (fun e => by have h1 := QN.out.2 _ e.symm; omega))
            have bX := RW.out.box.on hA.grown (RW.out.box.not_row RW.out.held.row (by decide))
            have z5 := bX.cell 5
            have f5 := bX.free 5
            simp at z5
            have hXl : w6.heap.size + 1 + 1 < wr.heap.size := hR1.out.box.lt
            clear bX hA hq1
            refine hK.out _ _ Q82E.out (fun hHeld => ?_)
            clear hK K
            try simp only [tpa, tpb, tpc, tpd, tpe]
            refine tk 8 ?_
            refine tk 9 ?_
            refine tr 10 fun K hK => ?_
            go_simp
            have Q82F := Q82E.out.on (grown_setCell w3 ⟨w6.heap.size + 1 + 1, 5, none⟩ (.slice na (hd.length + 1) nc)) (by simp; omega)
            have Q105F := hid (Q105E.out.on (grown_setCell w3 ⟨w6.heap.size + 1 + 1, 5, none⟩ (.slice na (hd.length + 1) nc)) (by simp; omega))
            refine hK.out _ _ Q82F (fun hHeld => ?_)
            clear hK K Q82F hHeld
            try simp only [tpa, tpb, tpc, tpd, tpe]
            refine td ?_
            generalize (w3.setCell ⟨w6.heap.size + 1 + 1, 5, none⟩ (.slice na (hd.length + 1) nc)) = w5 at RA Q105F ⊢
            clear r5 r5b z5 f5
            have RB := hid (RA.out.on (Below.refl _ _).drew)
            obtain ⟨w4, hrun, hg4, hsz4, hmp⟩ := RB.out.place.update under92 under9 nm (.int .i64 k)
            have RC := hid (RB.out.put hg4 hmp)
            clear hg4 hsz4 hmp
            have z6 := RB.out.box.cell 6
            have z1 := (Q105F.out.on (grownBy_drew w5 none) (by simp)).cell 1
            simp at z6 z1
            go_wp2_with fail
            go_region
            go_wp2_with fail
            have hin := hid (show initH u.gs = (hd ++ [(nm, List.replicate m 0)]) ++ initH (u.gs.drop (k + 1)) by rw [IN.out.1, d1.out]; simp [initG, hm])
            exact ⟨⟨k + 1, _, _, _, _, by go_num, by omega, by simp [HDL.out], hin.out, by rw [IN.out.2, d2.out], RC.out⟩, by simp only [intOf]; omega⟩
        · have hm2 : ¬ (0 : Int) < (m : Int) := by omega
          go_wp2_with fail
          have Q82 := hid (show Bx (((wr.alloc (.cells #[.int .i64 t, .string nm, .int .u8 ty, .int .u32 (m : Int), .int .u32 wd] 105)).alloc (.cells #[.int .u32 wd] 52)).alloc (.cells #[.string nm, .slice (some ⟨wr.heap.size + 1, 0, none⟩) 1 1] 82)) (wr.heap.size + 1 + 1) #[.string nm, .slice (some ⟨wr.heap.size + 1, 0, none⟩) 1 1] 82 by simpa using Bx.new ((wr.alloc (.cells #[.int .i64 t, .string nm, .int .u8 ty, .int .u32 (m : Int), .int .u32 wd] 105)).alloc (.cells #[.int .u32 wd] 52)) #[.string nm, .slice (some ⟨wr.heap.size + 1, 0, none⟩) 1 1] 82)
          have Q105 := hid (show Bx (((wr.alloc (.cells #[.int .i64 t, .string nm, .int .u8 ty, .int .u32 (m : Int), .int .u32 wd] 105)).alloc (.cells #[.int .u32 wd] 52)).alloc (.cells #[.string nm, .slice (some ⟨wr.heap.size + 1, 0, none⟩) 1 1] 82)) wr.heap.size #[.int .i64 t, .string nm, .int .u8 ty, .int .u32 (m : Int), .int .u32 wd] 105 from ((Bx.new wr #[.int .i64 t, .string nm, .int .u8 ty, .int .u32 (m : Int), .int .u32 wd] 105).al _).al _)
          have QX := hid (show Bx (((wr.alloc (.cells #[.int .i64 t, .string nm, .int .u8 ty, .int .u32 (m : Int), .int .u32 wd] 105)).alloc (.cells #[.int .u32 wd] 52)).alloc (.cells #[.string nm, .slice (some ⟨wr.heap.size + 1, 0, none⟩) 1 1] 82)) (wr.heap.size + 1) (#[.int .u32 wd]) 52 by simpa using (Bx.new (wr.alloc (.cells #[.int .i64 t, .string nm, .int .u8 ty, .int .u32 (m : Int), .int .u32 wd] 105)) #[.int .u32 wd] 52).al (.cells #[.string nm, .slice (some ⟨wr.heap.size + 1, 0, none⟩) 1 1] 82))
          have TE := hid (show Below wr.heap.size wr (((wr.alloc (.cells #[.int .i64 t, .string nm, .int .u8 ty, .int .u32 (m : Int), .int .u32 wd] 105)).alloc (.cells #[.int .u32 wd] 52)).alloc (.cells #[.string nm, .slice (some ⟨wr.heap.size + 1, 0, none⟩) 1 1] 82)) by (repeat (first | exact Below.refl _ _ | refine Below.drew ?_ | refine Below.alloc ?_ (by simp <;> omega) _)))
          generalize (((wr.alloc (.cells #[.int .i64 t, .string nm, .int .u8 ty, .int .u32 (m : Int), .int .u32 wd] 105)).alloc (.cells #[.int .u32 wd] 52)).alloc (.cells #[.string nm, .slice (some ⟨wr.heap.size + 1, 0, none⟩) 1 1] 82)) = W at Q82 Q105 QX TE ⊢
          have RW := hid ((hR1.out.on TE.out).on (Below.refl _ _).drew)
          have hwx := hR1.out.below.size
          have OX := hid (show W.drew.ownsRow (w6.heap.size + 1 + 1 + 1) 52 1 (.slice (some ⟨wr.heap.size + 1, 0, none⟩) 1 1) ([wd] : List Int).length (([wd] : List Int).map (Value.int .u32)) from by have h9 := World.ownsRow.drew (own_box (n := 1) QX.out (show w6.heap.size + 1 + 1 + 1 ≤ wr.heap.size + 1 by have := hR1.out.box.lt; omega) rfl (by omega)); simpa using h9)
          have Q82D := hid (Q82.out.on (grownBy_drew W none) (by simp))
          have Q105D := hid (Q105.out.on (grownBy_drew W none) (by simp))
          have TD := hid TE.out.drew
          clear Q82 Q105 QX hwx
          refine wp_region_held_drew (S := (fun w9 => Bx w9 (wr.heap.size + 1 + 1) #[.string nm, .slice (some ⟨wr.heap.size + 1, 0, none⟩) 1 1] 82)) (by kernel_rfl) Q82D.out (fun hHeld => ?_)
          generalize W.drew = Wd at *
          clear TE
          refine tk 0 ?_
          refine tk 1 ?_
          refine tk 2 ?_
          refine tk 3 ?_
          refine tk 5 ?_ (hy := by intro w' hSw; have q1 := hSw.cell 0; have q2 := hSw.cell 1; simp at q1 q2; go_simp; (try with_reducible rfl))
          have r5 := RW.out.box.cell 5
          have r5b := (RW.out.box.al (.cells #[.string nm, .slice (some ⟨wr.heap.size + 1, 0, none⟩) 1 1] 82)).cell 5
          simp at r5 r5b
          refine wpAnyH_ready (rs := [4, 6]) (by kernel_rfl) (by simp) ?_
          refine AllReadyH.cons (by simp only [List.getElem?_toArray, List.getElem?_cons_succ, List.getElem?_cons_zero]; rfl) (fun K hK => ?_) (AllReadyH.cons (by simp only [List.getElem?_toArray, List.getElem?_cons_succ, List.getElem?_cons_zero]; rfl) (fun K hK => ?_) AllReadyH.nil)
          · go_simp
            refine hK.out _ _ Q82D.out (fun hHeld => ?_)
            clear hK K
            try simp only [tpa, tpb, tpc, tpd, tpe]
            refine tr 6 fun K hK => ?_
            go_simp
            refine hK.out _ _ (Q82D.out.al _) (fun hHeld => ?_)
            clear hK K
            try simp only [tpa, tpb, tpc, tpd, tpe]
            refine tr 7 fun K hK => ?_
            refine step_append_str rfl _ _ 61 rfl (w6.heap.size + 1 + 1 + 1) 82 82 (.agg #[.string ⟨#[]⟩, .slice none 0 0]) 2 40 1 Tryz.underlying61 (by kernel_rfl) rfl (by decide) (.slice hva hd.length hvc) hd.length (hcells hd xs) [.string nm, .slice (some ⟨wr.heap.size + 1, 0, none⟩) 1 1] (0, 0) RW.out.held.row rfl (by simp [Value.oneCell']) (by have := HDL.out; unfold maxLen; omega) (by have := HDL.out; omega) (by have := RW.out.box.lt; omega) rfl rfl ?_
            intro v' w3 hA
            have RA := hid (RW.out.add OX.out (by simp <;> omega) (fun y hy e => by have h1 := QN.out.1 y hy _ e; simp at h1; omega) hA)
            obtain ⟨na, nc, rfl, -⟩ := own_shape2 hA.own
            have hq1 : some (wr.heap.size + 1 + 1) ≠ (Value.slice hva hd.length hvc).ownBlock := fun e => by have h1 := QN.out.2 _ e.symm; omega
            have Q82E := hid (Q82D.out.on hA.grown hq1)
            have Q105E := hid (Q105D.out.on hA.grown (fun e => by have h1 := QN.out.2 _ e.symm; omega))
            have bX := RW.out.box.on hA.grown (RW.out.box.not_row RW.out.held.row (by decide))
            have z5 := bX.cell 5
            have f5 := bX.free 5
            simp at z5
            have hXl : w6.heap.size + 1 + 1 < wr.heap.size := hR1.out.box.lt
            clear bX hA hq1
            refine hK.out _ _ Q82E.out (fun hHeld => ?_)
            clear hK K
            try simp only [tpa, tpb, tpc, tpd, tpe]
            refine tk 8 ?_
            refine tk 9 ?_
            refine tr 10 fun K hK => ?_
            go_simp
            have Q82F := Q82E.out.on (grown_setCell w3 ⟨w6.heap.size + 1 + 1, 5, none⟩ (.slice na (hd.length + 1) nc)) (by simp; omega)
            have Q105F := hid (Q105E.out.on (grown_setCell w3 ⟨w6.heap.size + 1 + 1, 5, none⟩ (.slice na (hd.length + 1) nc)) (by simp; omega))
            refine hK.out _ _ Q82F (fun hHeld => ?_)
            clear hK K Q82F hHeld
            try simp only [tpa, tpb, tpc, tpd, tpe]
            refine td ?_
            generalize (w3.setCell ⟨w6.heap.size + 1 + 1, 5, none⟩ (.slice na (hd.length + 1) nc)) = w5 at RA Q105F ⊢
            clear r5 r5b z5 f5
            have RB := hid (RA.out.on (Below.refl _ _).drew)
            obtain ⟨w4, hrun, hg4, hsz4, hmp⟩ := RB.out.place.update under92 under9 nm (.int .i64 k)
            have RC := hid (RB.out.put hg4 hmp)
            clear hg4 hsz4 hmp
            have z6 := RB.out.box.cell 6
            have z1 := (Q105F.out.on (grownBy_drew w5 none) (by simp)).cell 1
            simp at z6 z1
            go_wp2_with fail
            go_region
            go_wp2_with fail
            have hin := hid (show initH u.gs = (hd ++ [(nm, [wd])]) ++ initH (u.gs.drop (k + 1)) by rw [IN.out.1, d1.out]; simp [initG, hm])
            exact ⟨⟨k + 1, _, _, _, _, by go_num, by omega, by simp [HDL.out], hin.out, by rw [IN.out.2, d2.out], RC.out⟩, by simp only [intOf]; omega⟩
          · go_simp
            refine hK.out _ _ (Q82D.out.al _) (fun hHeld => ?_)
            clear hK K
            try simp only [tpa, tpb, tpc, tpd, tpe]
            refine tr 4 fun K hK => ?_
            go_simp
            refine hK.out _ _ (Q82D.out.al _) (fun hHeld => ?_)
            clear hK K
            try simp only [tpa, tpb, tpc, tpd, tpe]
            refine tr 7 fun K hK => ?_
            refine step_append_str rfl _ _ 61 rfl (w6.heap.size + 1 + 1 + 1) 82 82 (.agg #[.string ⟨#[]⟩, .slice none 0 0]) 2 40 1 Tryz.underlying61 (by kernel_rfl) rfl (by decide) (.slice hva hd.length hvc) hd.length (hcells hd xs) [.string nm, .slice (some ⟨wr.heap.size + 1, 0, none⟩) 1 1] (0, 0) RW.out.held.row rfl (by simp [Value.oneCell']) (by have := HDL.out; unfold maxLen; omega) (by have := HDL.out; omega) (by have := RW.out.box.lt; omega) rfl rfl ?_
            intro v' w3 hA
            have RA := hid (RW.out.add OX.out (by simp <;> omega) (fun y hy e => by have h1 := QN.out.1 y hy _ e; simp at h1; omega) hA)
            obtain ⟨na, nc, rfl, -⟩ := own_shape2 hA.own
            have hq1 : some (wr.heap.size + 1 + 1) ≠ (Value.slice hva hd.length hvc).ownBlock := fun e => by have h1 := QN.out.2 _ e.symm; omega
            have Q82E := hid (Q82D.out.on hA.grown hq1)
            have Q105E := hid (Q105D.out.on hA.grown (fun e => by have h1 := QN.out.2 _ e.symm; omega))
            have bX := RW.out.box.on hA.grown (RW.out.box.not_row RW.out.held.row (by decide))
            have z5 := bX.cell 5
            have f5 := bX.free 5
            simp at z5
            have hXl : w6.heap.size + 1 + 1 < wr.heap.size := hR1.out.box.lt
            clear bX hA hq1
            refine hK.out _ _ Q82E.out (fun hHeld => ?_)
            clear hK K
            try simp only [tpa, tpb, tpc, tpd, tpe]
            refine tk 8 ?_
            refine tk 9 ?_
            refine tr 10 fun K hK => ?_
            go_simp
            have Q82F := Q82E.out.on (grown_setCell w3 ⟨w6.heap.size + 1 + 1, 5, none⟩ (.slice na (hd.length + 1) nc)) (by simp; omega)
            have Q105F := hid (Q105E.out.on (grown_setCell w3 ⟨w6.heap.size + 1 + 1, 5, none⟩ (.slice na (hd.length + 1) nc)) (by simp; omega))
            refine hK.out _ _ Q82F (fun hHeld => ?_)
            clear hK K Q82F hHeld
            try simp only [tpa, tpb, tpc, tpd, tpe]
            refine td ?_
            generalize (w3.setCell ⟨w6.heap.size + 1 + 1, 5, none⟩ (.slice na (hd.length + 1) nc)) = w5 at RA Q105F ⊢
            clear r5 r5b z5 f5
            have RB := hid (RA.out.on (Below.refl _ _).drew)
            obtain ⟨w4, hrun, hg4, hsz4, hmp⟩ := RB.out.place.update under92 under9 nm (.int .i64 k)
            have RC := hid (RB.out.put hg4 hmp)
            clear hg4 hsz4 hmp
            have z6 := RB.out.box.cell 6
            have z1 := (Q105F.out.on (grownBy_drew w5 none) (by simp)).cell 1
            simp at z6 z1
            go_wp2_with fail
            go_region
            go_wp2_with fail
            have hin := hid (show initH u.gs = (hd ++ [(nm, [wd])]) ++ initH (u.gs.drop (k + 1)) by rw [IN.out.1, d1.out]; simp [initG, hm])
            exact ⟨⟨k + 1, _, _, _, _, by go_num, by omega, by simp [HDL.out], hin.out, by rw [IN.out.2, d2.out], RC.out⟩, by simp only [intOf]; omega⟩
      · obtain rfl : mg = k := by omega
        go_wp2_with fail
        go_ret2
        have h1 := IN.out.1
        have h2 := IN.out.2
        rw [MG.out, List.drop_length] at h1 h2
        simp only [initH, List.map_nil, List.append_nil] at h1
        have hb := hB6.out.size
        refine ⟨hB6.out.trans (hR1.out.below.mono hb), .inr ⟨HCK.out.symm, w6.heap.size + 1 + 1 + 1, vs, cs, w6.heap.size + 1 + 1, vb, cb, w6.heap.size + 1, .slice a1 u.gs.length c1, .slice a2 u.hs.length c2, .slice a3 u.fs.length c3, hv, xs, rfl, SP.out.1, by omega, by omega, ?_⟩⟩
        have hl : plG u.gs 0 [] = l := h2
        have hi : initH u.gs = hd := h1
        rw [hl, hi]
        refine ⟨hR1.out.box, hU6.out.sub (fun a v hc => ?_), NM.out.only hR1.out.below (by omega), hR1.out.held, hR1.out.place, hR1.out.box.lt, by have := NM.out.vars.lt; omega, by obtain ⟨l9, h9, -⟩ := NM.out.calls; have := h9.lt; omega, by omega, by have := hR1.out.box.lt; omega⟩
        rw [cell_only, if_pos (by have := World.block_lt_of_cell? _ _ hc; simp; omega)]
        exact cell_on hc hR1.out.below
  · have hc1 : (ck == 0) = false := by simpa using hc0
    go_wp2_with fail
    go_region
    go_wp2_with fail
    go_ret2
    have hck := HCK.out
    subst hck
    exact P16.no hc0 hB3.out.drew
end
section
theorem call179 (n : Int) (w : World) : (callFunc 179 #[.int .u32 n]).run Tryz.prog w = .ok (.value (.float .f32 n.toNat)) w := by
 rw [run_callFunc_extern (e := Extern.MathFloatBits.float32frombits) Tryz.func179 (by kernel_rfl) (by kernel_rfl) (by kernel_rfl) (by kernel_rfl)]
 rfl
theorem call178 (b : Nat) (w : World) : (callFunc 178 #[.float .f32 b]).run Tryz.prog w = .ok (.value (.int .u32 b)) w := by
 rw [run_callFunc_extern (e := Extern.MathFloatBits.float32bits) Tryz.func178 (by kernel_rfl) (by kernel_rfl) (by kernel_rfl) (by kernel_rfl)]
 rfl
theorem number148 (a : Int) (w : World) : Calls Tryz.prog 148 #[.int .u32 a] w fun e w' => e = .returned (.float .f32 a.toNat) ∧ w' = w := by
 have h1 := call179
 go_enter Tryz.func148, Tryz.ntmps148
 go_wp2_with fail
 go_ret
 exact ⟨rfl, rfl⟩
def wordN (r : Nat) : Int := if (FloatKind.f32.format.order r r != some .eq) = true then 2143289344 else r
theorem word147 (a : Nat) (w : World) : Calls Tryz.prog 147 #[.float .f32 a] w fun e w' => e = .returned (.int .u32 (wordN a)) ∧ w' = w := by
 have h1 := call178
 cases h : (FloatKind.f32.format.order a a != some .eq) with
 | true =>
  have hh := hid (show wordN a = 2143289344 by unfold wordN; rw [h]; rfl)
  go_enter Tryz.func147, Tryz.ntmps147
  go_wp2_with fail
  go_ret
  rw [hh.out]
  exact ⟨rfl, rfl⟩
 | false =>
  have hh := hid (show wordN a = a by unfold wordN; rw [h]; rfl)
  go_enter Tryz.func147, Tryz.ntmps147
  go_wp2_with fail
  go_ret
  rw [hh.out]
  exact ⟨rfl, rfl⟩
def floatV (o : Option Nat) : Int := match o with
 | some r => wordN r
 | none => 2143289344
theorem read_nan (b : Nat) (h : 2139095040 < b % 2147483648) : FloatKind.f32.format.order b b = none := by
 show Ieee.Datum.order (Ieee.Format.read Ieee.single b) (Ieee.Format.read Ieee.single b) = none
 have e : Ieee.Format.read Ieee.single b = .nan (b / 2147483648 % 2 == 1) (b % 2147483648 - 2139095040) := by
  unfold Ieee.Format.read
  have h1 : Ieee.Format.signWeight Ieee.single = 2147483648 := by decide
  have h2 : Ieee.Format.binade Ieee.single = 8388608 := by decide
  have h3 : Ieee.Format.infRung Ieee.single = 2139095040 := by decide
  rw [h1, h2, h3]
  simp only []
  rw [if_neg (by omega), if_neg (by omega), if_neg (by omega)]
 rw [e]
 rfl
theorem cut_nan (x y t : Nat) : wordN ((Question.nanBits FloatKind.f32 x y).cut t) = 2143289344 := by
 have h : FloatKind.f32.format.order ((Question.nanBits FloatKind.f32 x y).cut t) ((Question.nanBits FloatKind.f32 x y).cut t) = none := by
  apply read_nan
  show 2139095040 < (t % 2 * 2147483648 + 2139095040 + 1 + t / 2 % 8388607) % 2147483648
  have h1 : t % 2 < 2 := Nat.mod_lt _ (by omega)
  have h2 : t / 2 % 8388607 < 8388607 := Nat.mod_lt _ (by omega)
  generalize t % 2 = p at h1 ⊢
  generalize t / 2 % 8388607 = q at h2 ⊢
  omega
 unfold wordN
 rw [h]
 rfl
theorem none_run (x y : Nat) (w : World) : ∃ b w', (Value.float FloatKind.f32 <$> choose (Question.nanBits FloatKind.f32 x y)).run Tryz.prog w = .ok (.float .f32 b) w' ∧ wordN b = 2143289344 ∧ Below w.heap.size w w' := by
 refine ⟨(Question.nanBits FloatKind.f32 x y).cut (w.tape w.drawn (Question.nanBits FloatKind.f32 x y)), w.drew, ?_, cut_nan _ _ _, (Below.refl _ _).drew⟩
 have hf : (Question.nanBits FloatKind.f32 x y).forced = false := rfl
 simp [hf]
theorem arith_run (op : BinOp) (x y : Nat) (w : World) (o : Option Nat) (h : floatBits op .f32 x y = o) (hop : op = .add ∨ op = .sub ∨ op = .mul ∨ op = .quo) :
  ∃ b w', (binOp op 248 (.float .f32 x) (.float .f32 y)).run Tryz.prog w = .ok (.float .f32 b) w' ∧ wordN b = floatV o ∧ Below w.heap.size w w' := by
 rcases hop with rfl | rfl | rfl | rfl
 all_goals cases o with
 | some r =>
  refine ⟨r, w, ?_, rfl, Below.refl _ _⟩
  simp [binOp, run_floatArith w h]
 | none =>
  unfold floatBits at h
  simp only [] at h
  obtain ⟨b, w', h1, h2, h3⟩ := none_run x y w
  refine ⟨b, w', ?_, h2, h3⟩
  simp only [binOp, Op.floatArith, pure_bind, h]
  first | exact h1 | simpa using h1
end
section
theorem sum212 (a b : Int) (w : World) : Calls Tryz.prog 212 #[.int .u32 a, .int .u32 b] w fun e w' => e = .returned (.int .u32 (floatV (FloatKind.f32.format.add a.toNat b.toNat))) ∧ Below w.heap.size w w' := by
 have c1 := hid (number148 a w)
 have c2 := hid (number148 b w)
 obtain ⟨x, w1, hrun, hx, hb⟩ := arith_run .add a.toNat b.toNat w (FloatKind.f32.format.add a.toNat b.toNat) rfl (by simp)
 have HX := hid (And.intro hx hb)
 have c3 := hid (word147 x w1)
 clear hx hb
 go_enter Tryz.func212, Tryz.ntmps212
 go_wp2_with fail
 refine c1.out.mono ?_
 rintro e w2 ⟨rfl, hw⟩
 subst w2
 clear c1
 go_wp2_with fail
 refine c2.out.mono ?_
 rintro e w2 ⟨rfl, hw⟩
 subst w2
 clear c2
 go_wp2_with fail
 refine c3.out.mono ?_
 rintro e w2 ⟨rfl, hw⟩
 subst w2
 clear c3
 go_wp2_with fail
 go_ret
 rw [HX.out.1]
 exact ⟨rfl, HX.out.2⟩
theorem rest213 (a b : Int) (w : World) : Calls Tryz.prog 213 #[.int .u32 a, .int .u32 b] w fun e w' => e = .returned (.int .u32 (floatV (FloatKind.f32.format.sub a.toNat b.toNat))) ∧ Below w.heap.size w w' := by
 have c1 := hid (number148 a w)
 have c2 := hid (number148 b w)
 obtain ⟨x, w1, hrun, hx, hb⟩ := arith_run .sub a.toNat b.toNat w (FloatKind.f32.format.sub a.toNat b.toNat) rfl (by simp)
 have HX := hid (And.intro hx hb)
 have c3 := hid (word147 x w1)
 clear hx hb
 go_enter Tryz.func213, Tryz.ntmps213
 go_wp2_with fail
 refine c1.out.mono ?_
 rintro e w2 ⟨rfl, hw⟩
 subst w2
 clear c1
 go_wp2_with fail
 refine c2.out.mono ?_
 rintro e w2 ⟨rfl, hw⟩
 subst w2
 clear c2
 go_wp2_with fail
 refine c3.out.mono ?_
 rintro e w2 ⟨rfl, hw⟩
 subst w2
 clear c3
 go_wp2_with fail
 go_ret
 rw [HX.out.1]
 exact ⟨rfl, HX.out.2⟩
theorem product214 (a b : Int) (w : World) : Calls Tryz.prog 214 #[.int .u32 a, .int .u32 b] w fun e w' => e = .returned (.int .u32 (floatV (FloatKind.f32.format.mul a.toNat b.toNat))) ∧ Below w.heap.size w w' := by
 have c1 := hid (number148 a w)
 have c2 := hid (number148 b w)
 obtain ⟨x, w1, hrun, hx, hb⟩ := arith_run .mul a.toNat b.toNat w (FloatKind.f32.format.mul a.toNat b.toNat) rfl (by simp)
 have HX := hid (And.intro hx hb)
 have c3 := hid (word147 x w1)
 clear hx hb
 go_enter Tryz.func214, Tryz.ntmps214
 go_wp2_with fail
 refine c1.out.mono ?_
 rintro e w2 ⟨rfl, hw⟩
 subst w2
 clear c1
 go_wp2_with fail
 refine c2.out.mono ?_
 rintro e w2 ⟨rfl, hw⟩
 subst w2
 clear c2
 go_wp2_with fail
 refine c3.out.mono ?_
 rintro e w2 ⟨rfl, hw⟩
 subst w2
 clear c3
 go_wp2_with fail
 go_ret
 rw [HX.out.1]
 exact ⟨rfl, HX.out.2⟩
theorem ratio215 (a b : Int) (w : World) : Calls Tryz.prog 215 #[.int .u32 a, .int .u32 b] w fun e w' => e = .returned (.int .u32 (floatV (FloatKind.f32.format.div a.toNat b.toNat))) ∧ Below w.heap.size w w' := by
 have c1 := hid (number148 a w)
 have c2 := hid (number148 b w)
 obtain ⟨x, w1, hrun, hx, hb⟩ := arith_run .quo a.toNat b.toNat w (FloatKind.f32.format.div a.toNat b.toNat) rfl (by simp)
 have HX := hid (And.intro hx hb)
 have c3 := hid (word147 x w1)
 clear hx hb
 go_enter Tryz.func215, Tryz.ntmps215
 go_wp2_with fail
 refine c1.out.mono ?_
 rintro e w2 ⟨rfl, hw⟩
 subst w2
 clear c1
 go_wp2_with fail
 refine c2.out.mono ?_
 rintro e w2 ⟨rfl, hw⟩
 subst w2
 clear c2
 go_wp2_with fail
 refine c3.out.mono ?_
 rintro e w2 ⟨rfl, hw⟩
 subst w2
 clear c3
 go_wp2_with fail
 go_ret
 rw [HX.out.1]
 exact ⟨rfl, HX.out.2⟩
def standV (a b : Int) : Int := match FloatKind.f32.format.order a.toNat b.toNat with
 | some .lt => 2
 | some .gt => 4
 | some .eq => 3
 | none => 1
theorem stand175 (a b : Int) (w : World) : Calls Tryz.prog 175 #[.int .u32 a, .int .u32 b] w fun e w' => e = .returned (.int .u8 (standV a b)) ∧ w' = w := by
 have c1 := hid (number148 a w)
 have c2 := hid (number148 b w)
 match ho : FloatKind.f32.format.order a.toNat b.toNat with
 | none =>
  have hh := hid (show standV a b = 1 by unfold standV; rw [ho])
  have t1 : (FloatKind.f32.format.order a.toNat b.toNat == some .lt) = false := by rw [ho]; rfl
  have t2 : (FloatKind.f32.format.order a.toNat b.toNat == some .gt) = false := by rw [ho]; rfl
  have t3 : (FloatKind.f32.format.order a.toNat b.toNat == some .eq) = false := by rw [ho]; rfl
  clear ho
  go_enter Tryz.func175, Tryz.ntmps175
  go_wp2_with fail
  refine c1.out.mono ?_
  rintro e w2 ⟨rfl, hw⟩
  subst w2
  clear c1
  go_wp2_with fail
  refine c2.out.mono ?_
  rintro e w2 ⟨rfl, hw⟩
  subst w2
  clear c2
  go_wp2_with fail
  go_ret
  rw [hh.out]
  exact ⟨rfl, rfl⟩
 | some .lt =>
  have hh := hid (show standV a b = 2 by unfold standV; rw [ho])
  have t1 : (FloatKind.f32.format.order a.toNat b.toNat == some .lt) = true := by rw [ho]; rfl
  have t2 : (FloatKind.f32.format.order a.toNat b.toNat == some .gt) = false := by rw [ho]; rfl
  have t3 : (FloatKind.f32.format.order a.toNat b.toNat == some .eq) = false := by rw [ho]; rfl
  clear ho
  go_enter Tryz.func175, Tryz.ntmps175
  go_wp2_with fail
  refine c1.out.mono ?_
  rintro e w2 ⟨rfl, hw⟩
  subst w2
  clear c1
  go_wp2_with fail
  refine c2.out.mono ?_
  rintro e w2 ⟨rfl, hw⟩
  subst w2
  clear c2
  go_wp2_with fail
  go_ret
  rw [hh.out]
  exact ⟨rfl, rfl⟩
 | some .gt =>
  have hh := hid (show standV a b = 4 by unfold standV; rw [ho])
  have t1 : (FloatKind.f32.format.order a.toNat b.toNat == some .lt) = false := by rw [ho]; rfl
  have t2 : (FloatKind.f32.format.order a.toNat b.toNat == some .gt) = true := by rw [ho]; rfl
  have t3 : (FloatKind.f32.format.order a.toNat b.toNat == some .eq) = false := by rw [ho]; rfl
  clear ho
  go_enter Tryz.func175, Tryz.ntmps175
  go_wp2_with fail
  refine c1.out.mono ?_
  rintro e w2 ⟨rfl, hw⟩
  subst w2
  clear c1
  go_wp2_with fail
  refine c2.out.mono ?_
  rintro e w2 ⟨rfl, hw⟩
  subst w2
  clear c2
  go_wp2_with fail
  go_ret
  rw [hh.out]
  exact ⟨rfl, rfl⟩
 | some .eq =>
  have hh := hid (show standV a b = 3 by unfold standV; rw [ho])
  have t1 : (FloatKind.f32.format.order a.toNat b.toNat == some .lt) = false := by rw [ho]; rfl
  have t2 : (FloatKind.f32.format.order a.toNat b.toNat == some .gt) = false := by rw [ho]; rfl
  have t3 : (FloatKind.f32.format.order a.toNat b.toNat == some .eq) = true := by rw [ho]; rfl
  clear ho
  go_enter Tryz.func175, Tryz.ntmps175
  go_wp2_with fail
  refine c1.out.mono ?_
  rintro e w2 ⟨rfl, hw⟩
  subst w2
  clear c1
  go_wp2_with fail
  refine c2.out.mono ?_
  rintro e w2 ⟨rfl, hw⟩
  subst w2
  clear c2
  go_wp2_with fail
  go_ret
  rw [hh.out]
  exact ⟨rfl, rfl⟩
end
end Go.Proofs.YtlabadkfkbenoaaGreatDoor
