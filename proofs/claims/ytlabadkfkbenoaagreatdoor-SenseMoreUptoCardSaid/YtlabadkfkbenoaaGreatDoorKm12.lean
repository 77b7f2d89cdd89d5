/- Walks and plain laws, merged: SenW. No condition. -/
import Derived.Laws.ResultCell
import Derived.Test.YtlabadkfkbenoaaGreatDoorKm01
import Derived.Test.YtlabadkfkbenoaaGreatDoorKm11
namespace Go.Proofs.YtlabadkfkbenoaaGreatDoor
open Go.RowKit
set_option linter.unusedVariables false
set_option linter.unusedSimpArgs false
set_option maxRecDepth 100000
set_option maxHeartbeats 64000000
section
open Go.Shelf
theorem bth {a b c : World} (h : Below a.heap.size a b) (k : Below b.heap.size b c) : Below a.heap.size a c := h.trans (k.mono h.size)
theorem own_base2 {w : World} {B B' : Nat} {e : TypeId} {n m : Nat} {v : Value} {xs : List Value} (h : w.ownsRow B e n v m xs) (hb : B' ≤ B) : w.ownsRow B' e n v m xs := by
 obtain ⟨h1, h2⟩ := h
 refine ⟨h1, h2.imp id ?_⟩
 rintro ⟨g, cap, cur, a, b, c⟩
 exact ⟨g, cap, cur, a, Nat.le_trans hb b, c⟩
theorem G39.start {w w5 : World} {u : UT} {B : Nat} {box : Array Value} {vg vh vf : Value} {gcs hcs fcs : List (List Value)} (b1 : Bx w5 w.heap.size box 26) (b2 : Bx w5 (w.heap.size + 1) #[.slice none 0 0, .slice none 0 0, .slice none 0 0] 26) (b3 : Bx w5 B #[vg, vh, vf] 26)
    (og : w5.ownsRow (w.heap.size + 1 + 1) 105 5 vg u.gs.length gcs.flatten) (oh : w5.ownsRow (w.heap.size + 1 + 1) 101 5 vh u.hs.length hcs.flatten) (of : w5.ownsRow (w.heap.size + 1 + 1) 43 6 vf u.fs.length fcs.flatten)
    (GC : gcs.length = u.gs.length ∧ ∀ i (h : i < u.gs.length) (h' : i < gcs.length), gcs[i].length = 5 ∧ XcG u.gs[i] gcs[i])
    (HC : hcs.length = u.hs.length ∧ ∀ i (h : i < u.hs.length) (h' : i < hcs.length), hcs[i].length = 5 ∧ XcH w 0 w false u.hs[i] hcs[i])
    (FC : fcs.length = u.fs.length ∧ ∀ i (h : i < u.fs.length) (h' : i < fcs.length), fcs[i].length = 6 ∧ XcF w 0 w false false u.fs[i] fcs[i])
    (below : Below w.heap.size w w5) (lt : w.heap.size + 1 < B) (hs : w.heap.size + 1 + 1 ≤ w5.heap.size) : G39 w u w.heap.size w5.heap.size B box vg vh vf 0 0 0 w5 :=
  ⟨b1, b2, b3, ⟨hcs, HC.1, fun i h h' => ⟨(HC.2 i h h').1, by obtain ⟨t, v, hc, hv⟩ := (HC.2 i h h').2; exact ⟨t, v, hc, by simpa using hv⟩⟩, oh⟩,
   ⟨fcs, FC.1, fun i h h' => ⟨(FC.2 i h h').1, by obtain ⟨t, v, x, hc, hv, hx⟩ := (FC.2 i h h').2; exact ⟨t, v, x, hc, by simpa using hv, by simpa using hx⟩⟩, of⟩,
   ⟨gcs, GC.1, fun i h h' => GC.2 i h h', og⟩, below, lt, fun g hg => (oh.lt g hg).2, fun g hg => (of.lt g hg).2, hs, Nat.le_refl _, rfl⟩
theorem once8 {G : Prop} (F : Option Addr → Nat → Option Addr → Nat → Option Addr → Nat → Nat → World → Prop) {X : Option Addr → Nat → Option Addr → Nat → Option Addr → Nat → Nat → World → Prop} (h1 : (∀ a b c d e f B w, F a b c d e f B w → X a b c d e f B w) → G) (h2 : ∀ a b c d e f B w, F a b c d e f B w → X a b c d e f B w) : G := h1 h2
theorem copied39 (u : UT) (v : Value) (w : World) (ok : u.Ok) (hv : UIn w false none u v) :
  Calls Tryz.prog 39 #[v] w fun e w' => ∃ v', e = .returned v' ∧ UIn (onlyW w' (newB w.heap.size)) false none u v' ∧ Below w.heap.size w w' := by
 have hV := hid hv
 have OK := hid ok
 obtain ⟨vg, vh, vf, rfl, hg, hh, hf⟩ := hv
 obtain ⟨ga, gc, rfl⟩ := hg.shape
 obtain ⟨ha, hc, rfl⟩ := hh.shape
 obtain ⟨fa, fc, rfl⟩ := hf.shape
 obtain ⟨gcs, g1, g2, g3, -, g5, g6⟩ := SlR.cells (by omega) hg XcG (fun a b q h => h.xells)
 obtain ⟨hcs, h1, h2, h3, -, h5, h6⟩ := SlR.cells (by omega) hh (XcH w 0 w false) (fun a b q h => h.xells)
 obtain ⟨fcs, f1, f2, f3, -, f5, f6⟩ := SlR.cells (by omega) hf (XcF w 0 w false false) (fun a b q h => h.xells)
 have GC := hid (And.intro g1 g2)
 have HC := hid (And.intro h1 h2)
 have FC := hid (And.intro f1 f2)
 have cg := hid (fun w1 (hb : Below w.heap.size w w1) => clone68 ga u.gs.length gc gcs.flatten w1 g5 (hid (g6.imp id (fun ⟨a, h1, h2⟩ => ⟨a, h1, fun j u hj => cell_on (h2 j u hj) hb⟩))) (hid g3) ok.g)
 have ch := hid (fun w1 (hb : Below w.heap.size w w1) => clone69 ha u.hs.length hc hcs.flatten w1 h5 (hid (h6.imp id (fun ⟨a, h1, h2⟩ => ⟨a, h1, fun j u hj => cell_on (h2 j u hj) hb⟩))) (hid h3) ok.h)
 have cf := hid (fun w1 (hb : Below w.heap.size w w1) => clone70 fa u.fs.length fc fcs.flatten w1 f5 (hid (f6.imp id (fun ⟨a, h1, h2⟩ => ⟨a, h1, fun j u hj => cell_on (h2 j u hj) hb⟩))) (hid f3) ok.f)
 have k1 := ok.g
 have k2 := ok.h
 have k3 := ok.f
 obtain ⟨mg, hmg⟩ : ∃ m, m = u.gs.length := ⟨_, rfl⟩
 obtain ⟨mh, hmh⟩ : ∃ m, m = u.hs.length := ⟨_, rfl⟩
 obtain ⟨mf, hmf⟩ : ∃ m, m = u.fs.length := ⟨_, rfl⟩
 rw [← hmg] at cg k1
 rw [← hmh] at ch k2
 rw [← hmf] at cf k3
 rw [← hmg, ← hmh, ← hmf]
 have MG := hid hmg
 have MH := hid hmh
 have MF := hid hmf
 have X1 : Hid (Bx ((w.alloc (.cells #[.slice ga mg gc, .slice ha mh hc, .slice fa mf fc] 26)).alloc (.cells #[.slice none 0 0, .slice none 0 0, .slice none 0 0] 26)) w.heap.size #[.slice ga mg gc, .slice ha mh hc, .slice fa mf fc] 26) := hid ((Bx.new w _ 26).al _)
 have X2 : Hid (Bx ((w.alloc (.cells #[.slice ga mg gc, .slice ha mh hc, .slice fa mf fc] 26)).alloc (.cells #[.slice none 0 0, .slice none 0 0, .slice none 0 0] 26)) (w.heap.size + 1) #[.slice none 0 0, .slice none 0 0, .slice none 0 0] 26) := hid (by simpa using Bx.new (w.alloc (.cells #[.slice ga mg gc, .slice ha mh hc, .slice fa mf fc] 26)) #[.slice none 0 0, .slice none 0 0, .slice none 0 0] 26)
 have hB := hid (show Below w.heap.size w ((w.alloc (.cells #[.slice ga mg gc, .slice ha mh hc, .slice fa mf fc] 26)).alloc (.cells #[.slice none 0 0, .slice none 0 0, .slice none 0 0] 26)) by (repeat (first | exact Below.refl _ _ | refine Below.drew ?_ | refine Below.alloc ?_ (by simp <;> omega) _)))
 have hsz : ((w.alloc (.cells #[.slice ga mg gc, .slice ha mh hc, .slice fa mf fc] 26)).alloc (.cells #[.slice none 0 0, .slice none 0 0, .slice none 0 0] 26)).heap.size = w.heap.size + 1 + 1 := by simp
 have HSZ := hid hsz
 clear ok hg hh hf g1 g2 g3 g5 g6 h1 h2 h3 h5 h6 f1 f2 f3 f5 f6 hmg hmh hmf hsz
 go_enter Tryz.func39, Tryz.ntmps39
 go_wp2_with fail
 generalize hW2 : ((w.alloc (.cells #[.slice ga mg gc, .slice ha mh hc, .slice fa mf fc] 26)).alloc (.cells #[.slice none 0 0, .slice none 0 0, .slice none 0 0] 26)) = W2 at *
 have p0 := X1.out.cell 0
 have p1 := X1.out.cell 1
 have p2 := X1.out.cell 2
 simp at p0 p1 p2
 clear hW2
 apply once8 (fun vga vgc vha vhc vfa vfc B w5 => (mg = 0 ∨ ∃ g, vga = some ⟨g, 0, none⟩) ∧ (mh = 0 ∨ ∃ g, vha = some ⟨g, 0, none⟩) ∧ (mf = 0 ∨ ∃ g, vfa = some ⟨g, 0, none⟩) ∧ G39 w u w.heap.size w5.heap.size B #[.slice ga mg gc, .slice ha mh hc, .slice fa mf fc] (.slice vga mg vgc) (.slice vha mh vhc) (.slice vfa mf vfc) 0 0 0 w5)
 ·intro H
  have HH := hid H
  clear H
  refine wp_region_held_drew (S := (Below W2.heap.size W2)) (by kernel_rfl) (Below.refl _ _).drew (fun hHeld => ?_)
  refine tk 0 ?_
  refine tk 1 ?_ (hy := by intro w' hSw; have q1 := cell_on p0 hSw; go_simp; (try with_reducible rfl))
  refine tk 3 ?_
  refine tk 4 ?_ (hy := by intro w' hSw; have q1 := cell_on p1 hSw; go_simp; (try with_reducible rfl))
  refine tk 6 ?_
  refine tk 7 ?_ (hy := by intro w' hSw; have q1 := cell_on p2 hSw; go_simp; (try with_reducible rfl))
  have T0 := hid (Below.refl W2.heap.size W2).drew
  refine wpAnyH_ready (rs := [2, 10]) (by kernel_rfl) (by simp) ?_
  refine AllReadyH.cons (by simp only [List.getElem?_toArray, List.getElem?_cons_succ, List.getElem?_cons_zero]; rfl) (fun K hK => ?_) (AllReadyH.cons (by simp only [List.getElem?_toArray, List.getElem?_cons_succ, List.getElem?_cons_zero]; rfl) (fun K hK => ?_) AllReadyH.nil)
  ·go_simp
   go_at_call 68
   refine (cg.out W2.drew (hB.out.trans ((T0.out).mono hB.out.size))).mono ?_
   rintro e w2 ⟨vg, rfl, og, hb9⟩
   have T1 := hid hb9
   have hk9 := bth (T0.out) T1.out
   clear hHeld hb9
   obtain ⟨vga, vgc, rfl, vgs⟩ := own_shape2 og
   have Hog := hid og
   clear og
   go_wp2_with fail
   refine hK.out _ _ hk9 (fun hHeld => ?_)
   clear hK K hk9
   try simp only [tpa, tpb, tpc, tpd, tpe]
   refine wpAnyH_ready (rs := [5, 10]) (by kernel_rfl) (by simp) ?_
   refine AllReadyH.cons (by simp only [List.getElem?_toArray, List.getElem?_cons_succ, List.getElem?_cons_zero]; rfl) (fun K hK => ?_) (AllReadyH.cons (by simp only [List.getElem?_toArray, List.getElem?_cons_succ, List.getElem?_cons_zero]; rfl) (fun K hK => ?_) AllReadyH.nil)
   ·go_simp
    go_at_call 69
    refine (ch.out w2 (hB.out.trans ((bth (T0.out) T1.out).mono hB.out.size))).mono ?_
    rintro e w3 ⟨vh, rfl, oh, hb9⟩
    have T2 := hid hb9
    have hk9 := bth (bth (T0.out) T1.out) T2.out
    clear hHeld hb9
    obtain ⟨vha, vhc, rfl, vhs⟩ := own_shape2 oh
    have Hoh := hid oh
    clear oh
    go_wp2_with fail
    refine hK.out _ _ hk9 (fun hHeld => ?_)
    clear hK K hk9
    try simp only [tpa, tpb, tpc, tpd, tpe]
    refine wpAnyH_ready (rs := [8, 10]) (by kernel_rfl) (by simp) ?_
    refine AllReadyH.cons (by simp only [List.getElem?_toArray, List.getElem?_cons_succ, List.getElem?_cons_zero]; rfl) (fun K hK => ?_) (AllReadyH.cons (by simp only [List.getElem?_toArray, List.getElem?_cons_succ, List.getElem?_cons_zero]; rfl) (fun K hK => ?_) AllReadyH.nil)
    ·go_simp
     go_at_call 70
     refine (cf.out w3 (hB.out.trans ((bth (bth (T0.out) T1.out) T2.out).mono hB.out.size))).mono ?_
     rintro e w4 ⟨vf, rfl, of, hb9⟩
     have T3 := hid hb9
     have hk9 := bth (bth (bth (T0.out) T1.out) T2.out) T3.out
     clear hHeld hb9
     obtain ⟨vfa, vfc, rfl, vfs⟩ := own_shape2 of
     have Hof := hid of
     clear of
     go_wp2_with fail
     refine hK.out _ _ hk9 (fun hHeld => ?_)
     clear hK K hk9
     try simp only [tpa, tpb, tpc, tpd, tpe]
     refine tk 9 ?_
     refine tr 10 fun K hK => ?_
     go_simp
     obtain ⟨B, hBq⟩ : ∃ B, B = w4.heap.size := ⟨_, rfl⟩
     have HBX := hid (show Bx (w4.alloc (.cells #[.slice none 0 0, .slice none 0 0, .slice none 0 0] 26)) B #[.slice none 0 0, .slice none 0 0, .slice none 0 0] 26 by rw [hBq]; exact Bx.new _ _ _)
     have TA := hid ((Below.refl w4.heap.size w4).alloc (Nat.le_refl _) (.cells #[.slice none 0 0, .slice none 0 0, .slice none 0 0] 26))
     have hlB := hid (show W2.heap.size ≤ B by rw [hBq]; exact (bth (bth (bth (T0.out) T1.out) T2.out) T3.out).size)
     have hk9 := bth (bth (bth (bth (T0.out) T1.out) T2.out) T3.out) TA.out
     rw [← hBq]
     clear hHeld hBq
     refine hK.out _ _ hk9 (fun hHeld => ?_)
     clear hK K hk9
     try simp only [tpa, tpb, tpc, tpd, tpe]
     generalize hwa : w4.alloc (.cells #[.slice none 0 0, .slice none 0 0, .slice none 0 0] 26) = wa at *
     clear hwa
     have HBY := hid (HBX.out)
     have z0 := HBY.out.cell 0
     have z1 := HBY.out.cell 1
     have z2 := HBY.out.cell 2
     have f0 := HBY.out.free 0
     have f1 := HBY.out.free 1
     have f2 := HBY.out.free 2
     simp at z0 z1 z2
     have G3 := hid (grown_trans (grown_setCell wa ⟨B, 0, none⟩ (.slice vga mg vgc)) (grown_trans (grown_setCell _ ⟨B, 1, none⟩ (.slice vha mh vhc)) (grown_setCell _ ⟨B, 2, none⟩ (.slice vfa mf vfc))))
     have HBZ := hid (((HBY.out.set 0 (.slice vga mg vgc)).set 1 (.slice vha mh vhc)).set 2 (.slice vfa mf vfc))
     simp at HBZ
     have hfin := hid (G39.start (w := w) (w5 := (((wa.setCell ⟨B, 0, none⟩ (.slice vga mg vgc)).setCell ⟨B, 1, none⟩ (.slice vha mh vhc)).setCell ⟨B, 2, none⟩ (.slice vfa mf vfc))) (u := u) (B := B) (box := #[.slice ga mg gc, .slice ha mh hc, .slice fa mf fc]) (X1.out.on (grown_of_below (bth (bth (bth (bth (T0.out) T1.out) T2.out) T3.out) TA.out)) (by simp) |>.on G3.out (by have := hlB.out; have := HSZ.out; simp; omega)) (X2.out.on (grown_of_below (bth (bth (bth (bth (T0.out) T1.out) T2.out) T3.out) TA.out)) (by simp) |>.on G3.out (by have := hlB.out; have := HSZ.out; simp; omega)) HBZ.out (by rw [← MG.out]; exact own_base2 (World.ownsRow.kept (ownsRow_at Hog.out (bth (bth (T2.out) T3.out) TA.out)) G3.out (.inr fun e => HBY.out.not_row (ownsRow_at Hog.out (bth (bth (T2.out) T3.out) TA.out)) (by decide) e.symm)) (by have := HSZ.out; have := (T0.out).size; omega)) (by rw [← MH.out]; exact own_base2 (World.ownsRow.kept (ownsRow_at Hoh.out (bth (T3.out) TA.out)) G3.out (.inr fun e => HBY.out.not_row (ownsRow_at Hoh.out (bth (T3.out) TA.out)) (by decide) e.symm)) (by have := HSZ.out; have := (bth (T0.out) T1.out).size; omega)) (by rw [← MF.out]; exact own_base2 (World.ownsRow.kept (ownsRow_at Hof.out (TA.out)) G3.out (.inr fun e => HBY.out.not_row (ownsRow_at Hof.out (TA.out)) (by decide) e.symm)) (by have := HSZ.out; have := (bth (bth (T0.out) T1.out) T2.out).size; omega)) GC.out HC.out FC.out ((hB.out.trans ((bth (bth (bth (bth (T0.out) T1.out) T2.out) T3.out) TA.out).mono hB.out.size)).grown G3.out (by have := hB.out.size; have := (bth (bth (bth (bth (T0.out) T1.out) T2.out) T3.out) TA.out).size; omega) (fun q e => by cases e; have := hlB.out; have := HSZ.out; show w.heap.size ≤ B; omega)) (by have := hlB.out; have := HSZ.out; omega) (by have := HSZ.out; have := (bth (bth (bth (bth (T0.out) T1.out) T2.out) T3.out) TA.out).size; have := G3.out.size; omega))
     refine tr 11 fun K hK => ?_
     go_simp
     have hk9 := (bth (bth (bth (bth (T0.out) T1.out) T2.out) T3.out) TA.out).grown G3.out (by have := (bth (bth (bth (bth (T0.out) T1.out) T2.out) T3.out) TA.out).size; omega) (fun q e => by cases e; exact hlB.out)
     clear hHeld
     refine hK.out _ _ hk9 (fun hHeld => ?_)
     clear hK K hk9
     try simp only [tpa, tpb, tpc, tpd, tpe]
     refine td ?_
     clear hHeld
     generalize (((wa.setCell ⟨B, 0, none⟩ (.slice vga mg vgc)).setCell ⟨B, 1, none⟩ (.slice vha mh vhc)).setCell ⟨B, 2, none⟩ (.slice vfa mf vfc)) = w5 at hfin ⊢
     exact HH.out _ _ _ _ _ _ _ _ ⟨vgs, vhs, vfs, hfin.out⟩
    ·go_simp
     obtain ⟨B, hBq⟩ : ∃ B, B = w3.heap.size := ⟨_, rfl⟩
     have HBX := hid (show Bx (w3.alloc (.cells #[.slice none 0 0, .slice none 0 0, .slice none 0 0] 26)) B #[.slice none 0 0, .slice none 0 0, .slice none 0 0] 26 by rw [hBq]; exact Bx.new _ _ _)
     have TA := hid ((Below.refl w3.heap.size w3).alloc (Nat.le_refl _) (.cells #[.slice none 0 0, .slice none 0 0, .slice none 0 0] 26))
     have hlB := hid (show W2.heap.size ≤ B by rw [hBq]; exact (bth (bth (T0.out) T1.out) T2.out).size)
     have hk9 := bth (bth (bth (T0.out) T1.out) T2.out) TA.out
     rw [← hBq]
     clear hHeld hBq
     refine hK.out _ _ hk9 (fun hHeld => ?_)
     clear hK K hk9
     try simp only [tpa, tpb, tpc, tpd, tpe]
     generalize hwa : w3.alloc (.cells #[.slice none 0 0, .slice none 0 0, .slice none 0 0] 26) = wa at *
     clear hwa
     refine tr 8 fun K hK => ?_
     go_simp
     go_at_call 70
     refine (cf.out wa (hB.out.trans ((bth (bth (bth (T0.out) T1.out) T2.out) TA.out).mono hB.out.size))).mono ?_
     rintro e w4 ⟨vf, rfl, of, hb9⟩
     have T3 := hid hb9
     have hk9 := bth (bth (bth (bth (T0.out) T1.out) T2.out) TA.out) T3.out
     clear hHeld hb9
     obtain ⟨vfa, vfc, rfl, vfs⟩ := own_shape2 of
     have Hof := hid of
     clear of
     go_wp2_with fail
     refine hK.out _ _ hk9 (fun hHeld => ?_)
     clear hK K hk9
     try simp only [tpa, tpb, tpc, tpd, tpe]
     refine tk 9 ?_
     have HBY := hid (HBX.out.on (grown_of_below (T3.out)) (by simp))
     have z0 := HBY.out.cell 0
     have z1 := HBY.out.cell 1
     have z2 := HBY.out.cell 2
     have f0 := HBY.out.free 0
     have f1 := HBY.out.free 1
     have f2 := HBY.out.free 2
     simp at z0 z1 z2
     have G3 := hid (grown_trans (grown_setCell w4 ⟨B, 0, none⟩ (.slice vga mg vgc)) (grown_trans (grown_setCell _ ⟨B, 1, none⟩ (.slice vha mh vhc)) (grown_setCell _ ⟨B, 2, none⟩ (.slice vfa mf vfc))))
     have HBZ := hid (((HBY.out.set 0 (.slice vga mg vgc)).set 1 (.slice vha mh vhc)).set 2 (.slice vfa mf vfc))
     simp at HBZ
     have hfin := hid (G39.start (w := w) (w5 := (((w4.setCell ⟨B, 0, none⟩ (.slice vga mg vgc)).setCell ⟨B, 1, none⟩ (.slice vha mh vhc)).setCell ⟨B, 2, none⟩ (.slice vfa mf vfc))) (u := u) (B := B) (box := #[.slice ga mg gc, .slice ha mh hc, .slice fa mf fc]) (X1.out.on (grown_of_below (bth (bth (bth (bth (T0.out) T1.out) T2.out) TA.out) T3.out)) (by simp) |>.on G3.out (by have := hlB.out; have := HSZ.out; simp; omega)) (X2.out.on (grown_of_below (bth (bth (bth (bth (T0.out) T1.out) T2.out) TA.out) T3.out)) (by simp) |>.on G3.out (by have := hlB.out; have := HSZ.out; simp; omega)) HBZ.out (by rw [← MG.out]; exact own_base2 (World.ownsRow.kept (ownsRow_at Hog.out (bth (bth (T2.out) TA.out) T3.out)) G3.out (.inr fun e => HBY.out.not_row (ownsRow_at Hog.out (bth (bth (T2.out) TA.out) T3.out)) (by decide) e.symm)) (by have := HSZ.out; have := (T0.out).size; omega)) (by rw [← MH.out]; exact own_base2 (World.ownsRow.kept (ownsRow_at Hoh.out (bth (TA.out) T3.out)) G3.out (.inr fun e => HBY.out.not_row (ownsRow_at Hoh.out (bth (TA.out) T3.out)) (by decide) e.symm)) (by have := HSZ.out; have := (bth (T0.out) T1.out).size; omega)) (by rw [← MF.out]; exact own_base2 (World.ownsRow.kept (Hof.out) G3.out (.inr fun e => HBY.out.not_row (Hof.out) (by decide) e.symm)) (by have := HSZ.out; have := (bth (bth (bth (T0.out) T1.out) T2.out) TA.out).size; omega)) GC.out HC.out FC.out ((hB.out.trans ((bth (bth (bth (bth (T0.out) T1.out) T2.out) TA.out) T3.out).mono hB.out.size)).grown G3.out (by have := hB.out.size; have := (bth (bth (bth (bth (T0.out) T1.out) T2.out) TA.out) T3.out).size; omega) (fun q e => by cases e; have := hlB.out; have := HSZ.out; show w.heap.size ≤ B; omega)) (by have := hlB.out; have := HSZ.out; omega) (by have := HSZ.out; have := (bth (bth (bth (bth (T0.out) T1.out) T2.out) TA.out) T3.out).size; have := G3.out.size; omega))
     refine tr 11 fun K hK => ?_
     go_simp
     have hk9 := (bth (bth (bth (bth (T0.out) T1.out) T2.out) TA.out) T3.out).grown G3.out (by have := (bth (bth (bth (bth (T0.out) T1.out) T2.out) TA.out) T3.out).size; omega) (fun q e => by cases e; exact hlB.out)
     clear hHeld
     refine hK.out _ _ hk9 (fun hHeld => ?_)
     clear hK K hk9
     try simp only [tpa, tpb, tpc, tpd, tpe]
     refine td ?_
     clear hHeld
     generalize (((w4.setCell ⟨B, 0, none⟩ (.slice vga mg vgc)).setCell ⟨B, 1, none⟩ (.slice vha mh vhc)).setCell ⟨B, 2, none⟩ (.slice vfa mf vfc)) = w5 at hfin ⊢
     exact HH.out _ _ _ _ _ _ _ _ ⟨vgs, vhs, vfs, hfin.out⟩
   ·go_simp
    obtain ⟨B, hBq⟩ : ∃ B, B = w2.heap.size := ⟨_, rfl⟩
    have HBX := hid (show Bx (w2.alloc (.cells #[.slice none 0 0, .slice none 0 0, .slice none 0 0] 26)) B #[.slice none 0 0, .slice none 0 0, .slice none 0 0] 26 by rw [hBq]; exact Bx.new _ _ _)
    have TA := hid ((Below.refl w2.heap.size w2).alloc (Nat.le_refl _) (.cells #[.slice none 0 0, .slice none 0 0, .slice none 0 0] 26))
    have hlB := hid (show W2.heap.size ≤ B by rw [hBq]; exact (bth (T0.out) T1.out).size)
    have hk9 := bth (bth (T0.out) T1.out) TA.out
    rw [← hBq]
    clear hHeld hBq
    refine hK.out _ _ hk9 (fun hHeld => ?_)
    clear hK K hk9
    try simp only [tpa, tpb, tpc, tpd, tpe]
    generalize hwa : w2.alloc (.cells #[.slice none 0 0, .slice none 0 0, .slice none 0 0] 26) = wa at *
    clear hwa
    refine tr 5 fun K hK => ?_
    go_simp
    go_at_call 69
    refine (ch.out wa (hB.out.trans ((bth (bth (T0.out) T1.out) TA.out).mono hB.out.size))).mono ?_
    rintro e w3 ⟨vh, rfl, oh, hb9⟩
    have T2 := hid hb9
    have hk9 := bth (bth (bth (T0.out) T1.out) TA.out) T2.out
    clear hHeld hb9
    obtain ⟨vha, vhc, rfl, vhs⟩ := own_shape2 oh
    have Hoh := hid oh
    clear oh
    go_wp2_with fail
    refine hK.out _ _ hk9 (fun hHeld => ?_)
    clear hK K hk9
    try simp only [tpa, tpb, tpc, tpd, tpe]
    refine tr 8 fun K hK => ?_
    go_simp
    go_at_call 70
    refine (cf.out w3 (hB.out.trans ((bth (bth (bth (T0.out) T1.out) TA.out) T2.out).mono hB.out.size))).mono ?_
    rintro e w4 ⟨vf, rfl, of, hb9⟩
    have T3 := hid hb9
    have hk9 := bth (bth (bth (bth (T0.out) T1.out) TA.out) T2.out) T3.out
    clear hHeld hb9
    obtain ⟨vfa, vfc, rfl, vfs⟩ := own_shape2 of
    have Hof := hid of
    clear of
    go_wp2_with fail
    refine hK.out _ _ hk9 (fun hHeld => ?_)
    clear hK K hk9
    try simp only [tpa, tpb, tpc, tpd, tpe]
    refine tk 9 ?_
    have HBY := hid (HBX.out.on (grown_of_below (bth (T2.out) T3.out)) (by simp))
    have z0 := HBY.out.cell 0
    have z1 := HBY.out.cell 1
    have z2 := HBY.out.cell 2
    have f0 := HBY.out.free 0
    have f1 := HBY.out.free 1
    have f2 := HBY.out.free 2
    simp at z0 z1 z2
    have G3 := hid (grown_trans (grown_setCell w4 ⟨B, 0, none⟩ (.slice vga mg vgc)) (grown_trans (grown_setCell _ ⟨B, 1, none⟩ (.slice vha mh vhc)) (grown_setCell _ ⟨B, 2, none⟩ (.slice vfa mf vfc))))
    have HBZ := hid (((HBY.out.set 0 (.slice vga mg vgc)).set 1 (.slice vha mh vhc)).set 2 (.slice vfa mf vfc))
    simp at HBZ
    have hfin := hid (G39.start (w := w) (w5 := (((w4.setCell ⟨B, 0, none⟩ (.slice vga mg vgc)).setCell ⟨B, 1, none⟩ (.slice vha mh vhc)).setCell ⟨B, 2, none⟩ (.slice vfa mf vfc))) (u := u) (B := B) (box := #[.slice ga mg gc, .slice ha mh hc, .slice fa mf fc]) (X1.out.on (grown_of_below (bth (bth (bth (bth (T0.out) T1.out) TA.out) T2.out) T3.out)) (by simp) |>.on G3.out (by have := hlB.out; have := HSZ.out; simp; omega)) (X2.out.on (grown_of_below (bth (bth (bth (bth (T0.out) T1.out) TA.out) T2.out) T3.out)) (by simp) |>.on G3.out (by have := hlB.out; have := HSZ.out; simp; omega)) HBZ.out (by rw [← MG.out]; exact own_base2 (World.ownsRow.kept (ownsRow_at Hog.out (bth (bth (TA.out) T2.out) T3.out)) G3.out (.inr fun e => HBY.out.not_row (ownsRow_at Hog.out (bth (bth (TA.out) T2.out) T3.out)) (by decide) e.symm)) (by have := HSZ.out; have := (T0.out).size; omega)) (by rw [← MH.out]; exact own_base2 (World.ownsRow.kept (ownsRow_at Hoh.out (T3.out)) G3.out (.inr fun e => HBY.out.not_row (ownsRow_at Hoh.out (T3.out)) (by decide) e.symm)) (by have := HSZ.out; have := (bth (bth (T0.out) T1.out) TA.out).size; omega)) (by rw [← MF.out]; exact own_base2 (World.ownsRow.kept (Hof.out) G3.out (.inr fun e => HBY.out.not_row (Hof.out) (by decide) e.symm)) (by have := HSZ.out; have := (bth (bth (bth (T0.out) T1.out) TA.out) T2.out).size; omega)) GC.out HC.out FC.out ((hB.out.trans ((bth (bth (bth (bth (T0.out) T1.out) TA.out) T2.out) T3.out).mono hB.out.size)).grown G3.out (by have := hB.out.size; have := (bth (bth (bth (bth (T0.out) T1.out) TA.out) T2.out) T3.out).size; omega) (fun q e => by cases e; have := hlB.out; have := HSZ.out; show w.heap.size ≤ B; omega)) (by have := hlB.out; have := HSZ.out; omega) (by have := HSZ.out; have := (bth (bth (bth (bth (T0.out) T1.out) TA.out) T2.out) T3.out).size; have := G3.out.size; omega))
    refine tr 11 fun K hK => ?_
    go_simp
    have hk9 := (bth (bth (bth (bth (T0.out) T1.out) TA.out) T2.out) T3.out).grown G3.out (by have := (bth (bth (bth (bth (T0.out) T1.out) TA.out) T2.out) T3.out).size; omega) (fun q e => by cases e; exact hlB.out)
    clear hHeld
    refine hK.out _ _ hk9 (fun hHeld => ?_)
    clear hK K hk9
    try simp only [tpa, tpb, tpc, tpd, tpe]
    refine td ?_
    clear hHeld
    generalize (((w4.setCell ⟨B, 0, none⟩ (.slice vga mg vgc)).setCell ⟨B, 1, none⟩ (.slice vha mh vhc)).setCell ⟨B, 2, none⟩ (.slice vfa mf vfc)) = w5 at hfin ⊢
    exact HH.out _ _ _ _ _ _ _ _ ⟨vgs, vhs, vfs, hfin.out⟩
  ·go_simp
   obtain ⟨B, hBq⟩ : ∃ B, B = W2.heap.size := ⟨_, rfl⟩
   have HBX := hid (show Bx ((W2.alloc (.cells #[.slice none 0 0, .slice none 0 0, .slice none 0 0] 26)).drew) B #[.slice none 0 0, .slice none 0 0, .slice none 0 0] 26 by rw [hBq]; exact Bx.new W2 _ _)
   have TA := hid (show Below W2.drew.heap.size W2.drew ((W2.alloc (.cells #[.slice none 0 0, .slice none 0 0, .slice none 0 0] 26)).drew) from (Below.refl W2.drew.heap.size W2.drew).alloc (Nat.le_refl _) (.cells #[.slice none 0 0, .slice none 0 0, .slice none 0 0] 26))
   have hlB := hid (show W2.heap.size ≤ B by rw [hBq]; exact Nat.le_refl _)
   have hk9 := bth (T0.out) TA.out
   rw [← hBq]
   clear hHeld hBq
   refine hK.out _ _ hk9 (fun hHeld => ?_)
   clear hK K hk9
   try simp only [tpa, tpb, tpc, tpd, tpe]
   generalize hwa : (W2.alloc (.cells #[.slice none 0 0, .slice none 0 0, .slice none 0 0] 26)).drew = wa at *
   clear hwa
   refine tr 2 fun K hK => ?_
   go_simp
   go_at_call 68
   refine (cg.out wa (hB.out.trans ((bth (T0.out) TA.out).mono hB.out.size))).mono ?_
   rintro e w2 ⟨vg, rfl, og, hb9⟩
   have T1 := hid hb9
   have hk9 := bth (bth (T0.out) TA.out) T1.out
   clear hHeld hb9
   obtain ⟨vga, vgc, rfl, vgs⟩ := own_shape2 og
   have Hog := hid og
   clear og
   go_wp2_with fail
   refine hK.out _ _ hk9 (fun hHeld => ?_)
   clear hK K hk9
   try simp only [tpa, tpb, tpc, tpd, tpe]
   refine tr 5 fun K hK => ?_
   go_simp
   go_at_call 69
   refine (ch.out w2 (hB.out.trans ((bth (bth (T0.out) TA.out) T1.out).mono hB.out.size))).mono ?_
   rintro e w3 ⟨vh, rfl, oh, hb9⟩
   have T2 := hid hb9
   have hk9 := bth (bth (bth (T0.out) TA.out) T1.out) T2.out
   clear hHeld hb9
   obtain ⟨vha, vhc, rfl, vhs⟩ := own_shape2 oh
   have Hoh := hid oh
   clear oh
   go_wp2_with fail
   refine hK.out _ _ hk9 (fun hHeld => ?_)
   clear hK K hk9
   try simp only [tpa, tpb, tpc, tpd, tpe]
   refine tr 8 fun K hK => ?_
   go_simp
   go_at_call 70
   refine (cf.out w3 (hB.out.trans ((bth (bth (bth (T0.out) TA.out) T1.out) T2.out).mono hB.out.size))).mono ?_
   rintro e w4 ⟨vf, rfl, of, hb9⟩
   have T3 := hid hb9
   have hk9 := bth (bth (bth (bth (T0.out) TA.out) T1.out) T2.out) T3.out
   clear hHeld hb9
   obtain ⟨vfa, vfc, rfl, vfs⟩ := own_shape2 of
   have Hof := hid of
   clear of
   go_wp2_with fail
   refine hK.out _ _ hk9 (fun hHeld => ?_)
   clear hK K hk9
   try simp only [tpa, tpb, tpc, tpd, tpe]
   refine tk 9 ?_
   have HBY := hid (HBX.out.on (grown_of_below (bth (bth (T1.out) T2.out) T3.out)) (by simp))
   have z0 := HBY.out.cell 0
   have z1 := HBY.out.cell 1
   have z2 := HBY.out.cell 2
   have f0 := HBY.out.free 0
   have f1 := HBY.out.free 1
   have f2 := HBY.out.free 2
   simp at z0 z1 z2
   have G3 := hid (grown_trans (grown_setCell w4 ⟨B, 0, none⟩ (.slice vga mg vgc)) (grown_trans (grown_setCell _ ⟨B, 1, none⟩ (.slice vha mh vhc)) (grown_setCell _ ⟨B, 2, none⟩ (.slice vfa mf vfc))))
   have HBZ := hid (((HBY.out.set 0 (.slice vga mg vgc)).set 1 (.slice vha mh vhc)).set 2 (.slice vfa mf vfc))
   simp at HBZ
   have hfin := hid (G39.start (w := w) (w5 := (((w4.setCell ⟨B, 0, none⟩ (.slice vga mg vgc)).setCell ⟨B, 1, none⟩ (.slice vha mh vhc)).setCell ⟨B, 2, none⟩ (.slice vfa mf vfc))) (u := u) (B := B) (box := #[.slice ga mg gc, .slice ha mh hc, .slice fa mf fc]) (X1.out.on (grown_of_below (bth (bth (bth (bth (T0.out) TA.out) T1.out) T2.out) T3.out)) (by simp) |>.on G3.out (by have := hlB.out; have := HSZ.out; simp; omega)) (X2.out.on (grown_of_below (bth (bth (bth (bth (T0.out) TA.out) T1.out) T2.out) T3.out)) (by simp) |>.on G3.out (by have := hlB.out; have := HSZ.out; simp; omega)) HBZ.out (by rw [← MG.out]; exact own_base2 (World.ownsRow.kept (ownsRow_at Hog.out (bth (T2.out) T3.out)) G3.out (.inr fun e => HBY.out.not_row (ownsRow_at Hog.out (bth (T2.out) T3.out)) (by decide) e.symm)) (by have := HSZ.out; have := (bth (T0.out) TA.out).size; omega)) (by rw [← MH.out]; exact own_base2 (World.ownsRow.kept (ownsRow_at Hoh.out (T3.out)) G3.out (.inr fun e => HBY.out.not_row (ownsRow_at Hoh.out (T3.out)) (by decide) e.symm)) (by have := HSZ.out; have := (bth (bth (T0.out) TA.out) T1.out).size; omega)) (by rw [← MF.out]; exact own_base2 (World.ownsRow.kept (Hof.out) G3.out (.inr fun e => HBY.out.not_row (Hof.out) (by decide) e.symm)) (by have := HSZ.out; have := (bth (bth (bth (T0.out) TA.out) T1.out) T2.out).size; omega)) GC.out HC.out FC.out ((hB.out.trans ((bth (bth (bth (bth (T0.out) TA.out) T1.out) T2.out) T3.out).mono hB.out.size)).grown G3.out (by have := hB.out.size; have := (bth (bth (bth (bth (T0.out) TA.out) T1.out) T2.out) T3.out).size; omega) (fun q e => by cases e; have := hlB.out; have := HSZ.out; show w.heap.size ≤ B; omega)) (by have := hlB.out; have := HSZ.out; omega) (by have := HSZ.out; have := (bth (bth (bth (bth (T0.out) TA.out) T1.out) T2.out) T3.out).size; have := G3.out.size; omega))
   refine tr 11 fun K hK => ?_
   go_simp
   have hk9 := (bth (bth (bth (bth (T0.out) TA.out) T1.out) T2.out) T3.out).grown G3.out (by have := (bth (bth (bth (bth (T0.out) TA.out) T1.out) T2.out) T3.out).size; omega) (fun q e => by cases e; exact hlB.out)
   clear hHeld
   refine hK.out _ _ hk9 (fun hHeld => ?_)
   clear hK K hk9
   try simp only [tpa, tpb, tpc, tpd, tpe]
   refine td ?_
   clear hHeld
   generalize (((w4.setCell ⟨B, 0, none⟩ (.slice vga mg vgc)).setCell ⟨B, 1, none⟩ (.slice vha mh vhc)).setCell ⟨B, 2, none⟩ (.slice vfa mf vfc)) = w5 at hfin ⊢
   exact HH.out _ _ _ _ _ _ _ _ ⟨vgs, vhs, vfs, hfin.out⟩
 ·rintro vga vgc vha vhc vfa vfc B w5 ⟨vgs, vhs, vfs, hG⟩
  clear p0 p1 p2 X1 X2 hB HSZ cg ch cf
  have hX1 := hid hG
  obtain ⟨n1, hn1⟩ : ∃ m, m = w5.heap.size := ⟨_, rfl⟩
  rw [← hn1] at hX1
  clear hG hn1
  have q1 := hX1.out.b3.cell 1
  simp at q1
  go_wp2_with fail
  go_loopw [19] (fun i wr => ∃ k : Nat, i = .int .i64 k ∧ k ≤ mh ∧ G39 w u w.heap.size n1 B #[.slice ga mg gc, .slice ha mh hc, .slice fa mf fc] (.slice vga mg vgc) (.slice vha mh vhc) (.slice vfa mf vfc) k 0 0 wr) (fun i _ => mh - (intOf i).toNat)
  case atStart => exact ⟨0, rfl, Nat.zero_le _, hX1.out⟩
  case round =>
   clear hX1 q1
   obtain ⟨k, rfl, hk, hG⟩ := hrel
   have hX1 := hid hG
   clear hG
   by_cases hlt : k < mh
   ·have hva2 : ∃ g, vha = some ⟨g, 0, none⟩ := by rcases vhs with q | q; (· omega); (· exact q)
    obtain ⟨g, rfl⟩ := hva2
    have hkl : k < u.hs.length := by have := MH.out; omega
    obtain ⟨c, ⟨t, v0, rfl, hv0⟩, hcell⟩ := hX1.out.hs.row MH.out k hkl
    simp only [Nat.lt_irrefl, decide_false, Bool.false_eq_true, if_false] at hv0
    have x2 := hcell 2 (by omega)
    simp at x2
    have qb := hX1.out.b3.cell 1
    simp at qb
    have hgB : B ≠ g := fun e => hX1.out.hs.box hX1.out.b3 (by decide) (by rw [e]; rfl)
    have hpl := OK.out.hp _ (List.getElem_mem hkl)
    obtain ⟨xa, xc, rfl⟩ := hv0.shape'
    have HV0 := hid hv0
    have hfr := hX1.out.hs.free MH.out (k * 5 + 2)
    have HKL := hid hkl
    clear hcell hv0
    go_wp2_with fail
    refine wp_region_held_drew (S := (fun w9 => World.grownBy wr w9 (some g))) (by kernel_rfl) (grownBy_drew _ _) (fun hHeld => ?_)
    refine tk 0 ?_
    refine tk 1 ?_ (hy := by intro w' hSw; have q1 := hSw.cell qb (by simpa using hgB); go_simp; (try with_reducible rfl))
    refine tk 2 ?_
    refine tk 3 ?_
    refine tk 4 ?_ (hy := by intro w' hSw; have q1 := hSw.cell qb (by simpa using hgB); go_simp; (try with_reducible rfl))
    refine tk 5 ?_
    refine tk 6 ?_
    refine tk 7 ?_
    refine tr 8 fun K hK => ?_
    go_simp
    have hk9 := grownBy_drew wr (some g)
    clear hHeld
    refine hK.out _ _ hk9 (fun hHeld => ?_)
    clear hK K hk9
    try simp only [tpa, tpb, tpc, tpd, tpe]
    have cx := hid (params71 (u.hs[k]'hkl).params (.slice xa (u.hs[k]'hkl).params.length xc) wr.drew hpl (SlPz.sub HV0.out (cells_below hX1.out.below.drew)))
    refine tr 9 fun K hK => ?_
    go_simp
    go_at_call 71
    refine cx.out.mono ?_
    clear cx
    rintro e w6 ⟨v6, rfl, hv6, hb9⟩
    have T6 := hid hb9
    have G6 := hid (hX1.out.on ((Below.refl wr.heap.size wr).drew.trans hb9))
    have HV6 := hid hv6
    have hk9 := grown_any ((Below.refl wr.heap.size wr).drew.trans hb9) (some g)
    obtain ⟨ya, yc, rfl⟩ := hv6.shape'
    clear hHeld hb9 hv6
    go_wp2_with fail
    refine hK.out _ _ hk9 (fun hHeld => ?_)
    clear hK K
    try simp only [tpa, tpb, tpc, tpd, tpe]
    refine tk 10 ?_
    refine tk 11 ?_
    have hk7 := grown_trans hk9 (grown_setCell w6 ⟨g, k * 5 + 2, none⟩ (.slice ya (u.hs[k]'hkl).params.length yc))
    have x2b := cell_on x2 ((Below.refl wr.heap.size wr).drew.trans T6.out)
    have hfr6 := G6.out.hs.free MH.out (k * 5 + 2)
    refine tr 12 fun K hK => ?_
    go_simp
    clear hHeld
    refine hK.out _ _ hk7 (fun hHeld => ?_)
    clear hK K
    try simp only [tpa, tpb, tpc, tpd, tpe]
    refine td ?_
    have G7 := hid (G6.out.putH MH.out hkl (v := (.slice ya (u.hs[k]'hkl).params.length yc)) (SlPz.sub HV6.out (cells_move fun a u hp hc => ⟨by simp at hp ⊢; have := hX1.out.n1s; omega, hc⟩)))
    clear hHeld hk7 hk9 x2b hfr6
    go_wp2_with fail
    exact ⟨⟨k + 1, by go_num, by omega, G7.out⟩, by simp only [intOf]; omega⟩
   ·have hk2 : k = mh := by omega
    subst k
    have q2 := hX1.out.b3.cell 2
    simp at q2
    go_wp2_with fail
    go_loopw [38] (fun i wr => ∃ k : Nat, i = .int .i64 k ∧ k ≤ mf ∧ G39 w u w.heap.size n1 B #[.slice ga mg gc, .slice ha mh hc, .slice fa mf fc] (.slice vga mg vgc) (.slice vha mh vhc) (.slice vfa mf vfc) mh k k wr) (fun i _ => mf - (intOf i).toNat)
    case atStart => exact ⟨0, rfl, Nat.zero_le _, hX1.out⟩
    case round =>
     clear hX1 q2 hlt hk
     obtain ⟨k, rfl, hk, hG⟩ := hrel
     have hX1 := hid hG
     clear hG
     by_cases hlt : k < mf
     ·have hva2 : ∃ g, vfa = some ⟨g, 0, none⟩ := by rcases vfs with q | q; (· omega); (· exact q)
      obtain ⟨g, rfl⟩ := hva2
      have hkl : k < u.fs.length := by have := MF.out; omega
      obtain ⟨c, ⟨t, v0, y0, rfl, hv0, -⟩, hcell⟩ := hX1.out.fs.row MF.out k hkl
      simp only [Nat.lt_irrefl, decide_false, Bool.false_eq_true, if_false] at hv0
      have x2 := hcell 2 (by omega)
      simp at x2
      have qb := hX1.out.b3.cell 2
      simp at qb
      have hgB : B ≠ g := fun e => hX1.out.fs.box hX1.out.b3 (by decide) (by rw [e]; rfl)
      have hpl := OK.out.fp _ (List.getElem_mem hkl)
      obtain ⟨xa, xc, rfl⟩ := SlPz.shape' hv0
      have HV0 := hid hv0
      clear hcell hv0
      go_wp2_with fail
      refine wp_region_held_drew (S := (fun w9 => World.grownBy wr w9 (some g))) (by kernel_rfl) (grownBy_drew _ _) (fun hHeld => ?_)
      refine tk 0 ?_
      refine tk 1 ?_ (hy := by intro w' hSw; have q1 := hSw.cell qb (by simpa using hgB); go_simp; (try with_reducible rfl))
      refine tk 2 ?_
      refine tk 3 ?_
      refine tk 4 ?_ (hy := by intro w' hSw; have q1 := hSw.cell qb (by simpa using hgB); go_simp; (try with_reducible rfl))
      refine tk 5 ?_
      refine tk 6 ?_
      refine tk 7 ?_
      refine tr 8 fun K hK => ?_
      go_simp
      have hk9 := grownBy_drew wr (some g)
      clear hHeld
      refine hK.out _ _ hk9 (fun hHeld => ?_)
      clear hK K hk9
      try simp only [tpa, tpb, tpc, tpd, tpe]
      have cx := hid (params71 (u.fs[k]'hkl).params (.slice xa (u.fs[k]'hkl).params.length xc) wr.drew hpl (SlPz.sub HV0.out (cells_below hX1.out.below.drew)))
      refine tr 9 fun K hK => ?_
      go_simp
      go_at_call 71
      refine cx.out.mono ?_
      clear cx
      rintro e w6 ⟨v6, rfl, hv6, hb9⟩
      have T6 := hid hb9
      have G6 := hid (hX1.out.on ((Below.refl wr.heap.size wr).drew.trans hb9))
      have HV6 := hid hv6
      have hk9 := grown_any ((Below.refl wr.heap.size wr).drew.trans hb9) (some g)
      obtain ⟨ya, yc, rfl⟩ := hv6.shape'
      clear hHeld hb9 hv6
      go_wp2_with fail
      refine hK.out _ _ hk9 (fun hHeld => ?_)
      clear hK K
      try simp only [tpa, tpb, tpc, tpd, tpe]
      refine tk 10 ?_
      refine tk 11 ?_
      have hk7 := grown_trans hk9 (grown_setCell w6 ⟨g, k * 6 + 2, none⟩ (.slice ya (u.fs[k]'hkl).params.length yc))
      have x2b := cell_on x2 ((Below.refl wr.heap.size wr).drew.trans T6.out)
      have hfr6 := G6.out.fs.free MF.out (k * 6 + 2)
      refine tr 12 fun K hK => ?_
      go_simp
      clear hHeld
      refine hK.out _ _ hk7 (fun hHeld => ?_)
      clear hK K
      try simp only [tpa, tpb, tpc, tpd, tpe]
      refine td ?_
      have G7 := hid (G6.out.putF MF.out hkl (v := (.slice ya (u.fs[k]'hkl).params.length yc)) (SlPz.sub HV6.out (cells_move fun a u hp hc => ⟨by simp at hp ⊢; have := hX1.out.n1s; omega, hc⟩)))
      clear hHeld hk7 hk9 x2b hfr6
      go_wp2_with fail
      generalize (w6.setCell ⟨g, k * 6 + 2, none⟩ (.slice ya (u.fs[k]'hkl).params.length yc)) = w7 at G7 ⊢
      clear x2 qb HV6 G6 T6
      obtain ⟨c, ⟨t, v0, y0, rfl, -, hv0⟩, hcell⟩ := G7.out.fs.row MF.out k hkl
      simp only [Nat.lt_irrefl, decide_false, Bool.false_eq_true, if_false] at hv0
      have x2 := hcell 5 (by omega)
      simp at x2
      have qb := G7.out.b3.cell 2
      simp at qb
      have hbl := OK.out.fb _ (List.getElem_mem hkl)
      obtain ⟨xa2, xc2, rfl⟩ := SlS.shape' hv0
      have HV1 := hid hv0
      clear hcell hv0
      try (go_wp2_with fail)
      refine wp_region_held_drew (S := (fun w9 => World.grownBy w7 w9 (some g))) (by kernel_rfl) (grownBy_drew _ _) (fun hHeld => ?_)
      refine tk 0 ?_
      refine tk 1 ?_ (hy := by intro w' hSw; have q1 := hSw.cell qb (by simpa using hgB); go_simp; (try with_reducible rfl))
      refine tk 2 ?_
      refine tk 3 ?_
      refine tk 4 ?_ (hy := by intro w' hSw; have q1 := hSw.cell qb (by simpa using hgB); go_simp; (try with_reducible rfl))
      refine tk 5 ?_
      refine tk 6 ?_
      refine tk 7 ?_
      refine tr 8 fun K hK => ?_
      go_simp
      have hk9 := grownBy_drew w7 (some g)
      clear hHeld
      refine hK.out _ _ hk9 (fun hHeld => ?_)
      clear hK K hk9
      try simp only [tpa, tpb, tpc, tpd, tpe]
      have cx := hid (statements72 ((u.fs[k]'hkl).body.sz + 1) (u.fs[k]'hkl).body (.slice xa2 (u.fs[k]'hkl).body.len xc2) w7.drew (Nat.lt_succ_self _) hbl (SlS.sub HV1.out (cells_below G7.out.below.drew)))
      refine tr 9 fun K hK => ?_
      go_simp
      go_at_call 72
      refine cx.out.mono ?_
      clear cx
      rintro e w6 ⟨v6, rfl, hv6, hb9⟩
      have T6 := hid hb9
      have G6 := hid (G7.out.on ((Below.refl w7.heap.size w7).drew.trans hb9))
      have HV6 := hid hv6
      have hk9 := grown_any ((Below.refl w7.heap.size w7).drew.trans hb9) (some g)
      obtain ⟨ya, yc, rfl⟩ := hv6.shape'
      clear hHeld hb9 hv6
      go_wp2_with fail
      refine hK.out _ _ hk9 (fun hHeld => ?_)
      clear hK K
      try simp only [tpa, tpb, tpc, tpd, tpe]
      refine tk 10 ?_
      refine tk 11 ?_
      have hk7 := grown_trans hk9 (grown_setCell w6 ⟨g, k * 6 + 5, none⟩ (.slice ya (u.fs[k]'hkl).body.len yc))
      have x2b := cell_on x2 ((Below.refl w7.heap.size w7).drew.trans T6.out)
      have hfr6 := G6.out.fs.free MF.out (k * 6 + 5)
      refine tr 12 fun K hK => ?_
      go_simp
      clear hHeld
      refine hK.out _ _ hk7 (fun hHeld => ?_)
      clear hK K
      try simp only [tpa, tpb, tpc, tpd, tpe]
      refine td ?_
      have G8 := hid (G6.out.putB MF.out hkl (v := (.slice ya (u.fs[k]'hkl).body.len yc)) (SlS.sub HV6.out (cells_move fun a u hp hc => ⟨by simp at hp ⊢; have := G7.out.n1s; omega, hc⟩)))
      clear hHeld hk7 hk9 x2b hfr6
      go_wp2_with fail
      exact ⟨⟨k + 1, by go_num, by omega, G8.out⟩, by simp only [intOf]; omega⟩
     ·have hk2 : k = mf := by omega
      subst k
      have r0 := hX1.out.b3.cell 0
      have r1 := hX1.out.b3.cell 1
      have r2 := hX1.out.b3.cell 2
      have z0 := hX1.out.b2.cell 0
      have z1 := hX1.out.b2.cell 1
      have z2 := hX1.out.b2.cell 2
      have f0 := hX1.out.b2.free 0
      have f1 := hX1.out.b2.free 1
      have f2 := hX1.out.b2.free 2
      simp at r0 r1 r2 z0 z1 z2
      have hST := hid (((hX1.out.b2.set 0 (.slice vga mg vgc)).set 1 (.slice vha mh vhc)).set 2 (.slice vfa mf vfc))
      simp at hST
      have hG3 := hid (grown_trans (grown_setCell wr ⟨w.heap.size + 1, 0, none⟩ (.slice vga mg vgc)) (grown_trans (grown_setCell _ ⟨w.heap.size + 1, 1, none⟩ (.slice vha mh vhc)) (grown_setCell _ ⟨w.heap.size + 1, 2, none⟩ (.slice vfa mf vfc))))
      have hU := hid (show UIn _ false none u (.agg #[.slice vga mg vgc, .slice vha mh vhc, .slice vfa mf vfc]) from G39.done (by rw [← MH.out, ← MF.out]; exact hX1.out))
      go_wp2_with fail
      refine bodyPost_ret (v := .agg #[.slice vga mg vgc, .slice vha mh vhc, .slice vfa mf vfc]) (results_cell_row rfl _ _ (w.heap.size + 1) _ _ _ _ rfl hST.out Tryz.underlying26 rfl (by kernel_rfl)) rfl ?_
      refine ⟨_, rfl, hU.out.sub (cells_move fun a v hp hc => ?_), hX1.out.below.grown hG3.out hX1.out.below.size (fun q e => by cases e; show w.heap.size ≤ w.heap.size + 1; omega)⟩
      simp at hp
      refine ⟨by simp; omega, ?_⟩
      rw [setCell_other _ _ _ _ _ (by omega), setCell_other _ _ _ _ _ (by omega), setCell_other _ _ _ _ _ (by omega)]
      exact hc
end
end Go.Proofs.YtlabadkfkbenoaaGreatDoor
