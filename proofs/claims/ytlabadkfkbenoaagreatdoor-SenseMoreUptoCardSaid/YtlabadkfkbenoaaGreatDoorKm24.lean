/- Walks and plain laws, merged: IntY CalA CalI CalJ CalB CalC CalD MadA CalK CalF. No condition. -/
import Derived.Test.YtlabadkfkbenoaaGreatDoorKm01
import Derived.Test.YtlabadkfkbenoaaGreatDoorKm23
import Derived.Test.YtlabadkfkbenoaaGreatDoorKm14
import Derived.Test.YtlabadkfkbenoaaGreatDoorKm17
import Derived.Test.YtlabadkfkbenoaaGreatDoorKm09
import Derived.Outline
import Derived.Deep.RegionHeld3
import Derived.Test.YtlabadkfkbenoaaGreatDoorKm15
import Derived.Test.YtlabadkfkbenoaaGreatDoorKm21
import Derived.Test.YtlabadkfkbenoaaGreatDoorKm06
import Derived.Laws.ResultCell
import Derived.Test.YtlabadkfkbenoaaGreatDoorKm02
namespace Go.Proofs.YtlabadkfkbenoaaGreatDoor
open Go.RowKit
set_option linter.unusedVariables false
set_option linter.unusedSimpArgs false
set_option maxRecDepth 100000
set_option maxHeartbeats 64000000
section
open Go.Shelf
theorem RowA.on {w w' : World} {l : List Int} {v : Value} (h : RowA w l v) {b : Nat} (hg : w.grownBy w' (some b)) (hb : ∃ es c, w.heap[b]? = some (.map es c)) : RowA w' l v := by
 obtain ⟨aa, ab, ao, ac, h1, h2, h3⟩ := h
 refine ⟨aa, ab, ao, ac, h1, h2, fun i hi => ?_⟩
 have hc := h3 i hi
 have hne : ab ≠ b := by
  rintro rfl
  obtain ⟨es, c, hm⟩ := hb
  simp [World.cell?, hm] at hc
 have := hg.block ab (World.block_lt_of_cell? _ _ hc) (by simpa using hne)
 rw [World.cell?_of_block (a := ⟨ab, ao + i, none⟩) this]
 exact hc
theorem RowA.set {w : World} {l : List Int} {v : Value} (h : RowA w l v) {q j : Nat} {k x : Int} (hc : w.cell? ⟨q, j, none⟩ = some (.int .i64 k)) : RowA (w.setCell ⟨q, j, none⟩ (.int .i64 x)) l v := by
 obtain ⟨aa, ab, ao, ac, h1, h2, h3⟩ := h
 refine ⟨aa, ab, ao, ac, h1, h2, fun i hi => ?_⟩
 rw [World.cell?_setCell_other]
 ·exact h3 i hi
 ·intro e
  have := h3 i hi
  rw [← e, hc] at this
  cases this
structure F88 (p : Pt) (cf : Cf) (u : UT) (n d : Nat) (m : MS) (ve : EvS) (args : List Int) (va : Value) (w : World) (sg : Array Value) (ps : List PW) (sct : Scope) (j : Nat) (sc : BSc) (wr : World) : Prop where
 ad : addPars cf.vs cf.cs (ps.drop j) (sc.map fun x => (x.1, x.2.1.1)) = .ok sct
 par : parSc (ps.drop j) (args.drop j) (bareSc sc) = parSc ps args []
 mp : Mp wr (w.heap.size + 1) (entF sc)
 boxes : ∀ y ∈ sc, Bx wr y.2.2 #[.int .u32 y.2.1.2, .int .u8 y.2.1.1] 201 ∧ w.heap.size ≤ y.2.2
 nd : (sc.map fun x => x.2.2).Nodup
 st : MSt p cf u n wr
 me : MeR p cf.allowed n (d + 1) m ve wr
 kv : KV p ve ve w wr
 sg : Bx wr w.heap.size sg 114
 row : RowA wr args va
section
variable {p : Pt} {cf : Cf} {u : UT} {n d : Nat} {m : MS} {ve : EvS} {args : List Int} {va : Value} {w : World} {sg : Array Value} {ps : List PW} {sct : Scope} {j : Nat} {sc : BSc} {wr wr' : World}
theorem F88.below (h : F88 p cf u n d m ve args va w sg ps sct j sc wr) (hb : Below wr.heap.size wr wr') : F88 p cf u n d m ve args va w sg ps sct j sc wr' :=
 ⟨h.ad, h.par, h.mp.mono hb, fun y hy => ⟨(h.boxes y hy).1.on (grown_of_below hb) (by simp), (h.boxes y hy).2⟩, h.nd, h.st.move h.me (Kpt.of hb) h.me.size, h.me.below hb, h.kv.below hb, h.sg.on (grown_of_below hb) (by simp), h.row.below hb⟩
theorem F88.give (h : F88 p cf u n d m ve args va w sg ps sct j sc wr) (hn : n ≤ w.heap.size) (hj : j < ps.length) (hj2 : j < args.length) {w1 w2 : World} (h1 : w1 = wr.alloc (.cells #[.int .u32 args[j], .int .u8 ps[j].2] 201)) (hg : w1.grownBy w2 (some (w.heap.size + 1))) (hp : Mp w2 (w.heap.size + 1) (putM ps[j].1 (.pointer (some ⟨wr.heap.size, 0, none⟩)) (entF sc))) :
  F88 p cf u n d m ve args va w sg ps sct (j + 1) (sc ++ [(ps[j].1, ((ps[j].2, args[j]), wr.heap.size))]) w2 := by
 have b1 : Below wr.heap.size wr w1 := by rw [h1]; exact (Below.refl _ wr).alloc (Nat.le_refl _) _
 have H := h.below b1
 have had := h.ad
 rw [List.drop_eq_getElem_cons hj] at had
 simp only [addPars] at had
 split at had
 ·cases had
 ·rename_i hcnd
  have hgt : getM ps[j].1 (sc.map fun x => (x.1, x.2.1.1)) = none := by
   cases hq : getM ps[j].1 (sc.map fun x => (x.1, x.2.1.1)) with
   | none => rfl
   | some t => rw [hq] at hcnd; simp at hcnd
  have hgn : getM ps[j].1 sc = none := by
   rw [getM_map (fun x : (Int × Int) × Nat => x.1.1)] at hgt
   exact Option.map_eq_none_iff.1 hgt
  have hpl : ∀ x, putM ps[j].1 x sc = sc ++ [(ps[j].1, x)] := fun x => lookI_none _ x sc (by unfold getM at hgn; simpa using hgn)
  have hsg : w.heap.size < wr.heap.size := h.sg.lt
  have hmp := H.mp
  obtain ⟨es, c, hme, -⟩ := hmp
  have asd : Aside w1 (w.heap.size + 1) := .inr ⟨es, c, hme⟩
  have bx : ∀ {q : Nat} {cs : Array Value} {t : TypeId}, Bx w1 q cs t → Bx w2 q cs t := fun {q cs t} hb => hb.on hg (by
   intro e
   cases e
   unfold Bx at hb
   rw [hme] at hb
   cases hb)
  refine ⟨?_, ?_, ?_, ?_, ?_, H.st.move H.me (k := n) (Kpt.gr hg H.me.size fun k e => by cases e; exact .inr (by omega)) (Nat.le_refl _), H.me.aside asd hg, ⟨H.kv.k.trans (Kpt.gr hg H.kv.size fun k e => by cases e; exact .inr (by omega)), H.kv.v⟩, bx H.sg, H.row.on hg ⟨es, c, hme⟩⟩
  ·rw [← had, List.map_append]
   congr 1
   have := putM_map (fun x : (Int × Int) × Nat => x.1.1) ps[j].1 ((ps[j].2, args[j]), wr.heap.size) sc
   rw [hpl] at this
   rw [this, List.map_append]
  ·rw [← h.par, List.drop_eq_getElem_cons hj, List.drop_eq_getElem_cons hj2]
   simp only [parSc]
   congr 1
   have := putM_map (fun x : (Int × Int) × Nat => x.1) ps[j].1 ((ps[j].2, args[j]), wr.heap.size) sc
   rw [hpl] at this
   exact this.symm
  ·have := putM_map (fun y : (Int × Int) × Nat => ptrv y) ps[j].1 ((ps[j].2, args[j]), wr.heap.size) sc
   rw [hpl] at this
   rw [show entF (sc ++ [(ps[j].1, ((ps[j].2, args[j]), wr.heap.size))]) = putM ps[j].1 (ptrv ((ps[j].2, args[j]), wr.heap.size)) (entF sc) from this.symm]
   exact hp
  ·intro y hy
   rcases List.mem_append.1 hy with q | q
   ·exact ⟨bx (H.boxes y q).1, (H.boxes y q).2⟩
   ·simp at q
    subst q
    exact ⟨bx (by rw [h1]; exact Bx.new wr _ _), by show w.heap.size ≤ wr.heap.size; omega⟩
  ·rw [List.map_append, List.nodup_append]
   refine ⟨h.nd, by simp, fun a ha b hb => ?_⟩
   obtain ⟨y, hy, rfl⟩ := List.mem_map.1 ha
   simp at hb
   subst hb
   have := (h.boxes y hy).1.lt
   omega
end
theorem function88 (p : Pt) (cf : Cf) (u : UT) (n : Nat) (shp : List Nat) (k : Nat) (hOk : cf.Ok) (hRg : cf.Rg) (hbz : ∀ f ∈ cf.fs, f.body.sz ≤ 99999980) (hfew : ∀ s g, getM s cf.cs = some g → g.params.length ≤ 100000000 ∧ (g.host < 0 → 0 ≤ g.fn)) (HL : Hid (WLi p cf u n shp k)) : WFn p cf u n shp (k + 1) := by
 intro d m ve s q args va pa pc w hq hqh hal hau hrow hsp hst hme hpos hinv hrg hnl
 obtain ⟨R, hR⟩ : ∃ z, z = PostM p cf.allowed n d w.heap.size ve (fun x => Ending.returned (.int .u32 x)) ((evl cf (k + 1)).F d q args m) w := ⟨_, rfl⟩
 rw [← hR]
 have HR := hid hR
 clear hR
 obtain ⟨ps, qt, qh, qf⟩ := q
 simp only [] at hqh hal hsp ⊢
 have hh := hid (show (evl cf (k + 1)).F d ⟨ps, qt, qh, qf⟩ args m = if 16 ≤ d then .stop 5 0 m else match cf.fs[qf.toNat]? with
  | none => .lost
  | some f => ((evl cf k).L (d + 1) [parSc ps args []] f.body m).bind fun r m => .ok r.2.1 m from rfl)
 have HNL := hid hnl
 obtain ⟨en, vx, fa, hbM⟩ := hme.box
 have m9 : w.cell? ⟨p.M, 9, none⟩ = some (.int .i64 d) := by simpa using hbM.cell 9
 have hB0 := (Below.refl w.heap.size w).alloc (Nat.le_refl _) (.cells #[.slice pa ps.length pc, .int .u8 qt, .int .i64 qh, .int .i64 qf] 114)
 have m9b : (w.alloc (.cells #[.slice pa ps.length pc, .int .u8 qt, .int .i64 qh, .int .i64 qf] 114)).cell? ⟨p.M, 9, none⟩ = some (.int .i64 d) := cell_on m9 hB0
 by_cases hd : 16 ≤ d
 ·have hg := hid (show (evl cf (k + 1)).F d ⟨ps, qt, qh, qf⟩ args m = .stop 5 0 m from hh.out.trans (if_pos hd))
  have F1 : Hid (PostM p cf.allowed n d w.heap.size ve (fun x => .returned (.int .u32 x)) (.stop 5 0 m) w (endE 5 0) (w.alloc (.cells #[.slice pa ps.length pc, .int .u8 qt, .int .i64 qh, .int .i64 qf] 114))) := hid (fin_stop (hme.below hB0) (KV.of p ve hB0) rfl)
  have hdi : (d : Int) ≥ 16 := by omega
  clear hfew hq hqh hal hau hrow hsp hst hme hpos hinv hrg hnl hh hOk hRg hbz hbM hB0 HL hd
  go_enter Tryz.func88, Tryz.ntmps88
  go_wp2_with fail
  refine bp_panic ?_
  rw [HR.out, hg.out]
  exact F1.out
 obtain ⟨f, hf1, hf2⟩ := (hOk.call s _ hq).1 hqh
 simp only [] at hf1 hf2
 have hfm := List.mem_of_getElem? hf1
 obtain ⟨hbo, sct, cbd, had, hcb⟩ := hOk.fn f hfm
 rw [hf2] at had
 have hg := hid (show (evl cf (k + 1)).F d ⟨ps, qt, qh, qf⟩ args m = ((evl cf k).L (d + 1) [parSc ps args []] f.body m).bind fun r m => .ok r.2.1 m from hh.out.trans ((if_neg hd).trans (by rw [hf1])))
 have hnlL := hid (show (evl cf k).L (d + 1) [parSc ps args []] f.body m ≠ .lost from Out.of_bind (by rw [← hg.out]; exact hnl))
 have hdi : ¬ ((d : Int) ≥ 16) := by omega
 have hw9 : IntKind.i64.wrap ((d : Int) + 1) = ((d + 1 : Nat) : Int) := by rw [IntWalk.i64_in _ (by omega)]; omega
 have f9 : w.frozen? ⟨p.M, 9, none⟩ = false := hbM.free 9
 have hMlt := hbM.lt
 have hgM := grown_setCell w ⟨p.M, 9, none⟩ (.int .i64 ((d : Int) + 1))
 have hsz1 : (w.setCell ⟨p.M, 9, none⟩ (.int .i64 ((d : Int) + 1))).heap.size = w.heap.size := by simp [World.setCell]
 have hb1 := (Below.refl (w.setCell ⟨p.M, 9, none⟩ (.int .i64 ((d : Int) + 1))).heap.size (w.setCell ⟨p.M, 9, none⟩ (.int .i64 ((d : Int) + 1)))).alloc (Nat.le_refl _) (.cells #[.slice pa ps.length pc, .int .u8 qt, .int .i64 qh, .int .i64 qf] 114)
 have hx1 := Bx.new (w.setCell ⟨p.M, 9, none⟩ (.int .i64 ((d : Int) + 1))) #[.slice pa ps.length pc, .int .u8 qt, .int .i64 qh, .int .i64 qf] 114
 rw [hsz1] at hx1
 obtain ⟨w2, hw2⟩ : ∃ x : World, x = ((w.setCell ⟨p.M, 9, none⟩ (.int .i64 ((d : Int) + 1))).alloc (.cells #[.slice pa ps.length pc, .int .u8 qt, .int .i64 qh, .int .i64 qf] 114)).alloc (.map #[] 0) := ⟨_, rfl⟩
 have hsz2 : ((w.setCell ⟨p.M, 9, none⟩ (.int .i64 ((d : Int) + 1))).alloc (.cells #[.slice pa ps.length pc, .int .u8 qt, .int .i64 qh, .int .i64 qf] 114)).heap.size = w.heap.size + 1 := by simp [World.setCell]
 have hmm : (Instr.makeMap 210 none).run Tryz.prog ((w.setCell ⟨p.M, 9, none⟩ (.int .i64 ((d : Int) + 1))).alloc (.cells #[.slice pa ps.length pc, .int .u8 qt, .int .i64 qh, .int .i64 qf] 114)) = .ok (.map (some (w.heap.size + 1))) w2 := by rw [hw2, ← hsz2]; exact run_makeMap 210 _
 have hb2 : Below ((w.setCell ⟨p.M, 9, none⟩ (.int .i64 ((d : Int) + 1))).alloc (.cells #[.slice pa ps.length pc, .int .u8 qt, .int .i64 qh, .int .i64 qf] 114)).heap.size ((w.setCell ⟨p.M, 9, none⟩ (.int .i64 ((d : Int) + 1))).alloc (.cells #[.slice pa ps.length pc, .int .u8 qt, .int .i64 qh, .int .i64 qf] 114)) w2 := by rw [hw2]; exact (Below.refl _ _).alloc (Nat.le_refl _) _
 have hme2 := ((hme.turn2 (steps := m.steps) (reps := m.reps) (d' := d + 1) hgM ⟨en, vx, fa, by
  have h := hbM.set 9 (.int .i64 ((d : Int) + 1))
  rw [show ((d : Int) + 1) = ((d + 1 : Nat) : Int) by omega] at h ⊢
  simpa using h⟩).below hb1).below hb2
 have hkv := (((KV.refl p ve w).trans (⟨Kpt.gr hgM (Nat.le_refl _) fun k e => by cases e; exact .inl (.inl (.inl rfl)), Vc.refl _ _⟩ : KV p ve ve w (w.setCell ⟨p.M, 9, none⟩ (.int .i64 ((d : Int) + 1))))).below hb1).below hb2
 have hst2 := hst.move hme hkv.k hme.size
 have hwn := hme.size
 have hbxS := hx1.on (grown_of_below hb2) (by simp)
 have hrow2 := ((hrow.set (q := p.M) (j := 9) (x := (d : Int) + 1) m9).below hb1).below hb2
 have hmp2 : Mp w2 (w.heap.size + 1) (entF []) := by have := Mp.new ((w.setCell ⟨p.M, 9, none⟩ (.int .i64 ((d : Int) + 1))).alloc (.cells #[.slice pa ps.length pc, .int .u8 qt, .int .i64 qh, .int .i64 qf] 114)); rw [hsz2, ← hw2] at this; exact this
 have hF0 := hid (show F88 p cf u n d m ve args va w #[.slice pa ps.length pc, .int .u8 qt, .int .i64 qh, .int .i64 qf] ps sct 0 [] w2 from ⟨had, rfl, hmp2, fun y hy => by simp at hy, by simp, hst2, hme2, hkv, hbxS, hrow2⟩)
 have OLD := hid (show ∀ wr, KV p ve ve w wr → Cells (onlyW w (oldB p.B)) (onlyW wr (oldB p.B)) from fun wr hk => hk.k.cells fun b hb => ⟨by have := hst.Bn; simp at hb; omega, hme.old hst.M hst.Bn (by simpa using hb)⟩)
 obtain ⟨ka2, kb2, koff2, kcap2, hv2, hka2, hps⟩ := hsp
 cases hv2
 have HPS := hid hps
 have FB := hid (And.intro hf1 (And.intro hbo hcb))
 have HWN := hid hwn
 have HAL := hid hal
 have HAU := hid hau
 have HPOS := hid hpos
 have HINV := hid hinv
 have HRG := hid hrg
 have HBZ := hid (hbz f hfm)
 have HBW := hid (hRg.body f hfm)
 have HF2 := hid hf2
 have UN := hid (And.intro hst.unit (And.intro hst.fs (And.intro hst.M hst.Bn)))
 have MLT := hid hme.mlt
 obtain ⟨aa, ab, ao, ac, rfl, haa, -⟩ := hrow
 obtain ⟨len, hlen⟩ : ∃ z, z = ps.length := ⟨_, rfl⟩
 have hall : args.length = len := by omega
 have HLEN := hid hlen
 have hplen : len ≤ 100000000 := by have := (hfew s _ hq).1; simp only [] at this; omega
 have QF := hid ((hfew s _ hq).2 hqh)
 have HBO := hid trivial
 clear hfew hq hqh hal hau hst hme hpos hinv hrg hnl hh hOk hRg hbz hbM hB0 hd hf1 hf2 hfm hbo had hcb hgM hb1 hx1 hsz1 hb2 hme2 hkv hst2 hsz2 hwn hbxS hrow2 hmp2 hps hw2
 rw [hall] at hF0 haa ⊢
 rw [← hlen] at hF0 hka2 hmm ⊢
 clear hlen
 have HALL := hid hall
 clear hall
 have s0 : w2.cell? ⟨w.heap.size, 0, none⟩ = some (.slice pa len pc) := by simpa using hF0.out.sg.cell 0
 go_enter Tryz.func88, Tryz.ntmps88
 go_wp2_with fail
 go_loopw [31] (fun i wr => ∃ (j : Nat) (sc : BSc), j ≤ len ∧ i = .int .i64 j ∧ F88 p cf u n d m ve args (.slice aa len ac) w #[.slice pa len pc, .int .u8 qt, .int .i64 qh, .int .i64 qf] ps sct j sc wr) (fun i _ => len - (intOf i).toNat)
 case atStart => exact ⟨0, [], Nat.zero_le _, rfl, hF0.out⟩
 case round =>
  clear hF0 s0
  obtain ⟨j, sc, hj, rfl, hF⟩ := hrel
  have HF := hid hF
  by_cases hjl : j < len
  ·have hji : (j : Int) < (len : Int) := by omega
   have hpa : pa = some ⟨kb2, koff2, none⟩ := by rcases hka2 with q | q; (· omega); (· exact q)
   subst hpa
   have hjp : j < ps.length := by have := HLEN.out; omega
   have hja : j < args.length := by have := HALL.out; omega
   have hcl := OLD.out wr hF.kv
   obtain ⟨q1, q2⟩ := HPS.out j hjp
   have y0 := cells_only _ _ _ _ (hcl _ _ q1)
   have y1 := cells_only _ _ _ _ (hcl _ _ q2)
   obtain ⟨aa2, ab2, ao2, ac2, hv3, ha3, ha4⟩ := hF.row
   have hlen3 : args.length = len := HALL.out
   obtain ⟨rfl, rfl⟩ : aa = aa2 ∧ ac = ac2 := by rw [hlen3] at hv3; simpa using hv3
   have haa2 : aa = some ⟨ab2, ao2, none⟩ := by rcases ha3 with q | q; (· omega); (· exact q)
   subst haa2
   have ya := ha4 j hja
   have HJP := hid hjp
   have HJA := hid hja
   have GIVE := hid (fun (wb : World) (h : F88 p cf u n d m ve args (.slice (some ⟨ab2, ao2, none⟩) len ac) w #[.slice (some ⟨kb2, koff2, none⟩) len pc, .int .u8 qt, .int .i64 qh, .int .i64 qf] ps sct j sc wb) (w1 w2 : World) (h1 : w1 = wb.alloc (.cells #[.int .u32 (args[j]'HJA.out), .int .u8 (ps[j]'HJP.out).2] 201)) (hg : w1.grownBy w2 (some (w.heap.size + 1))) (hp : Mp w2 (w.heap.size + 1) (putM (ps[j]'HJP.out).1 (.pointer (some ⟨wb.heap.size, 0, none⟩)) (entF sc))) => h.give HWN.out HJP.out HJA.out h1 hg hp)
   have e1 : args[j]'hja = args[j]'HJA.out := rfl
   generalize hav : args[j]'HJA.out = av at GIVE ya e1
   have e2 : ps[j]'hjp = ps[j]'HJP.out := rfl
   simp only [e2] at y0 y1
   generalize hpv : ps[j]'HJP.out = pv at GIVE y0 y1 e2
   obtain ⟨nm, pt⟩ := pv
   simp only [] at y0 y1 GIVE
   skip
   have y0b := y0
   have hB46 := (Below.refl wr.heap.size wr).alloc (Nat.le_refl _) (.cells #[.string nm, .int .u8 pt] 46)
   have FA := hid (hF.below hB46)
   have b46 := hid (Bx.new wr #[.string nm, .int .u8 pt] 46)
   have yab := cell_on ya hB46
   have YA := hid yab
   clear hF hcl q1 q2 hv3 ha3 ha4 hB46 yab e1 e2 hav hpv hjp hja hlen3
   go_wp2_with fail
   generalize wr.alloc (.cells #[.string nm, .int .u8 pt] 46) = wa at FA b46 YA ⊢
   have nmp := FA.out.mp
   have n46 : wr.heap.size ≠ w.heap.size + 1 := fun e => b46.out.not_map nmp e.symm
   have nya : ab2 ≠ w.heap.size + 1 := fun e => by
    obtain ⟨es, c9, hm, -⟩ := nmp
    have h := YA.out
    rw [e] at h
    simp [World.cell?, hm] at h
   have G0 := hid (show ∀ w9, (Kpt (fun b => b = w.heap.size + 1) wa.heap.size wa) w9 → w9.cell? ⟨wr.heap.size, 0, none⟩ = some (.string nm) from fun w9 hk => hk.at (by simpa using b46.out.cell 0) n46)
   have G1 := hid (show ∀ w9, (Kpt (fun b => b = w.heap.size + 1) wa.heap.size wa) w9 → w9.cell? ⟨wr.heap.size, 1, none⟩ = some (.int .u8 pt) from fun w9 hk => hk.at (by simpa using b46.out.cell 1) n46)
   have G2 := hid (show ∀ w9, (Kpt (fun b => b = w.heap.size + 1) wa.heap.size wa) w9 → w9.cell? ⟨ab2, ao2 + j, none⟩ = some (.int .u32 av) from fun w9 hk => hk.at YA.out nya)
   clear nmp n46 nya y0 y1 ya y0b
   refine wp_region_held_drew (S := (Kpt (fun b => b = w.heap.size + 1) wa.heap.size wa)) (by kernel_rfl) (Kpt.of (Below.refl _ _).drew) (fun hHeld => ?_)
   have FB9 := hid (FA.out.below (Below.refl wa.heap.size wa).drew)
   have K3 := hid hHeld
   generalize wa.drew = wb at FB9 K3 hHeld ⊢
   refine tk 0 ?_
   refine tk 1 ?_
   refine tk 2 ?_ (hy := by intro w' hSw; have q := G0.out w' hSw; go_simp; (try with_reducible rfl))
   refine tk 3 ?_
   refine tk 4 ?_
   refine tk 5 ?_
   refine tk 6 ?_ (hy := by intro w' hSw; have q := G2.out w' hSw; go_simp; (try with_reducible rfl))
   refine tk 7 ?_
   refine tk 8 ?_ (hy := by intro w' hSw; have q := G1.out w' hSw; go_simp; (try with_reducible rfl))
   refine tk 9 ?_
   refine tr 10 fun K hK => ?_
   go_simp
   have hk4 : (Kpt (fun b => b = w.heap.size + 1) wa.heap.size wa) (wb.alloc (.cells #[.int .u32 av, .int .u8 pt] 201)) := K3.out.trans (Kpt.of (((Below.refl wb.heap.size wb).alloc (Nat.le_refl _) _).mono K3.out.size))
   have K4 := hid hk4
   have M4 := hid (FB9.out.mp.al (.cells #[.int .u32 av, .int .u8 pt] 201))
   refine hK.out _ _ hk4 (fun hHeld => ?_)
   clear hK K
   try simp only [tpa, tpb, tpc, tpd, tpe]
   clear hk4
   obtain ⟨w5, hrun, hg5, hsz5, hmp5⟩ := M4.out.update under210 under9 nm (.pointer (some ⟨wb.heap.size, 0, none⟩))
   have F5 := hid (GIVE.out wb FB9.out _ w5 rfl hg5 hmp5)
   have hk5 : (Kpt (fun b => b = w.heap.size + 1) wa.heap.size wa) w5 := K4.out.trans (Kpt.gr hg5 K4.out.size fun k e => by cases e; exact .inl rfl)
   clear hg5 hsz5 hmp5
   refine tr 11 fun K hK => ?_
   go_simp
   refine hK.out _ _ hk5 (fun hHeld => ?_)
   clear hK K
   try simp only [tpa, tpb, tpc, tpd, tpe]
   clear hk5
   refine td ?_
   clear hrun
   go_wp2_with fail
   exact ⟨⟨j + 1, _, by omega, by go_num, F5.out⟩, by simp only [intOf]; omega⟩
  ·obtain rfl : j = len := by omega
   have hsct := hF.ad
   have hpar := hF.par
   rw [HLEN.out, List.drop_length] at hsct
   simp only [addPars, Except.ok.injEq] at hsct
   have hpar2 : bareSc sc = parSc ps args [] := by
    rw [← hpar, HLEN.out, List.drop_length]
    rfl
   have hB210 := (Below.refl wr.heap.size wr).alloc (Nat.le_refl _) (.cells #[.map (some (w.heap.size + 1))] 210)
   have hB213 := (Below.refl (wr.alloc (.cells #[.map (some (w.heap.size + 1))] 210)).heap.size (wr.alloc (.cells #[.map (some (w.heap.size + 1))] 210))).alloc (Nat.le_refl _) (.cells #[.slice (some ⟨wr.heap.size, 0, none⟩) 1 1] 213)
   have FA := hid ((hF.below hB210).below hB213)
   have bg := (Bx.new wr #[.map (some (w.heap.size + 1))] 210).on (grown_of_below hB213) (by simp)
   have bF := Bx.new (wr.alloc (.cells #[.map (some (w.heap.size + 1))] 210)) #[.slice (some ⟨wr.heap.size, 0, none⟩) 1 1] 213
   have hszr : (wr.alloc (.cells #[.map (some (w.heap.size + 1))] 210)).heap.size = wr.heap.size + 1 := by simp
   rw [hszr] at bF
   have BG := hid bg
   have BF := hid bF
   have HSC := hid hsct
   have HPR := hid hpar2
   have WW := hid hF.sg.lt
   have hjn : ¬ ((j : Int) < (j : Int)) := by omega
   clear hF hsct hpar hpar2 hB210 hB213 bg bF hszr hjl
   go_wp2_with fail
   generalize (wr.alloc (.cells #[.map (some (w.heap.size + 1))] 210)).alloc (.cells #[.slice (some ⟨wr.heap.size, 0, none⟩) 1 1] 213) = w3 at FA BG BF ⊢
   have hfr : FrR w3 n (wr.heap.size + 1) [sc] wr.heap.size 1 [w.heap.size + 1] := by
    have h1 := HWN.out
    have h2 := WW.out
    refine ⟨by simpa using BF.out, own_box (n := 1) BG.out (by omega) rfl (by omega), rfl, ?_, ?_, by simp, by simpa using FA.out.nd, ⟨?_, ?_, by omega⟩, by simp⟩
    ·intro i q1 q2
     have hi : i = 0 := by simpa using q1
     subst hi
     exact FA.out.mp
    ·intro s9 hs y hy
     simp only [List.mem_singleton] at hs
     subst hs
     exact (FA.out.boxes y hy).1
    ·intro q hq
     simp only [List.mem_singleton] at hq
     subst hq
     omega
    ·intro s9 hs y hy
     simp only [List.mem_singleton] at hs
     subst hs
     exact Nat.le_trans HWN.out (FA.out.boxes y hy).2
   have hrgF : Fr.Rg (bareF [sc]) := by
    intro s9 hs x hx
    have hs2 : s9 = bareSc sc := by simpa [bareF] using hs
    subst hs2
    rw [HPR.out] at hx
    have par : ∀ (ps : List PW) (l : List Int) (sc : LSc), (∀ x ∈ l, U x) → (∀ x ∈ sc, U x.2.2) → ∀ x ∈ parSc ps l sc, U x.2.2 := by
     intro ps
     induction ps with
     | nil => intro l sc _ h; cases l <;> exact h
     | cons p r ih =>
      intro l sc hl h
      cases l with
      | nil => exact h
      | cons a l =>
       refine ih l _ (fun x hx => hl x (by simp [hx])) (fun x hx => ?_)
       rcases putM_in _ _ _ _ hx with rfl | q
       ·exact hl a (by simp)
       ·exact h x q
    exact par ps args [] HAU.out (fun x hx => by simp at hx) x hx
   have X3 := hid (show CtX p cf u n shp (d + 1) m ve (wr.heap.size + 1) [sc] wr.heap.size 1 [w.heap.size + 1] w3 from ⟨⟨FA.out.st, FA.out.me, hfr, HPOS.out⟩, HINV.out, HRG.out, hrgF⟩)
   clear hfr hrgF
   have hbe : bareF [sc] = [parSc ps args []] := by simp only [bareF, List.map_cons, List.map_nil, HPR.out]
   have htys : tysF [sc] = [sct] := by simp only [tysF, List.map_cons, List.map_nil]; rw [← HSC.out]
   have HBE := hid hbe
   clear hbe
   obtain ⟨hun, hufs, hM9, hBn9⟩ := UN.out
   obtain ⟨vg9, vh9, vf9, hv9, -, -, hsf⟩ := hun
   cases hv9
   obtain ⟨fa9, fb9, fo9, fc9, hvf, hfa, hfi⟩ := SlR.open hsf
   obtain ⟨hf1, hbo, hcb⟩ := FB.out
   obtain ⟨fi, hfi2⟩ : ∃ fi : Nat, qf = fi := ⟨qf.toNat, by have := QF.out; omega⟩
   subst hfi2
   simp only [Int.toNat_natCast] at hf1
   rw [← hufs] at hf1
   obtain ⟨hfl, hfe⟩ := List.getElem?_eq_some_iff.1 hf1
   obtain ⟨bv, hb5, hbs⟩ := (hfi fi hfl).c5
   rw [hfe] at hbs
   obtain ⟨ba, bc, rfl⟩ := hbs.shape'
   have hfa2 : fa9 = some ⟨fb9, fo9, none⟩ := by rcases hfa with q | q; (· omega); (· exact q)
   subst hfa2
   have hcl := OLD.out w3 FA.out.kv
   have hb5b := cells_only _ _ _ _ (hcl _ _ hb5)
   have hnb : ¬ (p.TE ve fb9 ∨ FS (wr.heap.size + 1) wr.heap.size [w.heap.size + 1] [sc] fb9) := by
    have hlt : fb9 < p.B := only_lt hb5
    rintro (q | q)
    ·exact X3.out.c.me.old hM9 hBn9 hlt q
    ·have := (X3.out.c.fr.fs q).1
     omega
   obtain ⟨ul, hul⟩ : ∃ z, z = u.fs.length := ⟨_, rfl⟩
   rw [← hul] at hvf hfl
   have hnlL2 : (evl cf k).L (d + 1) (bareF [sc]) f.body m ≠ .lost := by rw [HBE.out]; exact hnlL.out
   have G5 := hid (show ∀ w9, Kpt (fun b => p.TE ve b ∨ FS (wr.heap.size + 1) wr.heap.size [w.heap.size + 1] [sc] b) w3.heap.size w3 w9 → w9.cell? ⟨p.X, 2, none⟩ = some (.slice (some ⟨fb9, fo9, none⟩) ul fc9) from fun w9 hk => by rw [← hvf]; simpa using (X3.out.boxKS hk X3.out.c.st.X (by decide) (by decide)).cell 2)
   have G6 := hid (show ∀ w9, Kpt (fun b => p.TE ve b ∨ FS (wr.heap.size + 1) wr.heap.size [w.heap.size + 1] [sc] b) w3.heap.size w3 w9 → w9.cell? ⟨w.heap.size, 3, none⟩ = some (.int .i64 fi) from fun w9 hk => by simpa using (X3.out.boxKS hk FA.out.sg (by decide) (by decide)).cell 3)
   have G7 := hid (show ∀ w9, Kpt (fun b => p.TE ve b ∨ FS (wr.heap.size + 1) wr.heap.size [w.heap.size + 1] [sc] b) w3.heap.size w3 w9 → w9.cell? ⟨fb9, fo9 + fi * 6 + 5, none⟩ = some (.slice ba f.body.len bc) from fun w9 hk => hk.at hb5b hnb)
   have cx := hid (HL.out (d + 1) m ve (wr.heap.size + 1) [sc] wr.heap.size 1 [w.heap.size + 1] f.body (.slice ba f.body.len bc) f.type 0 cbd w3.drew hbo HBW.out (by rw [htys]; exact hcb) ((hbs.sub hcl).sub (cells_old_below (Below.refl _ _).drew)) (by have := HBZ.out; simp; omega) (X3.out.below (Below.refl _ _).drew) hnlL2)
   have K3 := hid (KV.of p ve (Below.refl w3.heap.size w3).drew)
   have V3 := hid FA.out.kv
   have b0M := cell_on X3.out.c.b0 (Below.refl w3.heap.size w3).drew
   have hfli : (fi : Int) < (ul : Int) := by omega
   clear hsf hfi hbo hcb hf1 hfe hb5 hbs hcl hb5b hnb hul hvf htys hfa
   refine wp_region_held_drew (S := (fun w9 => Kpt (fun b => p.TE ve b ∨ FS (wr.heap.size + 1) wr.heap.size [w.heap.size + 1] [sc] b) w3.heap.size w3 w9 ∧ w9.cell? ⟨p.M, 0, none⟩ = some (.pointer (some ⟨p.X, 0, none⟩)))) (by kernel_rfl) ⟨Kpt.of (Below.refl _ _).drew, b0M⟩ (fun hHeld => ?_)
   refine tk 0 ?_
   refine tk 1 ?_
   refine tk 2 ?_
   refine tk 3 ?_
   refine tk 4 ?_
   refine tk 5 ?_ (hy := by intro w' hSw; have q := hSw.2; go_simp; (try with_reducible rfl))
   refine tk 6 ?_
   refine tk 7 ?_
   refine tk 8 ?_
   refine tk 9 ?_ (hy := by intro w' hSw; have q := G5.out w' hSw.1; go_simp; (try with_reducible rfl))
   refine tk 10 ?_
   refine tk 11 ?_ (hy := by intro w' hSw; have q := G6.out w' hSw.1; go_simp; (try with_reducible rfl))
   refine tk 12 ?_
   refine tk 13 ?_
   refine tk 14 ?_ (hy := by intro w' hSw; have q := G7.out w' hSw.1; go_simp; (try with_reducible rfl))
   refine tr 15 fun K hK => ?_
   go_simp
   go_at_call 123
   refine cx.out.mono ?_
   intro e9 w4 hp
   clear cx
   have LIFT := hid (show ∀ (ve4 : EvS) (new : Nat → Prop), KS p ve ve4 (FS (wr.heap.size + 1) wr.heap.size [w.heap.size + 1] [sc]) new w3.drew w4 → KV p ve ve4 w w4 from fun ve4 new hk => by
    have h := (KV.trans V3.out K3.out)
    refine ⟨h.k.trans (hk.k.mono h.size fun b hb q => q.elim id fun q => ?_), h.v.trans hk.v h.size⟩
    exfalso
    have h1 := WW.out
    rcases q with q | q | q | ⟨y, hy, q⟩
    ·omega
    ·omega
    ·simp at q
     omega
    ·have := (FA.out.boxes y (by simpa using hy)).2
     omega)
   cases ho : (evl cf k).L (d + 1) (bareF [sc]) f.body m with
   | lost => exact absurd ho hnlL2
   | stop a b9 m4 =>
    rw [ho] at hp
    obtain ⟨rfl, ve4, d4, hM4, hK4⟩ := hp
    have hz := hid (show (evl cf (k + 1)).F d ⟨ps, qt, qh, fi⟩ args m = .stop a b9 m4 by rw [hg.out, ← HBE.out, ho]; rfl)
    have F1 : Hid (PostM p cf.allowed n d w.heap.size ve (fun x => .returned (.int .u32 x)) (.stop a b9 m4) w (endE a b9) w4) := hid (fin_stop hM4 (LIFT.out _ _ hK4) rfl)
    clear hM4 hK4 ho hnlL2 hK hHeld
    go_wp2_with fail
    refine bp_panic ?_
    rw [HR.out, hz.out]
    exact F1.out
   | ok q m4 =>
    rw [ho] at hp
    obtain ⟨rfl, hU, ve4, fb4, g4, cap4, ms4, hb4, hX4, hK4⟩ := hp
    have hz := hid (show (evl cf (k + 1)).F d ⟨ps, qt, qh, fi⟩ args m = .ok q.2.1 m4 by rw [hg.out, ← HBE.out, ho]; rfl)
    obtain ⟨how, v4, fr4⟩ := q
    simp only [] at hU hz ⊢
    have k4 := hid (show (fun w9 => Kpt (fun b => p.TE ve b ∨ FS (wr.heap.size + 1) wr.heap.size [w.heap.size + 1] [sc] b) w3.heap.size w3 w9 ∧ w9.cell? ⟨p.M, 0, none⟩ = some (.pointer (some ⟨p.X, 0, none⟩))) w4 from ⟨((K3.out.ks _).trans hK4).k, hX4.c.b0⟩)
    have V4 := hid (LIFT.out _ _ hK4)
    obtain ⟨en4, vx4, fa4, hb4M⟩ := hX4.c.me.box
    have z9 : w4.cell? ⟨p.M, 9, none⟩ = some (.int .i64 (d + 1 : Nat)) := by simpa using hb4M.cell 9
    have f94 : w4.frozen? ⟨p.M, 9, none⟩ = false := hb4M.free 9
    have hgM4 := grown_setCell w4 ⟨p.M, 9, none⟩ (.int .i64 (d : Int))
    have M5 := hid (hX4.c.me.turn2 (steps := m4.steps) (reps := m4.reps) (d' := d) hgM4 ⟨en4, vx4, fa4, by simpa using hb4M.set 9 (.int .i64 (d : Int))⟩)
    have V5 := hid (V4.out.trans (⟨Kpt.gr hgM4 (Nat.le_refl _) fun k e => by cases e; exact .inl (.inl (.inl rfl)), Vc.refl _ _⟩ : KV p ve4 ve4 w4 (w4.setCell ⟨p.M, 9, none⟩ (.int .i64 (d : Int)))))
    have hwd : IntKind.i64.wrap (((d + 1 : Nat) : Int) - 1) = (d : Int) := by rw [IntWalk.i64_in _ (by omega)]; omega
    have hwd2 : IntKind.i64.wrap (d : Int) = (d : Int) := IntWalk.i64_in _ (by omega)
    clear hHeld hb4 hX4 hK4 ho hnlL2 hU hb4M hgM4 V4
    go_wp2_with fail
    refine hK.out _ _ k4.out (fun hHeld => ?_)
    clear hK K
    try simp only [tpa, tpb, tpc, tpd, tpe]
    refine tk 16 ?_
    refine tk 17 ?_
    refine tk 18 ?_
    refine tk 19 ?_
    refine tk 20 ?_
    refine td ?_
    go_wp2_with fail
    rw [HR.out, hz.out]
    exact ⟨rfl, _, M5.out, V5.out.k, V5.out.v⟩
end
section
open Go.Shelf
structure CfOk (cf : Cf) : Prop where
 ok : cf.Ok
 rg : cf.Rg
 alu : cf.alu = aluV
 allowed : cf.allowed ≤ 65536
 size : ∀ f ∈ cf.fs, f.body.sz ≤ 16384
 few : ∀ s g, getM s cf.cs = some g → g.params.length ≤ 100000000 ∧ (g.host < 0 → 0 ≤ g.fn)
theorem all_walks (p : Pt) (cf : Cf) (u : UT) (n : Nat) (shp : List Nat) (h : CfOk cf) : ∀ k, ∀ j, j ≤ k → WEx p cf u n shp j ∧ WLi p cf u n shp j ∧ WWh p cf u n shp j ∧ WFn p cf u n shp j := by
 have z : WEx p cf u n shp 0 ∧ WLi p cf u n shp 0 ∧ WWh p cf u n shp 0 ∧ WFn p cf u n shp 0 := by
  refine ⟨?_, ?_, ?_, ?_⟩
  ·intro d m ve F fb g cap ms t h kids v ty w _ _ _ _ _ hnl
   exact absurd rfl hnl
  ·intro d m ve F fb g cap ms l v ret lp c' w _ _ _ _ _ _ hnl
   exact absurd rfl hnl
  ·intro d m ve F fb g cap ms t h x b vx vb vz a ty ret lp c' w _ _ _ _ _ _ _ _ _ _ _ _ hnl
   exact absurd rfl hnl
  ·intro d m ve s q args va pa pc w _ _ _ _ _ _ _ _ _ _ _ hnl
   exact absurd rfl hnl
 intro k
 induction k with
 | zero =>
  intro j hj
  obtain rfl : j = 0 := by omega
  exact z
 | succ k ih =>
  intro j hj
  by_cases hjk : j ≤ k
  ·exact ih j hjk
  obtain rfl : j = k + 1 := by omega
  obtain ⟨i1, i2, i3, i4⟩ := ih k (Nat.le_refl _)
  exact ⟨expr79 p cf u n shp k h.ok h.rg h.alu h.allowed (hid i1) (hid i4), list123 p cf u n shp k (hid (statement149 p cf u n shp k h.rg h.alu h.allowed (hid i1) (hid i2) (hid i3))),
   while182 p cf u n shp k h.rg h.allowed (hid fun j hj => (ih j hj).1) (hid fun j hj => (ih j hj).2.1), function88 p cf u n shp k h.ok h.rg (fun f hf => by have := h.size f hf; omega) h.few (hid i2)⟩
theorem fn_walk (p : Pt) (cf : Cf) (u : UT) (n : Nat) (shp : List Nat) (h : CfOk cf) (k : Nat) : WFn p cf u n shp k := (all_walks p cf u n shp h k k (Nat.le_refl _)).2.2.2
end
section
open Go.Shelf
abbrev cfU (u : UT) (vs : VS) (cs : CSg) (allowed : Nat) (values : List Int) : Cf := ⟨vs, cs, plG u.gs 0 [], u.hs, u.fs, allowed, values, aluV⟩
theorem cfU_ok {u : UT} {vs : VS} {cs : CSg} (wf : u.Wf) (hs : senseU u = 0) (hg : gatU u = some (vs, cs)) {allowed : Nat} {values : List Int} (ha : allowed ≤ 65536) (hv : ∀ x ∈ values, U x) : CfOk (cfU u vs cs allowed values) := by
 obtain ⟨hc, vs2, cs2, hg2, hn, hf⟩ := sense_parts hs
 rw [hg] at hg2
 cases hg2
 obtain ⟨c1, c2, c3⟩ := chkU_parts hc
 obtain ⟨f1, f2, f3⟩ := fitsU_parts c1
 have hk := gatU_ok hg
 have few : ∀ s g, getM s cs = some g → g.params.length ≤ 15 := fun s g q => by
  by_cases hh : g.host < 0
  ·obtain ⟨_, f, h1, h2, _⟩ := (hk s g q).1 hh
   rw [← h2]
   exact (okFu_parts (f3 f (List.mem_of_getElem? h1))).1
  ·obtain ⟨x, h1, h2, _⟩ := (hk s g q).2 hh
   rw [← h2]
   exact okHo_few (f2 x (List.mem_of_getElem? h1))
 refine ⟨⟨fun s g q => ⟨fun hh => ?_, fun hh => ?_⟩, fun f q => ⟨(okFu_parts (f3 f q)).2, (chF_ok (chFs_at hf f q)).1⟩⟩, ⟨aluV_rg, hv, fun f q => (wf.f f q).2.2⟩, rfl, ha, fun f q => ?_, fun s g q => ⟨?_, fun hh => ((hk s g q).1 hh).1⟩⟩
 ·obtain ⟨_, f, h1, h2, _⟩ := (hk s g q).1 hh
  exact ⟨f, h1, h2⟩
 ·obtain ⟨x, h1, _⟩ := (hk s g q).2 hh
  exact ⟨x, h1⟩
 ·have q : f ∈ u.fs := q
  have h9 := sumU_mem q
  omega
 ·have := few s g q
  omega
end
section
open Go.Shelf
def ptC (s B X vb cb pb : Nat) (vg vh vf hv vv : Value) (xs : List Value) (hd : HD) : Pt := ⟨B, s + 2, X, vb, cb, pb, s + 4, s + 3, vg, vh, vf, hv, vv, xs, hd.map (·.1)⟩
section
variable {w w' : World} {B : Nat} {u : UT} {vs : VS} {cs : CSg} {pl : List (ByteArray × Int)} {hd : HD} {xs : List Value} {X vb cb pb : Nat} {vg vh vf hv : Value}
theorem call_start (h : WoR w B u vs cs (plG u.gs 0 []) hd xs X vb cb pb vg vh vf hv) (hg : gatU u = some (vs, cs)) (ho : HdOk u hd) {allowed : Nat} {values : List Int} {vv : Value} (hv0 : ValR w w.heap.size (own52 xs) values vv) (hvl : values.length ≤ 1000000000) (hb : Below w.heap.size w w')
  (hM : Bx w' (w.heap.size + 2) #[.pointer (some ⟨X, 0, none⟩), .int .i64 allowed, vv, .int .u8 0, .int .u32 0, .int .u8 0, .int .i64 0, .int .i64 0, .slice none 0 0, .int .i64 0, .map (some (w.heap.size + 4))] 119)
  (hc : Bx w' (w.heap.size + 3) #[.pointer (some ⟨w.heap.size + 2, 0, none⟩)] 116) (hk : MpI w' (w.heap.size + 4) (kindsL (w.heap.size + 2) (w.heap.size + 3))) (hs : w.heap.size + 5 ≤ w'.heap.size) :
  MSt (ptC w.heap.size B X vb cb pb vg vh vf hv vv xs hd) (cfU u vs cs allowed values) u (w.heap.size + 5) w' ∧ MeR (ptC w.heap.size B X vb cb pb vg vh vf hv vv xs hd) allowed (w.heap.size + 5) 0 ⟨hd.map (·.2), 0, 0, []⟩ ⟨.slice none 0 0, []⟩ w' := by
 have hcl : Cells (onlyW w (oldB B)) (onlyW w' (oldB B)) := cells_move fun a u h1 h2 => ⟨h1, cell_on h2 hb⟩
 have mv : ∀ {b l}, b < B → Mp (onlyW w (oldB B)) b l → Mp (onlyW w' (oldB B)) b l := fun {b l} hb2 hq => map_only ((map_whole hq (by simpa using hb2)).mono hb) (by simpa using hb2)
 obtain ⟨c1, l, c2, c3⟩ := h.nm
 obtain ⟨ka, kb, koff, kcap, v1, v2, v3, v4⟩ := hv0
 have hlen := h.held.len
 have hlB := h.lB
 have hlX := h.lX
 have hu := ho.len
 refine ⟨⟨h.box.on (grown_of_below hb) (by simp), h.unit.sub hcl, ⟨mv h.lv c1, l, mv h.lc c2, c3.sub hcl⟩, h.place.mono hb, ?_, by simpa [ptC] using hlen, ⟨ka, kb, koff, kcap, v1, v2, ?_, fun i hi => cell_on (v4 i hi) hb⟩, fun s x hx => ?_, rfl, rfl, by show X < w.heap.size + 5; omega, h.lv, h.lc, h.lp, ?_, ?_, fun b q => ?_, fun x hx b q => ?_, hk, hc, ?_, ?_, hvl⟩,
  ⟨⟨.mk, .mk, .mk, by simpa [ptC, Nil0.v] using hM⟩, by simpa [ptC] using hlen, fun i h1 h2 => ?_, h.held.nd, ⟨[], rfl, rfl, ⟨by simp [evcells], .inl ⟨rfl, rfl⟩⟩, fun i h1 _ => by simp at h1⟩, hs, by show w.heap.size + 2 < w.heap.size + 5; omega⟩⟩
 ·have := ownsRow_at h.held.row hb
  rw [hc2_of] at this
  show w'.ownsRow B 82 2 hv xs.length (hc2 (hd.map (·.1)) xs)
  rw [hlen]
  exact this
 ·rcases v3 with q | ⟨q1, q2⟩
  ·exact .inl q
  ·refine .inr ⟨by omega, ?_⟩
   rintro (q | q)
   ·have q : kb = w.heap.size + 2 := q
    omega
   ·exact q2 q
 ·obtain ⟨i, h1, h2⟩ := gatG_pl u.gs.length u.gs [] vs 0 [] (gatU_parts hg).1 (by omega) (fun s x q => by cases q) s x hx
  exact ⟨i, h1, by show i < xs.length; omega⟩
 ·show B ≤ w.heap.size + 2
  omega
 ·show B ≤ w.heap.size + 5
  omega
 ·have := (h.held.row.lt b q).2
  omega
 ·obtain ⟨i, hi, rfl⟩ := List.getElem_of_mem hx
  have hi2 : i < xs.length := hi
  have := ((h.held.rows i hi2 (by omega)).lt b q).2
  omega
 ·show w.heap.size + 4 < w.heap.size + 5
  omega
 ·show w.heap.size + 3 < w.heap.size + 5
  omega
 ·have h3 : i < hd.length := by simpa using h2
  have := ownsRow_at (h.held.rows i h1 h3) hb
  show w'.ownsRow B 52 1 xs[i] ((hd.map (fun a : ByteArray × List Int => a.2))[i]'h2).length (((hd.map (fun a : ByteArray × List Int => a.2))[i]'h2).map (Value.int .u32))
  rw [held_at]
  exact this
end
end
section
open Go.Shelf
theorem assert168 (v : Value) (w : World) : (Instr.typeAssert (.iface 168 v) 20 168 true).run Tryz.prog w = .ok (.tuple #[v, .bool true]) w := by kernel_rfl
theorem eqnil168 (v : Value) (w : World) : (binOp .eql 20 (.iface 168 v) .nilIface).run Tryz.prog w = .ok (.bool false) w := by kernel_rfl
theorem wpOpsS_hide {P : Program} {ops : Array Oper} {Q : Exit → Act → List Frame → World → Prop} {l : List Nat} {a : Act} {cs : List Frame} {w : World} (h : ∀ Q', Q' = Q → wpOpsS P ops Q' l a cs w) : wpOpsS P ops Q l a cs w := h _ rfl
theorem hide_else {P : Program} {Q : Exit → Act → World → Prop} {a : Act} {w : World} {n id : Nat} {ops : Array Oper} {d : Bool} {t : Operand} {A B : Code} (h : ∀ B', B' = B → Code.wp P (Code.block n ((Code.region id ops d).seq (Code.cond t A B'))) Q a w) : Code.wp P (Code.block n ((Code.region id ops d).seq (Code.cond t A B))) Q a w := h _ rfl
theorem hide_both {P : Program} {Q : Exit → Act → World → Prop} {a : Act} {w : World} {id : Nat} {ops : Array Oper} {d : Bool} {t : Operand} {A B : Code} (h : ∀ A' B', A' = A → B' = B → Code.wp P ((Code.region id ops d).seq (Code.cond t A' B')) Q a w) : Code.wp P ((Code.region id ops d).seq (Code.cond t A B)) Q a w := h _ _ rfl rfl
theorem tm87 (a v : Value) : (#[a] ++ (Array.replicate 21 undef).setIfInBounds 3 v) = #[a, undef, undef, undef, v, undef, undef, undef, undef, undef, undef, undef, undef, undef, undef, undef, undef, undef, undef, undef, undef, undef] := by kernel_rfl
theorem run87_n (p : Addr) (w : World) :
  CallsD Tryz.prog 87 #[.pointer (some p)] .returning w fun e u' w' => e = .returned (.tuple #[]) ∧ u' = .returning ∧ w' = w := by
 refine callsD_of_wpS Tryz.func87 rfl fun c₀ cs hu => ?_
 apply wpS_seq
 apply wpS_region
 refine wpOpsS_hide fun Q hQ => ?_
 have HQ := hid hQ
 clear hQ
 simp [wpOpsS, go_sem, recoverD, hu, Tryz.ntmps87]
 rw [HQ.out]
 simp only [Exit.thenS]
 rw [tm87]
 clear HQ
 refine wpS_of_wp ?_
 refine hide_else fun B hB => ?_
 clear hB
 go_wp2_with fail
 cases c₀
 simp_all [bodyPostS, results, Tryz.results87, go_sem]
theorem run87_p (c M : Nat) (x y : Int) (v0 v1 v2 v3 v4 v5 v6 v7 v8 v9 v10 : Value) (older : List PanicEntry) (w : World) (hc : Bx w c #[.pointer (some ⟨M, 0, none⟩)] 116) (hM : Bx w M #[v0, v1, v2, v3, v4, v5, v6, v7, v8, v9, v10] 119) :
  CallsD Tryz.prog 87 #[.pointer (some ⟨c, 0, none⟩)] (.panicking ({ v := .iface 168 (.agg #[.int .u8 x, .int .u8 y]), recovered := false } :: older)) w fun e u' w' =>
   e = .returned (.tuple #[]) ∧ u' = .panicking ({ v := .iface 168 (.agg #[.int .u8 x, .int .u8 y]), recovered := true } :: older) ∧ ∃ w2, Below w.heap.size w w2 ∧ Bx w2 M #[v0, v1, v2, v3, v4, v5, v6, v7, v8, v9, v10] 119 ∧ w' = (w2.setCell ⟨M, 3, none⟩ (.int .u8 x)).setCell ⟨M, 5, none⟩ (.int .u8 y) := by
 refine callsD_of_wpS Tryz.func87 rfl fun c₀ cs hu => ?_
 apply wpS_seq
 apply wpS_region
 refine wpOpsS_hide fun Q hQ => ?_
 have HQ := hid hQ
 clear hQ
 simp [wpOpsS, go_sem, recoverD, hu, Tryz.ntmps87]
 rw [HQ.out]
 simp only [Exit.thenS]
 clear HQ
 rw [tm87]
 refine wpS_of_wp ?_
 have h1 := assert168
 have h2 := eqnil168
 have hlt := hc.lt
 refine hide_else fun B hB => ?_
 have HCB := hid hB
 clear hB
 go_wp2_with fail
 rw [HCB.out]
 refine hide_both fun A9 B9 hA9 hB9 => ?_
 have HA9 := hid hA9
 clear hA9 hB9 HCB
 go_wp2_with fail
 rw [HA9.out]
 clear HA9
 go_wp2_with fail
 have hB := Bx.new w #[.int .u8 x, .int .u8 y] 168
 have hcA := hid (hc.al (.cells #[.int .u8 x, .int .u8 y] 168))
 have hMA := hid (hM.al (.cells #[.int .u8 x, .int .u8 y] 168))
 have HBel := hid ((Below.refl w.heap.size w).alloc (Nat.le_refl _) (.cells #[.int .u8 x, .int .u8 y] 168))
 have HB := hid hB
 have hMl := hM.lt
 clear hB
 generalize w.alloc (.cells #[.int .u8 x, .int .u8 y] 168) = w1 at hcA hMA HBel HB ⊢
 have hcd := hid (hcA.out.on (grownBy_drew w1 none) (by simp))
 have hMd := hid (hMA.out.on (grownBy_drew w1 none) (by simp))
 have hBd := hid (HB.out.on (grownBy_drew w1 none) (by simp))
 refine wp_region_held_drew (S := (fun w9 => Bx w9 c #[.pointer (some ⟨M, 0, none⟩)] 116 ∧ Bx w9 w.heap.size #[.int .u8 x, .int .u8 y] 168)) (by kernel_rfl) ⟨hcd.out, hBd.out⟩ (fun hHeld => ?_)
 have HBd := hid (HBel.out.trans ((Below.refl w1.heap.size w1).drew.mono HBel.out.size))
 generalize w1.drew = w2 at hcd hMd hBd HBd hHeld ⊢
 refine tk 0 ?_ (hy := by intro w' hSw; have q := hSw.1.cell 0; simp at q; go_simp; (try with_reducible rfl))
 refine tk 1 ?_ (hy := by intro w' hSw; have q := hSw.1.cell 0; simp at q; go_simp; (try with_reducible rfl))
 refine tk 2 ?_
 refine tk 3 ?_ (hy := by intro w' hSw; have q := hSw.2.cell 0; simp at q; go_simp; (try with_reducible rfl))
 refine tk 4 ?_
 refine tk 5 ?_ (hy := by intro w' hSw; have q := hSw.2.cell 1; simp at q; go_simp; (try with_reducible rfl))
 refine tk 6 ?_
 refine tk 7 ?_
 refine tk 8 ?_
 have g1 := grown_setCell w2 ⟨M, 3, none⟩ (.int .u8 x)
 have k1 := hid (show (fun w9 => Bx w9 c #[.pointer (some ⟨M, 0, none⟩)] 116 ∧ Bx w9 w.heap.size #[.int .u8 x, .int .u8 y] 168) (w2.setCell ⟨M, 3, none⟩ (.int .u8 x)) from ⟨hcd.out.on g1 (by have := hcd.out.ne_box hMd.out (by decide); simpa using this), hBd.out.on g1 (by have := hBd.out.ne_box hMd.out (by decide); simpa using this)⟩)
 have hM2 := hid (hMd.out.set 3 (.int .u8 x))
 have g2 := grown_setCell (w2.setCell ⟨M, 3, none⟩ (.int .u8 x)) ⟨M, 5, none⟩ (.int .u8 y)
 have k2 := hid (show (fun w9 => Bx w9 c #[.pointer (some ⟨M, 0, none⟩)] 116 ∧ Bx w9 w.heap.size #[.int .u8 x, .int .u8 y] 168) ((w2.setCell ⟨M, 3, none⟩ (.int .u8 x)).setCell ⟨M, 5, none⟩ (.int .u8 y)) from ⟨k1.out.1.on g2 (by have := k1.out.1.ne_box hM2.out (by decide); simpa using this), k1.out.2.on g2 (by have := k1.out.2.ne_box hM2.out (by decide); simpa using this)⟩)
 have z3 := hMd.out.cell 3
 have f3 := hMd.out.free 3
 have z5 := hMd.out.cell 5
 have f5 := hMd.out.free 5
 simp at z3 z5
 have hM3 := hid (hM2.out.set 5 (.int .u8 y))
 clear g1 g2
 refine tr 9 fun K hK => ?_
 go_simp
 refine hK.out _ _ k1.out (fun hHeld => ?_)
 clear hK K
 try simp only [tpa, tpb, tpc, tpd, tpe]
 refine tk 10 ?_
 refine tk 11 ?_
 refine tk 12 ?_
 refine tr 13 fun K hK => ?_
 go_simp
 refine hK.out _ _ k2.out (fun hHeld => ?_)
 clear hK K
 try simp only [tpa, tpb, tpc, tpd, tpe]
 refine td ?_
 go_wp2_with fail
 simp [bodyPostS, results, Tryz.results87, go_sem]
 exact ⟨w2, HBd.out, by simpa using hMd.out, rfl⟩
end
section
open Go.Shelf
def onlyN (Q : Exit → Act → World → Prop) : Exit → Act → World → Prop
 | .normal, a, w => Q .normal a w
 | _, _, _ => False
theorem onlyN_use {P : Program} {c : Code} {Q : Exit → Act → World → Prop} {a : Act} {w : World} (h : Code.wp P c (onlyN Q) a w) : Code.wp P c Q a w :=
 Code.wp_mono (fun e a w q => by cases e <;> first | exact q | exact q.elim) h
theorem run43 (M : Nat) (pa : Option Addr) (ln pc : Nat) (ty ho fi : Int) (va : Value) (w : World) (R : Ending → World → Prop)
  (h : Hid (Calls Tryz.prog 88 #[.pointer (some ⟨M, 0, none⟩), .agg #[.slice pa ln pc, .int .u8 ty, .int .i64 ho, .int .i64 fi], va] ((w.alloc (.cells #[.pointer (some ⟨M, 0, none⟩)] 116)).alloc (.cells #[.slice pa ln pc, .int .u8 ty, .int .i64 ho, .int .i64 fi] 114)) R))
  (hR : Hid (∀ e w', R e w' → Bx w' w.heap.size #[.pointer (some ⟨M, 0, none⟩)] 116 ∧ (∃ v0 v1 v2 v3 v4 v5 v6 v7 v8 v9 v10, Bx w' M #[v0, v1, v2, v3, v4, v5, v6, v7, v8, v9, v10] 119) ∧ ((∃ v, e = .returned (.int .u32 v)) ∨ ∃ x y, e = endE x y))) :
  Calls Tryz.prog 43 #[.pointer (some ⟨M, 0, none⟩), .agg #[.slice pa ln pc, .int .u8 ty, .int .i64 ho, .int .i64 fi], va] w fun e w' => e = .returned (.tuple #[]) ∧ ∃ e0 w1, R e0 w1 ∧
   ((∃ v w2, e0 = .returned (.int .u32 v) ∧ Below w1.heap.size w1 w2 ∧ w' = (w2.setCell ⟨M, 3, none⟩ (.int .u8 1)).setCell ⟨M, 4, none⟩ (.int .u32 v)) ∨
    ∃ x y w2, e0 = endE x y ∧ Below w1.heap.size w1 w2 ∧ w' = (w2.setCell ⟨M, 3, none⟩ (.int .u8 x)).setCell ⟨M, 5, none⟩ (.int .u8 y)) := by
 have hmf : ∀ (fn : Fn) (first cap : Array Value) (w : World), (Instr.makeFunc fn first cap).run Tryz.prog w = .ok (.func fn first cap) w := fun _ _ _ _ => rfl
 go_enter_defers Tryz.func43, Tryz.ntmps43
 go_wp2_with fail
 refine h.out.mono ?_
 intro e w1 hr
 obtain ⟨hbx, ⟨v0, v1, v2, v3, v4, v5, v6, v7, v8, v9, v10, hM⟩, he⟩ := hR.out e w1 hr
 have HRR := hid hr
 clear hr
 have HC := hid hbx
 have HM := hid hM
 clear hbx hM
 rcases he with ⟨v, rfl⟩ | ⟨x, y, rfl⟩
 ·go_wp2_with fail
  have hcd := hid (HC.out.on (grownBy_drew w1 none) (by simp))
  have hMd := hid (HM.out.on (grownBy_drew w1 none) (by simp))
  refine onlyN_use ?_
  refine wp_region_held_drew (S := (fun w9 => Bx w9 w.heap.size #[.pointer (some ⟨M, 0, none⟩)] 116)) (by kernel_rfl) hcd.out (fun hHeld => ?_)
  have HBd := hid (Below.refl w1.heap.size w1).drew
  generalize w1.drew = w2 at hcd hMd HBd hHeld ⊢
  refine tk 0 ?_ (hy := by intro w' hSw; have q := hSw.cell 0; simp at q; go_simp; (try with_reducible rfl))
  refine tk 1 ?_ (hy := by intro w' hSw; have q := hSw.cell 0; simp at q; go_simp; (try with_reducible rfl))
  refine tk 2 ?_
  refine tk 3 ?_
  refine tk 4 ?_
  refine tk 5 ?_
  have g1 := grown_setCell w2 ⟨M, 3, none⟩ (.int .u8 1)
  have k1 := hid (show (fun w9 => Bx w9 w.heap.size #[.pointer (some ⟨M, 0, none⟩)] 116) (w2.setCell ⟨M, 3, none⟩ (.int .u8 1)) from hcd.out.on g1 (by have := hcd.out.ne_box hMd.out (by decide); simpa using this))
  have hM2 := hid (hMd.out.set 3 (.int .u8 1))
  have g2 := grown_setCell (w2.setCell ⟨M, 3, none⟩ (.int .u8 1)) ⟨M, 4, none⟩ (.int .u32 v)
  have k2 := hid (show (fun w9 => Bx w9 w.heap.size #[.pointer (some ⟨M, 0, none⟩)] 116) ((w2.setCell ⟨M, 3, none⟩ (.int .u8 1)).setCell ⟨M, 4, none⟩ (.int .u32 v)) from k1.out.on g2 (by have := k1.out.ne_box hM2.out (by decide); simpa using this))
  have z3 := hMd.out.cell 3
  have f3 := hMd.out.free 3
  have z4 := hMd.out.cell 4
  have f4 := hMd.out.free 4
  simp at z3 z4
  clear g1 g2
  refine tr 6 fun K hK => ?_
  go_simp
  refine hK.out _ _ k1.out (fun hHeld => ?_)
  clear hK K
  try simp only [tpa, tpb, tpc, tpd, tpe]
  refine tk 7 ?_
  refine tk 8 ?_
  refine tk 9 ?_
  refine tr 10 fun K hK => ?_
  go_simp
  refine hK.out _ _ k2.out (fun hHeld => ?_)
  clear hK K
  try simp only [tpa, tpb, tpc, tpd, tpe]
  refine td ?_
  simp only [onlyN]
  go_wp2_with fail
  refine leaves_cons (f := 87) (args := #[.pointer (some ⟨w.heap.size, 0, none⟩)]) (by simp) (by simp [go_sem]) ?_
  refine (run87_n ⟨w.heap.size, 0, none⟩ _).mono ?_
  rintro e u' w'' ⟨rfl, rfl, rfl⟩
  simp [Leaves, settle, results, Tryz.results43, go_sem]
  exact ⟨_, _, HRR.out, .inl ⟨v, rfl, w2, HBd.out, rfl⟩⟩
 ·go_wp2_with fail
  refine leaves_cons (f := 87) (args := #[.pointer (some ⟨w.heap.size, 0, none⟩)]) (by simp) (by simp [go_sem]) ?_
  refine (run87_p w.heap.size M x y v0 v1 v2 v3 v4 v5 v6 v7 v8 v9 v10 [] _ HC.out HM.out).mono ?_
  rintro e u' w'' ⟨rfl, rfl, w2, hb, hM2, rfl⟩
  simp [Leaves, settle, results, Tryz.results43, go_sem]
  exact ⟨_, _, HRR.out, .inr ⟨x, y, rfl, w2, hb, rfl⟩⟩
end
section
open Go.Shelf
theorem mk117 (w : World) : (Instr.makeMap 117 none).run Tryz.prog w = .ok (.map (some w.heap.size)) (w.alloc (.map #[] 0)) := by kernel_rfl
theorem below_row {w w' : World} {k b : Nat} (h : w.grownBy w' (some b)) (hk : k ≤ b) (hs : k ≤ w.heap.size) : Below k w w' :=
 ⟨h.os, h.tape, h.output, h.size, fun j hj => h.block j (by omega) (by simp; omega)⟩
theorem table42 (M : Nat) (w : World) : Calls Tryz.prog 42 #[.pointer (some ⟨M, 0, none⟩)] w fun e w' => e = .returned (.map (some (w.heap.size + 1))) ∧ Below w.heap.size w w' ∧ w'.heap.size = w.heap.size + 2 ∧ Bx w' w.heap.size #[.pointer (some ⟨M, 0, none⟩)] 116 ∧ MpI w' (w.heap.size + 1) (kindsL M w.heap.size) := by
 have hmf : ∀ (fn : Fn) (first cap : Array Value) (w : World), (Instr.makeFunc fn first cap).run Tryz.prog w = .ok (.func fn first cap) w := fun _ _ _ _ => rfl
 obtain ⟨w0, hw0⟩ : ∃ x, x = (w.alloc (.cells #[.pointer (some ⟨M, 0, none⟩)] 116)).alloc (.map #[] 0) := ⟨_, rfl⟩
 have HW := hid hw0
 have m0 : Hid (MpI w0 (w.heap.size + 1) []) := hid (by rw [hw0]; simpa using MpI.new (w.alloc (.cells #[.pointer (some ⟨M, 0, none⟩)] 116)))
 have b0 : Hid (Bx w0 w.heap.size #[.pointer (some ⟨M, 0, none⟩)] 116) := hid (by rw [hw0]; exact (Bx.new w #[.pointer (some ⟨M, 0, none⟩)] 116).al (.map #[] 0))
 have B0 : Hid (Below w.heap.size w w0) := hid (by rw [hw0]; (repeat (first | exact Below.refl _ _ | refine Below.drew ?_ | refine Below.alloc ?_ (by simp <;> omega) _)))
 have s0 : Hid (w0.heap.size = w.heap.size + 2) := hid (by rw [hw0]; simp)
 have hmk : (Instr.makeMap 117 none).run Tryz.prog (w.alloc (.cells #[.pointer (some ⟨M, 0, none⟩)] 116)) = .ok (.map (some (w.heap.size + 1))) w0 := by rw [hw0, mk117]; simp
 clear hw0
 obtain ⟨w1, u1, g1, s1', M1⟩ := m0.out.put Tryz.underlying117 under132 1 (.func (.func 74) #[] #[]) (by rfl)
 have m1 := hid M1
 have b1 := hid (b0.out.on g1 (by simp))
 have B1 := hid (B0.out.trans (below_row g1 (by omega) (by have := s0.out; omega)))
 have s1 := hid (s1'.trans s0.out)
 clear M1 s1' g1
 obtain ⟨w2, u2, g2, s2', M2⟩ := m1.out.put Tryz.underlying117 under132 2 (.func (.func 74) #[] #[]) (by rfl)
 have m2 := hid M2
 have b2 := hid (b1.out.on g2 (by simp))
 have B2 := hid (B1.out.trans (below_row g2 (by omega) (by have := s1.out; omega)))
 have s2 := hid (s2'.trans s1.out)
 clear M2 s2' g2
 obtain ⟨w3, u3, g3, s3', M3⟩ := m2.out.put Tryz.underlying117 under132 3 (.func (.func 75) #[] #[.pointer (some ⟨w.heap.size, 0, none⟩)]) (by rfl)
 have m3 := hid M3
 have b3 := hid (b2.out.on g3 (by simp))
 have B3 := hid (B2.out.trans (below_row g3 (by omega) (by have := s2.out; omega)))
 have s3 := hid (s3'.trans s2.out)
 clear M3 s3' g3
 obtain ⟨w4, u4, g4, s4', M4⟩ := m3.out.put Tryz.underlying117 under132 4 (.func (.func 77) #[] #[.pointer (some ⟨w.heap.size, 0, none⟩)]) (by rfl)
 have m4 := hid M4
 have b4 := hid (b3.out.on g4 (by simp))
 have B4 := hid (B3.out.trans (below_row g4 (by omega) (by have := s3.out; omega)))
 have s4 := hid (s4'.trans s3.out)
 clear M4 s4' g4
 have z4 := b4.out.cell 0
 simp at z4
 obtain ⟨w5, u5, g5, s5', M5⟩ := m4.out.put Tryz.underlying117 under132 5 (.func (.func 80) #[.pointer (some ⟨M, 0, none⟩)] #[]) (by rfl)
 have m5 := hid M5
 have b5 := hid (b4.out.on g5 (by simp))
 have B5 := hid (B4.out.trans (below_row g5 (by omega) (by have := s4.out; omega)))
 have s5 := hid (s5'.trans s4.out)
 clear M5 s5' g5
 have z5 := b5.out.cell 0
 simp at z5
 obtain ⟨w6, u6, g6, s6', M6⟩ := m5.out.put Tryz.underlying117 under132 6 (.func (.func 81) #[.pointer (some ⟨M, 0, none⟩)] #[]) (by rfl)
 have m6 := hid M6
 have b6 := hid (b5.out.on g6 (by simp))
 have B6 := hid (B5.out.trans (below_row g6 (by omega) (by have := s5.out; omega)))
 have s6 := hid (s6'.trans s5.out)
 clear M6 s6' g6
 have z6 := b6.out.cell 0
 simp at z6
 obtain ⟨w7, u7, g7, s7', M7⟩ := m6.out.put Tryz.underlying117 under132 7 (.func (.func 82) #[.pointer (some ⟨M, 0, none⟩)] #[]) (by rfl)
 have m7 := hid M7
 have b7 := hid (b6.out.on g7 (by simp))
 have B7 := hid (B6.out.trans (below_row g7 (by omega) (by have := s6.out; omega)))
 have s7 := hid (s7'.trans s6.out)
 clear M7 s7' g7
 obtain ⟨w8, u8, g8, s8', M8⟩ := m7.out.put Tryz.underlying117 under132 8 (.func (.func 83) #[] #[.pointer (some ⟨w.heap.size, 0, none⟩)]) (by rfl)
 have m8 := hid M8
 have b8 := hid (b7.out.on g8 (by simp))
 have B8 := hid (B7.out.trans (below_row g8 (by omega) (by have := s7.out; omega)))
 have s8 := hid (s8'.trans s7.out)
 clear M8 s8' g8
 go_enter Tryz.func42, Tryz.ntmps42
 go_wp2_with fail
 simp [bodyPost, results, Tryz.results42, go_sem]
 exact ⟨B8.out, s8.out, b8.out, m8.out⟩
end
section
open Go.Shelf
theorem ne92 (o : Option Nat) (w : World) : (binOp .neq 92 (.map o) (.map none)).run Tryz.prog w = .ok (.bool o.isSome) w := by cases o <;> kernel_rfl
theorem made41_yes (X b : Nat) (w : World) (h : w.cell? ⟨X, 6, none⟩ = some (.map (some b))) : Calls Tryz.prog 41 #[.pointer (some ⟨X, 0, none⟩)] w fun e w' => e = .returned (.bool true) ∧ w' = w := by
 have hq := ne92 (some b) w
 go_enter Tryz.func41, Tryz.ntmps41
 go_wp2_with fail
 simp [bodyPost, results, Tryz.results41, go_sem]
end
section
open Go.Shelf
structure F9 (s X : Nat) (al : Int) (cx : Value) (pa : Option Addr) (ln pc : Nat) (ty ho fi : Int) (w w9 : World) : Prop where
 below : Below s w w9
 size : w9.heap.size = s + 5
 out : Bx w9 s #[.int .u8 0, .int .u32 0, .int .u8 0, .int .i64 0, .int .i64 0, .slice none 0 0] 56
 sig : Bx w9 (s + 1) #[.slice pa ln pc, .int .u8 ty, .int .i64 ho, .int .i64 fi] 114
 box : Bx w9 (s + 2) #[.pointer (some ⟨X, 0, none⟩), .int .i64 al, cx, .int .u8 0, .int .u32 0, .int .u8 0, .int .i64 0, .int .i64 0, .slice none 0 0, .int .i64 0, .map (some (s + 4))] 119
 kc : Bx w9 (s + 3) #[.pointer (some ⟨s + 2, 0, none⟩)] 116
 kinds : MpI w9 (s + 4) (kindsL (s + 2) (s + 3))
theorem F9.make {s X : Nat} {al : Int} {cx : Value} {pa : Option Addr} {ln pc : Nat} {ty ho fi : Int} {w w3 w4 : World} (hs : s = w.heap.size)
  (h3 : w3 = ((w.alloc (.cells #[.int .u8 0, .int .u32 0, .int .u8 0, .int .i64 0, .int .i64 0, .slice none 0 0] 56)).alloc (.cells #[.slice pa ln pc, .int .u8 ty, .int .i64 ho, .int .i64 fi] 114)).alloc (.cells #[.pointer (some ⟨X, 0, none⟩), .int .i64 al, cx, .int .u8 0, .int .u32 0, .int .u8 0, .int .i64 0, .int .i64 0, .slice none 0 0, .int .i64 0, .map none] 119))
  (hb : Below w3.heap.size w3 w4) (h4 : w4.heap.size = w3.heap.size + 2) (hc : Bx w4 w3.heap.size #[.pointer (some ⟨s + 2, 0, none⟩)] 116) (hk : MpI w4 (w3.heap.size + 1) (kindsL (s + 2) w3.heap.size)) :
  F9 s X al cx pa ln pc ty ho fi w (w4.setCell ⟨s + 2, 10, none⟩ (.map (some (s + 4)))) := by
 subst hs
 have e3 : w3.heap.size = w.heap.size + 3 := by rw [h3]; simp
 have b0 : Bx w3 w.heap.size #[.int .u8 0, .int .u32 0, .int .u8 0, .int .i64 0, .int .i64 0, .slice none 0 0] 56 := by rw [h3]; exact ((Bx.new w _ 56).al _).al _
 have b1 : Bx w3 (w.heap.size + 1) #[.slice pa ln pc, .int .u8 ty, .int .i64 ho, .int .i64 fi] 114 := by rw [h3]; simpa using (Bx.new (w.alloc (.cells #[.int .u8 0, .int .u32 0, .int .u8 0, .int .i64 0, .int .i64 0, .slice none 0 0] 56)) #[.slice pa ln pc, .int .u8 ty, .int .i64 ho, .int .i64 fi] 114).al _
 have b2 : Bx w3 (w.heap.size + 2) #[.pointer (some ⟨X, 0, none⟩), .int .i64 al, cx, .int .u8 0, .int .u32 0, .int .u8 0, .int .i64 0, .int .i64 0, .slice none 0 0, .int .i64 0, .map none] 119 := by rw [h3]; simpa using Bx.new ((w.alloc (.cells #[.int .u8 0, .int .u32 0, .int .u8 0, .int .i64 0, .int .i64 0, .slice none 0 0] 56)).alloc (.cells #[.slice pa ln pc, .int .u8 ty, .int .i64 ho, .int .i64 fi] 114)) #[.pointer (some ⟨X, 0, none⟩), .int .i64 al, cx, .int .u8 0, .int .u32 0, .int .u8 0, .int .i64 0, .int .i64 0, .slice none 0 0, .int .i64 0, .map none] 119
 have B3 : Below w.heap.size w w3 := by rw [h3]; (repeat (first | exact Below.refl _ _ | refine Below.drew ?_ | refine Below.alloc ?_ (by simp <;> omega) _))
 have c0 := b0.on (grown_of_below hb) (by simp)
 have c1 := b1.on (grown_of_below hb) (by simp)
 have c2 := b2.on (grown_of_below hb) (by simp)
 have hg := grown_setCell w4 ⟨w.heap.size + 2, 10, none⟩ (.map (some (w.heap.size + 4)))
 have e3b : w3.heap.size + 1 = w.heap.size + 4 := by omega
 rw [e3b, e3] at hk
 rw [e3] at hc
 exact ⟨B3.trans (hb.mono (by omega)) |>.grown hg (by have := hb.size; omega) (fun k e => by cases e; show w.heap.size ≤ w.heap.size + 2; omega), by simp [World.setCell]; omega, c0.on hg (by simp), c1.on hg (by simp), by simpa using c2.set 10 (.map (some (w.heap.size + 4))), hc.on hg (by simp),
  by obtain ⟨es, c, q1, q2⟩ := hk; exact ⟨es, c, (hg.block _ (lt_of_block q1) (by simp)).trans q1, q2⟩⟩
theorem call17_good (X b cb : Nat) (s : ByteArray) (pa : Option Addr) (ln pc : Nat) (ty ho fi : Int) (aa : Option Addr) (ac : Nat) (al : Int) (ca : Option Addr) (cl cc : Nat) (w : World) (R P : Ending → World → Prop) (hX : X < w.heap.size) (h : w.cell? ⟨X, 6, none⟩ = some (.map (some b))) (h4 : w.cell? ⟨X, 4, none⟩ = some (.map (some cb))) (hh : ho < 0) (h0 : 0 ≤ al) (h1 : al ≤ 65536)
  (hl : (Instr.lookup 89 (.map (some cb)) (.string s) true).run Tryz.prog (w.alloc (.cells #[.int .u8 0, .int .u32 0, .int .u8 0, .int .i64 0, .int .i64 0, .slice none 0 0] 56)) = .ok (.tuple #[.agg #[.slice pa ln pc, .int .u8 ty, .int .i64 ho, .int .i64 fi], .bool true]) (w.alloc (.cells #[.int .u8 0, .int .u32 0, .int .u8 0, .int .i64 0, .int .i64 0, .slice none 0 0] 56)))
  (hR : Hid (∀ w9, F9 w.heap.size X al (.slice ca cl cc) pa ln pc ty ho fi w w9 → Calls Tryz.prog 43 #[.pointer (some ⟨w.heap.size + 2, 0, none⟩), .agg #[.slice pa ln pc, .int .u8 ty, .int .i64 ho, .int .i64 fi], .slice aa ln ac] w9 R))
  (hP : Hid (∀ e w', R e w' → e = .returned (.tuple #[]) ∧ ∃ a0 a1 a2 a9 a10 en v fa st rp ea el ec, Bx w' (w.heap.size + 2) #[a0, a1, a2, .int .u8 en, .int .u32 v, .int .u8 fa, .int .i64 st, .int .i64 rp, .slice ea el ec, a9, a10] 119 ∧ Bx w' w.heap.size #[.int .u8 0, .int .u32 0, .int .u8 0, .int .i64 0, .int .i64 0, .slice none 0 0] 56 ∧
   ∀ w'', w'.grownBy w'' (some w.heap.size) → P (.returned (.tuple #[.agg #[.int .u8 en, .int .u32 v, .int .u8 fa, .int .i64 st, .int .i64 rp, .slice ea el ec], .int .i64 0])) w'')) :
  Calls Tryz.prog 17 #[.pointer (some ⟨X, 0, none⟩), .string s, .slice aa ln ac, .int .i64 al, .slice ca cl cc] w P := by
 have h2 : (w.alloc (.cells #[.int .u8 0, .int .u32 0, .int .u8 0, .int .i64 0, .int .i64 0, .slice none 0 0] 56)).cell? ⟨X, 6, none⟩ = some (.map (some b)) := by
  rw [World.cell?_alloc_past _ _ _ (by simpa using hX)]
  exact h
 have h3 : (w.alloc (.cells #[.int .u8 0, .int .u32 0, .int .u8 0, .int .i64 0, .int .i64 0, .slice none 0 0] 56)).cell? ⟨X, 4, none⟩ = some (.map (some cb)) := by
  rw [World.cell?_alloc_past _ _ _ (by simpa using hX)]
  exact h4
 have c := hid (made41_yes X b _ h2)
 have d1 : ¬ al < 0 := by omega
 have d2 : ¬ 65536 < al := by omega
 have d3 : ¬ 0 ≤ ho := by omega
 obtain ⟨w3, hw3⟩ : ∃ x, x = ((w.alloc (.cells #[.int .u8 0, .int .u32 0, .int .u8 0, .int .i64 0, .int .i64 0, .slice none 0 0] 56)).alloc (.cells #[.slice pa ln pc, .int .u8 ty, .int .i64 ho, .int .i64 fi] 114)).alloc (.cells #[.pointer (some ⟨X, 0, none⟩), .int .i64 al, .slice ca cl cc, .int .u8 0, .int .u32 0, .int .u8 0, .int .i64 0, .int .i64 0, .slice none 0 0, .int .i64 0, .map none] 119) := ⟨_, rfl⟩
 have HW := hid hw3
 have ct := hid (table42 (w.heap.size + 2) w3)
 have e3 := hid (show w3.heap.size = w.heap.size + 3 by rw [hw3]; simp)
 have bM3 := hid (show Bx w3 (w.heap.size + 2) #[.pointer (some ⟨X, 0, none⟩), .int .i64 al, .slice ca cl cc, .int .u8 0, .int .u32 0, .int .u8 0, .int .i64 0, .int .i64 0, .slice none 0 0, .int .i64 0, .map none] 119 by rw [hw3]; simpa using Bx.new ((w.alloc (.cells #[.int .u8 0, .int .u32 0, .int .u8 0, .int .i64 0, .int .i64 0, .slice none 0 0] 56)).alloc (.cells #[.slice pa ln pc, .int .u8 ty, .int .i64 ho, .int .i64 fi] 114)) #[.pointer (some ⟨X, 0, none⟩), .int .i64 al, .slice ca cl cc, .int .u8 0, .int .u32 0, .int .u8 0, .int .i64 0, .int .i64 0, .slice none 0 0, .int .i64 0, .map none] 119)
 clear hh h h2 hX h0 h1 h4
 go_enter Tryz.func17, Tryz.ntmps17
 go_wp2_with fail
 refine c.out.mono ?_
 rintro e w2 ⟨rfl, rfl⟩
 go_wp2_with fail
 rw [← hw3]
 refine ct.out.mono ?_
 rintro e w4 ⟨rfl, hb4, hs4, hc4, hk4⟩
 have F := hid (F9.make (s := w.heap.size) (X := X) (al := al) (cx := .slice ca cl cc) rfl HW.out hb4 hs4 hc4 hk4)
 have M4 := bM3.out.on (grown_of_below hb4) (by simp)
 have f10 := M4.free 10
 have z10 := M4.cell 10
 simp at z10
 have e4 : w3.heap.size + 1 = w.heap.size + 4 := by have := e3.out; omega
 rw [e4]
 have cr := hid (hR.out _ F.out)
 have q0 := F.out.sig.cell 0
 have q1 := F.out.sig.cell 1
 have q2 := F.out.sig.cell 2
 have q3 := F.out.sig.cell 3
 simp at q0 q1 q2 q3
 clear hb4 hs4 hc4 hk4 M4 ct hw3
 go_wp2_with fail
 refine cr.out.mono ?_
 intro e w6 hr
 obtain ⟨rfl, a0, a1, a2, a9, a10, en, v, fa, st, rp, ea, el, ec, hM, hO, hfin⟩ := hP.out e w6 hr
 have HF := hid hfin
 have p3 := hM.cell 3
 have p4 := hM.cell 4
 have p5 := hM.cell 5
 have p6 := hM.cell 6
 have p7 := hM.cell 7
 have p8 := hM.cell 8
 simp at p3 p4 p5 p6 p7 p8
 have f0 := hO.free 0
 have f1 := hO.free 1
 have f2 := hO.free 2
 have f3 := hO.free 3
 have f4 := hO.free 4
 have f5 := hO.free 5
 have y0 := hO.cell 0
 have y1 := hO.cell 1
 have y2 := hO.cell 2
 have y3 := hO.cell 3
 have y4 := hO.cell 4
 have y5 := hO.cell 5
 simp at y0 y1 y2 y3 y4 y5
 have HO := hid hO
 clear hM hO hfin hr cr q0 q1 q2 q3 f10 z10
 go_wp2_with fail
 have hST := ((((((HO.out.set 0 (.int .u8 en)).set 1 (.int .u32 v)).set 2 (.int .u8 fa)).set 3 (.int .i64 st)).set 4 (.int .i64 rp)).set 5 (.slice ea el ec))
 simp at hST
 refine bodyPost_ret (v := .tuple #[.agg #[.int .u8 en, .int .u32 v, .int .u8 fa, .int .i64 st, .int .i64 rp, .slice ea el ec], .int .i64 0]) ?_ rfl ?_
 ·rw [results_cell_tmp rfl]
  have hload := run_loadVar_row (P := Tryz.prog) _ w.heap.size 56 56 _ (0, 0) _ hST Tryz.underlying56 rfl (by kernel_rfl)
  simp [asAddr, Result.andThen, hload]
 ·refine HF.out _ ?_
  have h9 := (((((Below.refl 0 w6).setCell (p := ⟨w.heap.size, 0, none⟩) (Nat.zero_le _) (.int .u8 en)).setCell (p := ⟨w.heap.size, 1, none⟩) (Nat.zero_le _) (.int .u32 v)).setCell (p := ⟨w.heap.size, 2, none⟩) (Nat.zero_le _) (.int .u8 fa)).setCell (p := ⟨w.heap.size, 3, none⟩) (Nat.zero_le _) (.int .i64 st)).setCell (p := ⟨w.heap.size, 4, none⟩) (Nat.zero_le _) (.int .i64 rp) |>.setCell (p := ⟨w.heap.size, 5, none⟩) (Nat.zero_le _) (.slice ea el ec)
  exact ⟨h9.os, h9.tape, h9.output, h9.size, fun k hk hn => by
   have hq : k ≠ w.heap.size := fun e => hn (by rw [e])
   rw [Below.heap_setCell _ ⟨w.heap.size, 5, none⟩ _ k hq, Below.heap_setCell _ ⟨w.heap.size, 4, none⟩ _ k hq, Below.heap_setCell _ ⟨w.heap.size, 3, none⟩ _ k hq, Below.heap_setCell _ ⟨w.heap.size, 2, none⟩ _ k hq, Below.heap_setCell _ ⟨w.heap.size, 1, none⟩ _ k hq, Below.heap_setCell _ ⟨w.heap.size, 0, none⟩ _ k hq]⟩
end
section
open Go.Shelf
def zeroO : Value := .agg #[.int .u8 0, .int .u32 0, .int .u8 0, .int .i64 0, .int .i64 0, .slice none 0 0]
end
end Go.Proofs.YtlabadkfkbenoaaGreatDoor
