/- Walks and plain laws, merged: IntY CalA CalI. No condition. -/
import Derived.Test.YtlabadkfkbenoaaGreatDoorKn01
import Derived.Test.YtlabadkfkbenoaaGreatDoorKn42
import Derived.Test.YtlabadkfkbenoaaGreatDoorKn24
import Derived.Test.YtlabadkfkbenoaaGreatDoorKn29
namespace Go.Proofs.YtlabadkfkbenoaaGreatDoor
open Go.RowKit
set_option linter.unusedVariables false
set_option linter.unusedSimpArgs false
set_option maxRecDepth 100000
section
open Go.Shelf
theorem RowA.on {w w' : World} {l : List Int} {v : Value} (h : RowA w l v) {b : Nat} (hg : w.grownBy w' (some b)) (hb : ∃ es c, w.heap[b]? = some (.map es c)) : RowA w' l v := by
 obtain ⟨aa, ab, ao, ac, h1, h2, h3⟩ := h
 refine ⟨aa, ab, ao, ac, h1, h2, fun i hi => ?_⟩
 have hc := h3 i hi
 have hne : ab ≠ b := by
  rintro rfl
  obtain ⟨es, c, hm⟩ := hb
  simp [World.cell?, hm] at hc
 have := hg.block ab (World.block_lt_of_cell? _ _ hc) (by simpa using hne)
 rw [World.cell?_of_block (a := ⟨ab, ao + i, none⟩) this]
 exact hc
theorem RowA.set {w : World} {l : List Int} {v : Value} (h : RowA w l v) {q j : Nat} {k x : Int} (hc : w.cell? ⟨q, j, none⟩ = some (.int .i64 k)) : RowA (w.setCell ⟨q, j, none⟩ (.int .i64 x)) l v := by
 obtain ⟨aa, ab, ao, ac, h1, h2, h3⟩ := h
 refine ⟨aa, ab, ao, ac, h1, h2, fun i hi => ?_⟩
 rw [World.cell?_setCell_other]
 ·exact h3 i hi
 ·intro e
  have := h3 i hi
  rw [← e, hc] at this
  cases this
/-- what stands while the parameters are laid -/
structure F88 (p : Pt) (cf : Cf) (u : UT) (n d : Nat) (m : MS) (ve : EvS) (args : List Int) (va : Value) (w : World) (sg : Array Value) (ps : List PW) (sct : Scope) (j : Nat) (sc : BSc) (wr : World) : Prop where
 ad : addPars cf.vs cf.cs (ps.drop j) (sc.map fun x => (x.1, x.2.1.1)) = .ok sct
 par : parSc (ps.drop j) (args.drop j) (bareSc sc) = parSc ps args []
 mp : Mp wr (w.heap.size + 1) (entF sc)
 boxes : ∀ y ∈ sc, Bx wr y.2.2 #[.int .u32 y.2.1.2, .int .u8 y.2.1.1] 201 ∧ w.heap.size ≤ y.2.2
 nd : (sc.map fun x => x.2.2).Nodup
 st : MSt p cf u n wr
 me : MeR p cf.allowed n (d + 1) m ve wr
 kv : KV p ve ve w wr
 sg : Bx wr w.heap.size sg 114
 row : RowA wr args va
section
variable {p : Pt} {cf : Cf} {u : UT} {n d : Nat} {m : MS} {ve : EvS} {args : List Int} {va : Value} {w : World} {sg : Array Value} {ps : List PW} {sct : Scope} {j : Nat} {sc : BSc} {wr wr' : World}
theorem F88.below (h : F88 p cf u n d m ve args va w sg ps sct j sc wr) (hb : Below wr.heap.size wr wr') : F88 p cf u n d m ve args va w sg ps sct j sc wr' :=
 ⟨h.ad, h.par, h.mp.mono hb, fun y hy => ⟨(h.boxes y hy).1.on (grown_of_below hb) (by simp), (h.boxes y hy).2⟩, h.nd, h.st.move h.me (Kpt.of hb) h.me.size, h.me.below hb, h.kv.below hb, h.sg.on (grown_of_below hb) (by simp), h.row.below hb⟩
theorem F88.give (h : F88 p cf u n d m ve args va w sg ps sct j sc wr) (hn : n ≤ w.heap.size) (hj : j < ps.length) (hj2 : j < args.length) {w1 w2 : World} (h1 : w1 = wr.alloc (.cells #[.int .u32 args[j], .int .u8 ps[j].2] 201)) (hg : w1.grownBy w2 (some (w.heap.size + 1))) (hp : Mp w2 (w.heap.size + 1) (putM ps[j].1 (.pointer (some ⟨wr.heap.size, 0, none⟩)) (entF sc))) :
  F88 p cf u n d m ve args va w sg ps sct (j + 1) (sc ++ [(ps[j].1, ((ps[j].2, args[j]), wr.heap.size))]) w2 := by
 have b1 : Below wr.heap.size wr w1 := by rw [h1]; exact (Below.refl _ wr).alloc (Nat.le_refl _) _
 have H := h.below b1
 have had := h.ad
 rw [List.drop_eq_getElem_cons hj] at had
 simp only [addPars] at had
 split at had
 ·cases had
 ·rename_i hcnd
  have hgt : getM ps[j].1 (sc.map fun x => (x.1, x.2.1.1)) = none := by
   cases hq : getM ps[j].1 (sc.map fun x => (x.1, x.2.1.1)) with
   | none => rfl
   | some t => rw [hq] at hcnd; simp at hcnd
  have hgn : getM ps[j].1 sc = none := by
   rw [getM_map (fun x : (Int × Int) × Nat => x.1.1)] at hgt
   exact Option.map_eq_none_iff.1 hgt
  have hpl : ∀ x, putM ps[j].1 x sc = sc ++ [(ps[j].1, x)] := fun x => lookI_none _ x sc (by unfold getM at hgn; simpa using hgn)
  have hsg : w.heap.size < wr.heap.size := h.sg.lt
  have hmp := H.mp
  obtain ⟨es, c, hme, -⟩ := hmp
  have asd : Aside w1 (w.heap.size + 1) := .inr ⟨es, c, hme⟩
  have bx : ∀ {q : Nat} {cs : Array Value} {t : TypeId}, Bx w1 q cs t → Bx w2 q cs t := fun {q cs t} hb => hb.on hg (by
   intro e
   cases e
   unfold Bx at hb
   rw [hme] at hb
   cases hb)
  refine ⟨?_, ?_, ?_, ?_, ?_, H.st.move H.me (k := n) (Kpt.gr hg H.me.size fun k e => by cases e; exact .inr (by omega)) (Nat.le_refl _), H.me.aside asd hg, ⟨H.kv.k.trans (Kpt.gr hg H.kv.size fun k e => by cases e; exact .inr (by omega)), H.kv.v⟩, bx H.sg, H.row.on hg ⟨es, c, hme⟩⟩
  ·rw [← had, List.map_append]
   congr 1
   have := putM_map (fun x : (Int × Int) × Nat => x.1.1) ps[j].1 ((ps[j].2, args[j]), wr.heap.size) sc
   rw [hpl] at this
   rw [this, List.map_append]
  ·rw [← h.par, List.drop_eq_getElem_cons hj, List.drop_eq_getElem_cons hj2]
   simp only [parSc]
   congr 1
   have := putM_map (fun x : (Int × Int) × Nat => x.1) ps[j].1 ((ps[j].2, args[j]), wr.heap.size) sc
   rw [hpl] at this
   exact this.symm
  ·have := putM_map (fun y : (Int × Int) × Nat => ptrv y) ps[j].1 ((ps[j].2, args[j]), wr.heap.size) sc
   rw [hpl] at this
   rw [show entF (sc ++ [(ps[j].1, ((ps[j].2, args[j]), wr.heap.size))]) = putM ps[j].1 (ptrv ((ps[j].2, args[j]), wr.heap.size)) (entF sc) from this.symm]
   exact hp
  ·intro y hy
   rcases List.mem_append.1 hy with q | q
   ·exact ⟨bx (H.boxes y q).1, (H.boxes y q).2⟩
   ·simp at q
    subst q
    exact ⟨bx (by rw [h1]; exact Bx.new wr _ _), by show w.heap.size ≤ wr.heap.size; omega⟩
  ·rw [List.map_append, List.nodup_append]
   refine ⟨h.nd, by simp, fun a ha b hb => ?_⟩
   obtain ⟨y, hy, rfl⟩ := List.mem_map.1 ha
   simp at hb
   subst hb
   have := (h.boxes y hy).1.lt
   omega
end
set_option maxHeartbeats 64000000 in
theorem function88 (p : Pt) (cf : Cf) (u : UT) (n : Nat) (shp : List Nat) (k : Nat) (hOk : cf.Ok) (hRg : cf.Rg) (hbz : ∀ f ∈ cf.fs, f.body.sz ≤ 99999980) (hfew : ∀ s g, getM s cf.cs = some g → g.params.length ≤ 100000000 ∧ (g.host < 0 → 0 ≤ g.fn)) (HL : Hid (WLi p cf u n shp k)) : WFn p cf u n shp (k + 1) := by
 intro d m ve s q args va pa pc w hq hqh hal hau hrow hsp hst hme hpos hinv hrg hnl
 obtain ⟨R, hR⟩ : ∃ z, z = PostM p cf.allowed n d w.heap.size ve (fun x => Ending.returned (.int .u32 x)) ((evl cf (k + 1)).F d q args m) w := ⟨_, rfl⟩
 rw [← hR]
 have HR := hid hR
 clear hR
 obtain ⟨ps, qt, qh, qf⟩ := q
 simp only [] at hqh hal hsp ⊢
 have hh := hid (show (evl cf (k + 1)).F d ⟨ps, qt, qh, qf⟩ args m = if 16 ≤ d then .stop 5 0 m else match cf.fs[qf.toNat]? with
  | none => .lost
  | some f => ((evl cf k).L (d + 1) [parSc ps args []] f.body m).bind fun r m => .ok r.2.1 m from rfl)
 have HNL := hid hnl
 obtain ⟨en, vx, fa, hbM⟩ := hme.box
 have m9 : w.cell? ⟨p.M, 9, none⟩ = some (.int .i64 d) := by simpa using hbM.cell 9
 have hB0 := (Below.refl w.heap.size w).alloc (Nat.le_refl _) (.cells #[.slice pa ps.length pc, .int .u8 qt, .int .i64 qh, .int .i64 qf] 114)
 have m9b : (w.alloc (.cells #[.slice pa ps.length pc, .int .u8 qt, .int .i64 qh, .int .i64 qf] 114)).cell? ⟨p.M, 9, none⟩ = some (.int .i64 d) := cell_on m9 hB0
 by_cases hd : 16 ≤ d
 ·have hg := hid (show (evl cf (k + 1)).F d ⟨ps, qt, qh, qf⟩ args m = .stop 5 0 m from hh.out.trans (if_pos hd))
  have F1 : Hid (PostM p cf.allowed n d w.heap.size ve (fun x => .returned (.int .u32 x)) (.stop 5 0 m) w (endE 5 0) (w.alloc (.cells #[.slice pa ps.length pc, .int .u8 qt, .int .i64 qh, .int .i64 qf] 114))) := hid (fin_stop (hme.below hB0) (KV.of p ve hB0) rfl)
  have hdi : (d : Int) ≥ 16 := by omega
  clear hfew hq hqh hal hau hrow hsp hst hme hpos hinv hrg hnl hh hOk hRg hbz hbM hB0 HL hd
  go_enter Tryz.func88, Tryz.ntmps88
  go_wp2_with fail
  refine bp_panic ?_
  rw [HR.out, hg.out]
  exact F1.out
 obtain ⟨f, hf1, hf2⟩ := (hOk.call s _ hq).1 hqh
 simp only [] at hf1 hf2
 have hfm := List.mem_of_getElem? hf1
 obtain ⟨hbo, sct, cbd, had, hcb⟩ := hOk.fn f hfm
 rw [hf2] at had
 have hg := hid (show (evl cf (k + 1)).F d ⟨ps, qt, qh, qf⟩ args m = ((evl cf k).L (d + 1) [parSc ps args []] f.body m).bind fun r m => .ok r.2.1 m from hh.out.trans ((if_neg hd).trans (by rw [hf1])))
 have hnlL := hid (show (evl cf k).L (d + 1) [parSc ps args []] f.body m ≠ .lost from Out.of_bind (by rw [← hg.out]; exact hnl))
 have hdi : ¬ ((d : Int) ≥ 16) := by omega
 have hw9 : IntKind.i64.wrap ((d : Int) + 1) = ((d + 1 : Nat) : Int) := by rw [IntWalk.i64_in _ (by omega)]; omega
 have f9 : w.frozen? ⟨p.M, 9, none⟩ = false := hbM.free 9
 have hMlt := hbM.lt
 have hgM := grown_setCell w ⟨p.M, 9, none⟩ (.int .i64 ((d : Int) + 1))
 have hsz1 : (w.setCell ⟨p.M, 9, none⟩ (.int .i64 ((d : Int) + 1))).heap.size = w.heap.size := by simp [World.setCell]
 have hb1 := (Below.refl (w.setCell ⟨p.M, 9, none⟩ (.int .i64 ((d : Int) + 1))).heap.size (w.setCell ⟨p.M, 9, none⟩ (.int .i64 ((d : Int) + 1)))).alloc (Nat.le_refl _) (.cells #[.slice pa ps.length pc, .int .u8 qt, .int .i64 qh, .int .i64 qf] 114)
 have hx1 := Bx.new (w.setCell ⟨p.M, 9, none⟩ (.int .i64 ((d : Int) + 1))) #[.slice pa ps.length pc, .int .u8 qt, .int .i64 qh, .int .i64 qf] 114
 rw [hsz1] at hx1
 obtain ⟨w2, hw2⟩ : ∃ x : World, x = ((w.setCell ⟨p.M, 9, none⟩ (.int .i64 ((d : Int) + 1))).alloc (.cells #[.slice pa ps.length pc, .int .u8 qt, .int .i64 qh, .int .i64 qf] 114)).alloc (.map #[] 0) := ⟨_, rfl⟩
 have hsz2 : ((w.setCell ⟨p.M, 9, none⟩ (.int .i64 ((d : Int) + 1))).alloc (.cells #[.slice pa ps.length pc, .int .u8 qt, .int .i64 qh, .int .i64 qf] 114)).heap.size = w.heap.size + 1 := by simp [World.setCell]
 have hmm : (Instr.makeMap 210 none).run Tryz.prog ((w.setCell ⟨p.M, 9, none⟩ (.int .i64 ((d : Int) + 1))).alloc (.cells #[.slice pa ps.length pc, .int .u8 qt, .int .i64 qh, .int .i64 qf] 114)) = .ok (.map (some (w.heap.size + 1))) w2 := by rw [hw2, ← hsz2]; exact run_makeMap 210 _
 have hb2 : Below ((w.setCell ⟨p.M, 9, none⟩ (.int .i64 ((d : Int) + 1))).alloc (.cells #[.slice pa ps.length pc, .int .u8 qt, .int .i64 qh, .int .i64 qf] 114)).heap.size ((w.setCell ⟨p.M, 9, none⟩ (.int .i64 ((d : Int) + 1))).alloc (.cells #[.slice pa ps.length pc, .int .u8 qt, .int .i64 qh, .int .i64 qf] 114)) w2 := by rw [hw2]; exact (Below.refl _ _).alloc (Nat.le_refl _) _
 have hme2 := ((hme.turn2 (steps := m.steps) (reps := m.reps) (d' := d + 1) hgM ⟨en, vx, fa, by
  have h := hbM.set 9 (.int .i64 ((d : Int) + 1))
  rw [show ((d : Int) + 1) = ((d + 1 : Nat) : Int) by omega] at h ⊢
  simpa using h⟩).below hb1).below hb2
 have hkv := (((KV.refl p ve w).trans (⟨Kpt.gr hgM (Nat.le_refl _) fun k e => by cases e; exact .inl (.inl (.inl rfl)), Vc.refl _ _⟩ : KV p ve ve w (w.setCell ⟨p.M, 9, none⟩ (.int .i64 ((d : Int) + 1))))).below hb1).below hb2
 have hst2 := hst.move hme hkv.k hme.size
 have hwn := hme.size
 have hbxS := hx1.on (grown_of_below hb2) (by simp)
 have hrow2 := ((hrow.set (q := p.M) (j := 9) (x := (d : Int) + 1) m9).below hb1).below hb2
 have hmp2 : Mp w2 (w.heap.size + 1) (entF []) := by have := Mp.new ((w.setCell ⟨p.M, 9, none⟩ (.int .i64 ((d : Int) + 1))).alloc (.cells #[.slice pa ps.length pc, .int .u8 qt, .int .i64 qh, .int .i64 qf] 114)); rw [hsz2, ← hw2] at this; exact this
 have hF0 := hid (show F88 p cf u n d m ve args va w #[.slice pa ps.length pc, .int .u8 qt, .int .i64 qh, .int .i64 qf] ps sct 0 [] w2 from ⟨had, rfl, hmp2, fun y hy => by simp at hy, by simp, hst2, hme2, hkv, hbxS, hrow2⟩)
 have OLD := hid (show ∀ wr, KV p ve ve w wr → Cells (onlyW w (oldB p.B)) (onlyW wr (oldB p.B)) from fun wr hk => hk.k.cells fun b hb => ⟨by have := hst.Bn; simp at hb; omega, hme.old hst.M hst.Bn (by simpa using hb)⟩)
 obtain ⟨ka2, kb2, koff2, kcap2, hv2, hka2, hps⟩ := hsp
 cases hv2
 have HPS := hid hps
 have FB := hid (And.intro hf1 (And.intro hbo hcb))
 have HWN := hid hwn
 have HAL := hid hal
 have HAU := hid hau
 have HPOS := hid hpos
 have HINV := hid hinv
 have HRG := hid hrg
 have HBZ := hid (hbz f hfm)
 have HBW := hid (hRg.body f hfm)
 have HF2 := hid hf2
 have UN := hid (And.intro hst.unit (And.intro hst.fs (And.intro hst.M hst.Bn)))
 have MLT := hid hme.mlt
 obtain ⟨aa, ab, ao, ac, rfl, haa, -⟩ := hrow
 obtain ⟨len, hlen⟩ : ∃ z, z = ps.length := ⟨_, rfl⟩
 have hall : args.length = len := by omega
 have HLEN := hid hlen
 have hplen : len ≤ 100000000 := by have := (hfew s _ hq).1; simp only [] at this; omega
 have QF := hid ((hfew s _ hq).2 hqh)
 have HBO := hid trivial
 clear hfew hq hqh hal hau hst hme hpos hinv hrg hnl hh hOk hRg hbz hbM hB0 hd hf1 hf2 hfm hbo had hcb hgM hb1 hx1 hsz1 hb2 hme2 hkv hst2 hsz2 hwn hbxS hrow2 hmp2 hps hw2
 rw [hall] at hF0 haa ⊢
 rw [← hlen] at hF0 hka2 hmm ⊢
 clear hlen
 have HALL := hid hall
 clear hall
 have s0 : w2.cell? ⟨w.heap.size, 0, none⟩ = some (.slice pa len pc) := by simpa using hF0.out.sg.cell 0
 go_enter Tryz.func88, Tryz.ntmps88
 go_wp2_with fail
 go_loopw [31] (fun i wr => ∃ (j : Nat) (sc : BSc), j ≤ len ∧ i = .int .i64 j ∧ F88 p cf u n d m ve args (.slice aa len ac) w #[.slice pa len pc, .int .u8 qt, .int .i64 qh, .int .i64 qf] ps sct j sc wr) (fun i _ => len - (intOf i).toNat)
 case atStart => exact ⟨0, [], Nat.zero_le _, rfl, hF0.out⟩
 case round =>
  clear hF0 s0
  obtain ⟨j, sc, hj, rfl, hF⟩ := hrel
  have HF := hid hF
  by_cases hjl : j < len
  ·have hji : (j : Int) < (len : Int) := by omega
   have hpa : pa = some ⟨kb2, koff2, none⟩ := by rcases hka2 with q | q; (· omega); (· exact q)
   subst hpa
   have hjp : j < ps.length := by have := HLEN.out; omega
   have hja : j < args.length := by have := HALL.out; omega
   have hcl := OLD.out wr hF.kv
   obtain ⟨q1, q2⟩ := HPS.out j hjp
   have y0 := cells_only _ _ _ _ (hcl _ _ q1)
   have y1 := cells_only _ _ _ _ (hcl _ _ q2)
   obtain ⟨aa2, ab2, ao2, ac2, hv3, ha3, ha4⟩ := hF.row
   have hlen3 : args.length = len := HALL.out
   obtain ⟨rfl, rfl⟩ : aa = aa2 ∧ ac = ac2 := by rw [hlen3] at hv3; simpa using hv3
   have haa2 : aa = some ⟨ab2, ao2, none⟩ := by rcases ha3 with q | q; (· omega); (· exact q)
   subst haa2
   have ya := ha4 j hja
   have HJP := hid hjp
   have HJA := hid hja
   have GIVE := hid (fun (wb : World) (h : F88 p cf u n d m ve args (.slice (some ⟨ab2, ao2, none⟩) len ac) w #[.slice (some ⟨kb2, koff2, none⟩) len pc, .int .u8 qt, .int .i64 qh, .int .i64 qf] ps sct j sc wb) (w1 w2 : World) (h1 : w1 = wb.alloc (.cells #[.int .u32 (args[j]'HJA.out), .int .u8 (ps[j]'HJP.out).2] 201)) (hg : w1.grownBy w2 (some (w.heap.size + 1))) (hp : Mp w2 (w.heap.size + 1) (putM (ps[j]'HJP.out).1 (.pointer (some ⟨wb.heap.size, 0, none⟩)) (entF sc))) => h.give HWN.out HJP.out HJA.out h1 hg hp)
   have e1 : args[j]'hja = args[j]'HJA.out := rfl
   generalize hav : args[j]'HJA.out = av at GIVE ya e1
   have e2 : ps[j]'hjp = ps[j]'HJP.out := rfl
   simp only [e2] at y0 y1
   generalize hpv : ps[j]'HJP.out = pv at GIVE y0 y1 e2
   obtain ⟨nm, pt⟩ := pv
   simp only [] at y0 y1 GIVE
   skip
   have y0b := y0
   have hB46 := (Below.refl wr.heap.size wr).alloc (Nat.le_refl _) (.cells #[.string nm, .int .u8 pt] 46)
   have FA := hid (hF.below hB46)
   have b46 := hid (Bx.new wr #[.string nm, .int .u8 pt] 46)
   have yab := cell_on ya hB46
   have YA := hid yab
   clear hF hcl q1 q2 hv3 ha3 ha4 hB46 yab e1 e2 hav hpv hjp hja hlen3
   go_wp2_with fail
   generalize wr.alloc (.cells #[.string nm, .int .u8 pt] 46) = wa at FA b46 YA ⊢
   have nmp := FA.out.mp
   have n46 : wr.heap.size ≠ w.heap.size + 1 := fun e => b46.out.not_map nmp e.symm
   have nya : ab2 ≠ w.heap.size + 1 := fun e => by
    obtain ⟨es, c9, hm, -⟩ := nmp
    have h := YA.out
    rw [e] at h
    simp [World.cell?, hm] at h
   have G0 := hid (show ∀ w9, (Kpt (fun b => b = w.heap.size + 1) wa.heap.size wa) w9 → w9.cell? ⟨wr.heap.size, 0, none⟩ = some (.string nm) from fun w9 hk => hk.at (by simpa using b46.out.cell 0) n46)
   have G1 := hid (show ∀ w9, (Kpt (fun b => b = w.heap.size + 1) wa.heap.size wa) w9 → w9.cell? ⟨wr.heap.size, 1, none⟩ = some (.int .u8 pt) from fun w9 hk => hk.at (by simpa using b46.out.cell 1) n46)
   have G2 := hid (show ∀ w9, (Kpt (fun b => b = w.heap.size + 1) wa.heap.size wa) w9 → w9.cell? ⟨ab2, ao2 + j, none⟩ = some (.int .u32 av) from fun w9 hk => hk.at YA.out nya)
   clear nmp n46 nya y0 y1 ya y0b
   refine wp_region_held_drew (S := (Kpt (fun b => b = w.heap.size + 1) wa.heap.size wa)) (by kernel_rfl) (Kpt.of (Below.refl _ _).drew) (fun hHeld => ?_)
   have FB9 := hid (FA.out.below (Below.refl wa.heap.size wa).drew)
   have K3 := hid hHeld
   generalize wa.drew = wb at FB9 K3 hHeld ⊢
   refine tk 0 ?_ (hy := ?_) (h := ?_)
   rotate_left
   ·intro w' hSw; go_simp; (try with_reducible rfl)
   try simp only [tpa, tpb, tpc, tpd, tpe]
   refine tk 1 ?_ (hy := ?_) (h := ?_)
   rotate_left
   ·intro w' hSw; go_simp; (try with_reducible rfl)
   try simp only [tpa, tpb, tpc, tpd, tpe]
   refine tk 2 ?_ (hy := ?_) (h := ?_)
   rotate_left
   ·intro w' hSw; have q := G0.out w' hSw; go_simp; (try with_reducible rfl)
   try simp only [tpa, tpb, tpc, tpd, tpe]
   refine tk 3 ?_ (hy := ?_) (h := ?_)
   rotate_left
   ·intro w' hSw; go_simp; (try with_reducible rfl)
   try simp only [tpa, tpb, tpc, tpd, tpe]
   refine tk 4 ?_ (hy := ?_) (h := ?_)
   rotate_left
   ·intro w' hSw; go_simp; (try with_reducible rfl)
   try simp only [tpa, tpb, tpc, tpd, tpe]
   refine tk 5 ?_ (hy := ?_) (h := ?_)
   rotate_left
   ·intro w' hSw; go_simp; (try with_reducible rfl)
   try simp only [tpa, tpb, tpc, tpd, tpe]
   refine tk 6 ?_ (hy := ?_) (h := ?_)
   rotate_left
   ·intro w' hSw; have q := G2.out w' hSw; go_simp; (try with_reducible rfl)
   try simp only [tpa, tpb, tpc, tpd, tpe]
   refine tk 7 ?_ (hy := ?_) (h := ?_)
   rotate_left
   ·intro w' hSw; go_simp; (try with_reducible rfl)
   try simp only [tpa, tpb, tpc, tpd, tpe]
   refine tk 8 ?_ (hy := ?_) (h := ?_)
   rotate_left
   ·intro w' hSw; have q := G1.out w' hSw; go_simp; (try with_reducible rfl)
   try simp only [tpa, tpb, tpc, tpd, tpe]
   refine tk 9 ?_ (hy := ?_) (h := ?_)
   rotate_left
   ·intro w' hSw; go_simp; (try with_reducible rfl)
   try simp only [tpa, tpb, tpc, tpd, tpe]
   refine tr 10 (h := fun K hK => ?_)
   go_simp
   have hk4 : (Kpt (fun b => b = w.heap.size + 1) wa.heap.size wa) (wb.alloc (.cells #[.int .u32 av, .int .u8 pt] 201)) := K3.out.trans (Kpt.of (((Below.refl wb.heap.size wb).alloc (Nat.le_refl _) _).mono K3.out.size))
   have K4 := hid hk4
   have M4 := hid (FB9.out.mp.al (.cells #[.int .u32 av, .int .u8 pt] 201))
   refine hK.out _ _ hk4 (fun hHeld => ?_)
   clear hK K
   try simp only [tpa, tpb, tpc, tpd, tpe]
   clear hk4
   obtain ⟨w5, hrun, hg5, hsz5, hmp5⟩ := M4.out.update under210 under9 nm (.pointer (some ⟨wb.heap.size, 0, none⟩))
   have F5 := hid (GIVE.out wb FB9.out _ w5 rfl hg5 hmp5)
   have hk5 : (Kpt (fun b => b = w.heap.size + 1) wa.heap.size wa) w5 := K4.out.trans (Kpt.gr hg5 K4.out.size fun k e => by cases e; exact .inl rfl)
   clear hg5 hsz5 hmp5
   refine tr 11 (h := fun K hK => ?_)
   go_simp
   refine hK.out _ _ hk5 (fun hHeld => ?_)
   clear hK K
   try simp only [tpa, tpb, tpc, tpd, tpe]
   clear hk5
   refine wpAnyH_done (by kernel_rfl) ?_ _
   clear hrun
   go_wp2_with fail
   exact ⟨⟨j + 1, _, by omega, by go_num, F5.out⟩, by simp only [intOf]; omega⟩
  ·obtain rfl : j = len := by omega
   have hsct := hF.ad
   have hpar := hF.par
   rw [HLEN.out, List.drop_length] at hsct
   simp only [addPars, Except.ok.injEq] at hsct
   have hpar2 : bareSc sc = parSc ps args [] := by
    rw [← hpar, HLEN.out, List.drop_length]
    rfl
   have hB210 := (Below.refl wr.heap.size wr).alloc (Nat.le_refl _) (.cells #[.map (some (w.heap.size + 1))] 210)
   have hB213 := (Below.refl (wr.alloc (.cells #[.map (some (w.heap.size + 1))] 210)).heap.size (wr.alloc (.cells #[.map (some (w.heap.size + 1))] 210))).alloc (Nat.le_refl _) (.cells #[.slice (some ⟨wr.heap.size, 0, none⟩) 1 1] 213)
   have FA := hid ((hF.below hB210).below hB213)
   have bg := (Bx.new wr #[.map (some (w.heap.size + 1))] 210).on (grown_of_below hB213) (by simp)
   have bF := Bx.new (wr.alloc (.cells #[.map (some (w.heap.size + 1))] 210)) #[.slice (some ⟨wr.heap.size, 0, none⟩) 1 1] 213
   have hszr : (wr.alloc (.cells #[.map (some (w.heap.size + 1))] 210)).heap.size = wr.heap.size + 1 := by simp
   rw [hszr] at bF
   have BG := hid bg
   have BF := hid bF
   have HSC := hid hsct
   have HPR := hid hpar2
   have WW := hid hF.sg.lt
   have hjn : ¬ ((j : Int) < (j : Int)) := by omega
   clear hF hsct hpar hpar2 hB210 hB213 bg bF hszr hjl
   go_wp2_with fail
   generalize (wr.alloc (.cells #[.map (some (w.heap.size + 1))] 210)).alloc (.cells #[.slice (some ⟨wr.heap.size, 0, none⟩) 1 1] 213) = w3 at FA BG BF ⊢
   have hfr : FrR w3 n (wr.heap.size + 1) [sc] wr.heap.size 1 [w.heap.size + 1] := by
    have h1 := HWN.out
    have h2 := WW.out
    refine ⟨by simpa using BF.out, own_box (n := 1) BG.out (by omega) rfl (by omega), rfl, ?_, ?_, by simp, by simpa using FA.out.nd, ⟨?_, ?_, by omega⟩, by simp⟩
    ·intro i q1 q2
     have hi : i = 0 := by simpa using q1
     subst hi
     exact FA.out.mp
    ·intro s9 hs y hy
     simp only [List.mem_singleton] at hs
     subst hs
     exact (FA.out.boxes y hy).1
    ·intro q hq
     simp only [List.mem_singleton] at hq
     subst hq
     omega
    ·intro s9 hs y hy
     simp only [List.mem_singleton] at hs
     subst hs
     exact Nat.le_trans HWN.out (FA.out.boxes y hy).2
   have hrgF : Fr.Rg (bareF [sc]) := by
    intro s9 hs x hx
    have hs2 : s9 = bareSc sc := by simpa [bareF] using hs
    subst hs2
    rw [HPR.out] at hx
    have par : ∀ (ps : List PW) (l : List Int) (sc : LSc), (∀ x ∈ l, U x) → (∀ x ∈ sc, U x.2.2) → ∀ x ∈ parSc ps l sc, U x.2.2 := by
     intro ps
     induction ps with
     | nil => intro l sc _ h; cases l <;> exact h
     | cons p r ih =>
      intro l sc hl h
      cases l with
      | nil => exact h
      | cons a l =>
       refine ih l _ (fun x hx => hl x (by simp [hx])) (fun x hx => ?_)
       rcases putM_in _ _ _ _ hx with rfl | q
       ·exact hl a (by simp)
       ·exact h x q
    exact par ps args [] HAU.out (fun x hx => by simp at hx) x hx
   have X3 := hid (show CtX p cf u n shp (d + 1) m ve (wr.heap.size + 1) [sc] wr.heap.size 1 [w.heap.size + 1] w3 from ⟨⟨FA.out.st, FA.out.me, hfr, HPOS.out⟩, HINV.out, HRG.out, hrgF⟩)
   clear hfr hrgF
   have hbe : bareF [sc] = [parSc ps args []] := by simp only [bareF, List.map_cons, List.map_nil, HPR.out]
   have htys : tysF [sc] = [sct] := by simp only [tysF, List.map_cons, List.map_nil]; rw [← HSC.out]
   have HBE := hid hbe
   clear hbe
   obtain ⟨hun, hufs, hM9, hBn9⟩ := UN.out
   obtain ⟨vg9, vh9, vf9, hv9, -, -, hsf⟩ := hun
   cases hv9
   obtain ⟨fa9, fb9, fo9, fc9, hvf, hfa, hfi⟩ := SlR.open hsf
   obtain ⟨hf1, hbo, hcb⟩ := FB.out
   obtain ⟨fi, hfi2⟩ : ∃ fi : Nat, qf = fi := ⟨qf.toNat, by have := QF.out; omega⟩
   subst hfi2
   simp only [Int.toNat_natCast] at hf1
   rw [← hufs] at hf1
   obtain ⟨hfl, hfe⟩ := List.getElem?_eq_some_iff.1 hf1
   obtain ⟨bv, hb5, hbs⟩ := (hfi fi hfl).c5
   rw [hfe] at hbs
   obtain ⟨ba, bc, rfl⟩ := hbs.shape'
   have hfa2 : fa9 = some ⟨fb9, fo9, none⟩ := by rcases hfa with q | q; (· omega); (· exact q)
   subst hfa2
   have hcl := OLD.out w3 FA.out.kv
   have hb5b := cells_only _ _ _ _ (hcl _ _ hb5)
   have hnb : ¬ (p.TE ve fb9 ∨ FS (wr.heap.size + 1) wr.heap.size [w.heap.size + 1] [sc] fb9) := by
    have hlt : fb9 < p.B := only_lt hb5
    rintro (q | q)
    ·exact X3.out.c.me.old hM9 hBn9 hlt q
    ·have := (X3.out.c.fr.fs q).1
     omega
   obtain ⟨ul, hul⟩ : ∃ z, z = u.fs.length := ⟨_, rfl⟩
   rw [← hul] at hvf hfl
   have hnlL2 : (evl cf k).L (d + 1) (bareF [sc]) f.body m ≠ .lost := by rw [HBE.out]; exact hnlL.out
   have G5 := hid (show ∀ w9, Kpt (fun b => p.TE ve b ∨ FS (wr.heap.size + 1) wr.heap.size [w.heap.size + 1] [sc] b) w3.heap.size w3 w9 → w9.cell? ⟨p.X, 2, none⟩ = some (.slice (some ⟨fb9, fo9, none⟩) ul fc9) from fun w9 hk => by rw [← hvf]; simpa using (X3.out.boxKS hk X3.out.c.st.X (by decide) (by decide)).cell 2)
   have G6 := hid (show ∀ w9, Kpt (fun b => p.TE ve b ∨ FS (wr.heap.size + 1) wr.heap.size [w.heap.size + 1] [sc] b) w3.heap.size w3 w9 → w9.cell? ⟨w.heap.size, 3, none⟩ = some (.int .i64 fi) from fun w9 hk => by simpa using (X3.out.boxKS hk FA.out.sg (by decide) (by decide)).cell 3)
   have G7 := hid (show ∀ w9, Kpt (fun b => p.TE ve b ∨ FS (wr.heap.size + 1) wr.heap.size [w.heap.size + 1] [sc] b) w3.heap.size w3 w9 → w9.cell? ⟨fb9, fo9 + fi * 6 + 5, none⟩ = some (.slice ba f.body.len bc) from fun w9 hk => hk.at hb5b hnb)
   have cx := hid (HL.out (d + 1) m ve (wr.heap.size + 1) [sc] wr.heap.size 1 [w.heap.size + 1] f.body (.slice ba f.body.len bc) f.type 0 cbd w3.drew hbo HBW.out (by rw [htys]; exact hcb) ((hbs.sub hcl).sub (cells_old_below (Below.refl _ _).drew)) (by have := HBZ.out; simp; omega) (X3.out.below (Below.refl _ _).drew) hnlL2)
   have K3 := hid (KV.of p ve (Below.refl w3.heap.size w3).drew)
   have V3 := hid FA.out.kv
   have b0M := cell_on X3.out.c.b0 (Below.refl w3.heap.size w3).drew
   have hfli : (fi : Int) < (ul : Int) := by omega
   clear hsf hfi hbo hcb hf1 hfe hb5 hbs hcl hb5b hnb hul hvf htys hfa
   refine wp_region_held_drew (S := (fun w9 => Kpt (fun b => p.TE ve b ∨ FS (wr.heap.size + 1) wr.heap.size [w.heap.size + 1] [sc] b) w3.heap.size w3 w9 ∧ w9.cell? ⟨p.M, 0, none⟩ = some (.pointer (some ⟨p.X, 0, none⟩)))) (by kernel_rfl) ⟨Kpt.of (Below.refl _ _).drew, b0M⟩ (fun hHeld => ?_)
   refine tk 0 ?_ (hy := ?_) (h := ?_)
   rotate_left
   ·intro w' hSw; go_simp; (try with_reducible rfl)
   try simp only [tpa, tpb, tpc, tpd, tpe]
   refine tk 1 ?_ (hy := ?_) (h := ?_)
   rotate_left
   ·intro w' hSw; go_simp; (try with_reducible rfl)
   try simp only [tpa, tpb, tpc, tpd, tpe]
   refine tk 2 ?_ (hy := ?_) (h := ?_)
   rotate_left
   ·intro w' hSw; go_simp; (try with_reducible rfl)
   try simp only [tpa, tpb, tpc, tpd, tpe]
   refine tk 3 ?_ (hy := ?_) (h := ?_)
   rotate_left
   ·intro w' hSw; go_simp; (try with_reducible rfl)
   try simp only [tpa, tpb, tpc, tpd, tpe]
   refine tk 4 ?_ (hy := ?_) (h := ?_)
   rotate_left
   ·intro w' hSw; go_simp; (try with_reducible rfl)
   try simp only [tpa, tpb, tpc, tpd, tpe]
   refine tk 5 ?_ (hy := ?_) (h := ?_)
   rotate_left
   ·intro w' hSw; have q := hSw.2; go_simp; (try with_reducible rfl)
   try simp only [tpa, tpb, tpc, tpd, tpe]
   refine tk 6 ?_ (hy := ?_) (h := ?_)
   rotate_left
   ·intro w' hSw; go_simp; (try with_reducible rfl)
   try simp only [tpa, tpb, tpc, tpd, tpe]
   refine tk 7 ?_ (hy := ?_) (h := ?_)
   rotate_left
   ·intro w' hSw; go_simp; (try with_reducible rfl)
   try simp only [tpa, tpb, tpc, tpd, tpe]
   refine tk 8 ?_ (hy := ?_) (h := ?_)
   rotate_left
   ·intro w' hSw; go_simp; (try with_reducible rfl)
   try simp only [tpa, tpb, tpc, tpd, tpe]
   refine tk 9 ?_ (hy := ?_) (h := ?_)
   rotate_left
   ·intro w' hSw; have q := G5.out w' hSw.1; go_simp; (try with_reducible rfl)
   try simp only [tpa, tpb, tpc, tpd, tpe]
   refine tk 10 ?_ (hy := ?_) (h := ?_)
   rotate_left
   ·intro w' hSw; go_simp; (try with_reducible rfl)
   try simp only [tpa, tpb, tpc, tpd, tpe]
   refine tk 11 ?_ (hy := ?_) (h := ?_)
   rotate_left
   ·intro w' hSw; have q := G6.out w' hSw.1; go_simp; (try with_reducible rfl)
   try simp only [tpa, tpb, tpc, tpd, tpe]
   refine tk 12 ?_ (hy := ?_) (h := ?_)
   rotate_left
   ·intro w' hSw; go_simp; (try with_reducible rfl)
   try simp only [tpa, tpb, tpc, tpd, tpe]
   refine tk 13 ?_ (hy := ?_) (h := ?_)
   rotate_left
   ·intro w' hSw; go_simp; (try with_reducible rfl)
   try simp only [tpa, tpb, tpc, tpd, tpe]
   refine tk 14 ?_ (hy := ?_) (h := ?_)
   rotate_left
   ·intro w' hSw; have q := G7.out w' hSw.1; go_simp; (try with_reducible rfl)
   try simp only [tpa, tpb, tpc, tpd, tpe]
   refine tr 15 (h := fun K hK => ?_)
   go_simp
   go_at_call 123
   refine cx.out.mono ?_
   intro e9 w4 hp
   clear cx
   have LIFT := hid (show ∀ (ve4 : EvS) (new : Nat → Prop), KS p ve ve4 (FS (wr.heap.size + 1) wr.heap.size [w.heap.size + 1] [sc]) new w3.drew w4 → KV p ve ve4 w w4 from fun ve4 new hk => by
    have h := (KV.trans V3.out K3.out)
    refine ⟨h.k.trans (hk.k.mono h.size fun b hb q => q.elim id fun q => ?_), h.v.trans hk.v h.size⟩
    exfalso
    have h1 := WW.out
    rcases q with q | q | q | ⟨y, hy, q⟩
    ·omega
    ·omega
    ·simp at q
     omega
    ·have := (FA.out.boxes y (by simpa using hy)).2
     omega)
   cases ho : (evl cf k).L (d + 1) (bareF [sc]) f.body m with
   | lost => exact absurd ho hnlL2
   | stop a b9 m4 =>
    rw [ho] at hp
    obtain ⟨rfl, ve4, d4, hM4, hK4⟩ := hp
    have hz := hid (show (evl cf (k + 1)).F d ⟨ps, qt, qh, fi⟩ args m = .stop a b9 m4 by rw [hg.out, ← HBE.out, ho]; rfl)
    have F1 : Hid (PostM p cf.allowed n d w.heap.size ve (fun x => .returned (.int .u32 x)) (.stop a b9 m4) w (endE a b9) w4) := hid (fin_stop hM4 (LIFT.out _ _ hK4) rfl)
    clear hM4 hK4 ho hnlL2 hK hHeld
    go_wp2_with fail
    refine bp_panic ?_
    rw [HR.out, hz.out]
    exact F1.out
   | ok q m4 =>
    rw [ho] at hp
    obtain ⟨rfl, hU, ve4, fb4, g4, cap4, ms4, hb4, hX4, hK4⟩ := hp
    have hz := hid (show (evl cf (k + 1)).F d ⟨ps, qt, qh, fi⟩ args m = .ok q.2.1 m4 by rw [hg.out, ← HBE.out, ho]; rfl)
    obtain ⟨how, v4, fr4⟩ := q
    simp only [] at hU hz ⊢
    have k4 := hid (show (fun w9 => Kpt (fun b => p.TE ve b ∨ FS (wr.heap.size + 1) wr.heap.size [w.heap.size + 1] [sc] b) w3.heap.size w3 w9 ∧ w9.cell? ⟨p.M, 0, none⟩ = some (.pointer (some ⟨p.X, 0, none⟩))) w4 from ⟨((K3.out.ks _).trans hK4).k, hX4.c.b0⟩)
    have V4 := hid (LIFT.out _ _ hK4)
    obtain ⟨en4, vx4, fa4, hb4M⟩ := hX4.c.me.box
    have z9 : w4.cell? ⟨p.M, 9, none⟩ = some (.int .i64 (d + 1 : Nat)) := by simpa using hb4M.cell 9
    have f94 : w4.frozen? ⟨p.M, 9, none⟩ = false := hb4M.free 9
    have hgM4 := grown_setCell w4 ⟨p.M, 9, none⟩ (.int .i64 (d : Int))
    have M5 := hid (hX4.c.me.turn2 (steps := m4.steps) (reps := m4.reps) (d' := d) hgM4 ⟨en4, vx4, fa4, by simpa using hb4M.set 9 (.int .i64 (d : Int))⟩)
    have V5 := hid (V4.out.trans (⟨Kpt.gr hgM4 (Nat.le_refl _) fun k e => by cases e; exact .inl (.inl (.inl rfl)), Vc.refl _ _⟩ : KV p ve4 ve4 w4 (w4.setCell ⟨p.M, 9, none⟩ (.int .i64 (d : Int)))))
    have hwd : IntKind.i64.wrap (((d + 1 : Nat) : Int) - 1) = (d : Int) := by rw [IntWalk.i64_in _ (by omega)]; omega
    have hwd2 : IntKind.i64.wrap (d : Int) = (d : Int) := IntWalk.i64_in _ (by omega)
    clear hHeld hb4 hX4 hK4 ho hnlL2 hU hb4M hgM4 V4
    go_wp2_with fail
    refine hK.out _ _ k4.out (fun hHeld => ?_)
    clear hK K
    try simp only [tpa, tpb, tpc, tpd, tpe]
    refine tk 16 ?_ (hy := ?_) (h := ?_)
    rotate_left
    ·intro w' hSw; go_simp; (try with_reducible rfl)
    try simp only [tpa, tpb, tpc, tpd, tpe]
    refine tk 17 ?_ (hy := ?_) (h := ?_)
    rotate_left
    ·intro w' hSw; go_simp; (try with_reducible rfl)
    try simp only [tpa, tpb, tpc, tpd, tpe]
    refine tk 18 ?_ (hy := ?_) (h := ?_)
    rotate_left
    ·intro w' hSw; go_simp; (try with_reducible rfl)
    try simp only [tpa, tpb, tpc, tpd, tpe]
    refine tk 19 ?_ (hy := ?_) (h := ?_)
    rotate_left
    ·intro w' hSw; go_simp; (try with_reducible rfl)
    try simp only [tpa, tpb, tpc, tpd, tpe]
    refine tk 20 ?_ (hy := ?_) (h := ?_)
    rotate_left
    ·intro w' hSw; go_simp; (try with_reducible rfl)
    try simp only [tpa, tpb, tpc, tpd, tpe]
    refine wpAnyH_done (by kernel_rfl) ?_ _
    go_wp2_with fail
    rw [HR.out, hz.out]
    exact ⟨rfl, _, M5.out, V5.out.k, V5.out.v⟩
end
section
open Go.Shelf
structure CfOk (cf : Cf) : Prop where
 ok : cf.Ok
 rg : cf.Rg
 alu : cf.alu = aluV
 allowed : cf.allowed ≤ 65536
 size : ∀ f ∈ cf.fs, f.body.sz ≤ 16384
 few : ∀ s g, getM s cf.cs = some g → g.params.length ≤ 100000000 ∧ (g.host < 0 → 0 ≤ g.fn)
theorem all_walks (p : Pt) (cf : Cf) (u : UT) (n : Nat) (shp : List Nat) (h : CfOk cf) : ∀ k, ∀ j, j ≤ k → WEx p cf u n shp j ∧ WLi p cf u n shp j ∧ WWh p cf u n shp j ∧ WFn p cf u n shp j := by
 have z : WEx p cf u n shp 0 ∧ WLi p cf u n shp 0 ∧ WWh p cf u n shp 0 ∧ WFn p cf u n shp 0 := by
  refine ⟨?_, ?_, ?_, ?_⟩
  ·intro d m ve F fb g cap ms t h kids v ty w _ _ _ _ _ hnl
   exact absurd rfl hnl
  ·intro d m ve F fb g cap ms l v ret lp c' w _ _ _ _ _ _ hnl
   exact absurd rfl hnl
  ·intro d m ve F fb g cap ms t h x b vx vb vz a ty ret lp c' w _ _ _ _ _ _ _ _ _ _ _ _ hnl
   exact absurd rfl hnl
  ·intro d m ve s q args va pa pc w _ _ _ _ _ _ _ _ _ _ _ hnl
   exact absurd rfl hnl
 intro k
 induction k with
 | zero =>
  intro j hj
  obtain rfl : j = 0 := by omega
  exact z
 | succ k ih =>
  intro j hj
  by_cases hjk : j ≤ k
  ·exact ih j hjk
  obtain rfl : j = k + 1 := by omega
  obtain ⟨i1, i2, i3, i4⟩ := ih k (Nat.le_refl _)
  exact ⟨expr79 p cf u n shp k h.ok h.rg h.alu h.allowed (hid i1) (hid i4), list123 p cf u n shp k (hid (statement149 p cf u n shp k h.rg h.alu h.allowed (hid i1) (hid i2) (hid i3))),
   while182 p cf u n shp k h.rg h.allowed (hid fun j hj => (ih j hj).1) (hid fun j hj => (ih j hj).2.1), function88 p cf u n shp k h.ok h.rg (fun f hf => by have := h.size f hf; omega) h.few (hid i2)⟩
theorem fn_walk (p : Pt) (cf : Cf) (u : UT) (n : Nat) (shp : List Nat) (h : CfOk cf) (k : Nat) : WFn p cf u n shp k := (all_walks p cf u n shp h k k (Nat.le_refl _)).2.2.2
end
section
open Go.Shelf
/-- what an evaluation of a unit's call stands on -/
abbrev cfU (u : UT) (vs : VS) (cs : CSg) (allowed : Nat) (values : List Int) : Cf := ⟨vs, cs, plG u.gs 0 [], u.hs, u.fs, allowed, values, aluV⟩
theorem cfU_ok {u : UT} {vs : VS} {cs : CSg} (wf : u.Wf) (hs : senseU u = 0) (hg : gatU u = some (vs, cs)) {allowed : Nat} {values : List Int} (ha : allowed ≤ 65536) (hv : ∀ x ∈ values, U x) : CfOk (cfU u vs cs allowed values) := by
 obtain ⟨hc, vs2, cs2, hg2, hn, hf⟩ := sense_parts hs
 rw [hg] at hg2
 cases hg2
 obtain ⟨c1, c2, c3⟩ := chkU_parts hc
 obtain ⟨f1, f2, f3⟩ := fitsU_parts c1
 have hk := gatU_ok hg
 have few : ∀ s g, getM s cs = some g → g.params.length ≤ 15 := fun s g q => by
  by_cases hh : g.host < 0
  ·obtain ⟨_, f, h1, h2, _⟩ := (hk s g q).1 hh
   rw [← h2]
   exact (okFu_parts (f3 f (List.mem_of_getElem? h1))).1
  ·obtain ⟨x, h1, h2, _⟩ := (hk s g q).2 hh
   rw [← h2]
   exact okHo_few (f2 x (List.mem_of_getElem? h1))
 refine ⟨⟨fun s g q => ⟨fun hh => ?_, fun hh => ?_⟩, fun f q => ⟨(okFu_parts (f3 f q)).2, (chF_ok (chFs_at hf f q)).1⟩⟩, ⟨aluV_rg, hv, fun f q => (wf.f f q).2.2⟩, rfl, ha, fun f q => ?_, fun s g q => ⟨?_, fun hh => ((hk s g q).1 hh).1⟩⟩
 ·obtain ⟨_, f, h1, h2, _⟩ := (hk s g q).1 hh
  exact ⟨f, h1, h2⟩
 ·obtain ⟨x, h1, _⟩ := (hk s g q).2 hh
  exact ⟨x, h1⟩
 ·have q : f ∈ u.fs := q
  have h9 := sumU_mem q
  omega
 ·have := few s g q
  omega
end
end Go.Proofs.YtlabadkfkbenoaaGreatDoor
