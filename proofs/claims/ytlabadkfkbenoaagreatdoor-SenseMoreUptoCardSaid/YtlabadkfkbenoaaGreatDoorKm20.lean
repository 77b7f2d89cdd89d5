/- Walks and plain laws, merged: IntR IntO IntP. No condition. -/
import Derived.Test.YtlabadkfkbenoaaGreatDoorKm19
import Derived.Test.YtlabadkfkbenoaaGreatDoorKm01
import Derived.Test.YtlabadkfkbenoaaGreatDoorKm14
namespace Go.Proofs.YtlabadkfkbenoaaGreatDoor
open Go.RowKit
set_option linter.unusedVariables false
set_option linter.unusedSimpArgs false
set_option maxRecDepth 100000
set_option maxHeartbeats 64000000
section
open Go.Shelf
section
variable {p : Pt} {cf : Cf} {u : UT} {n : Nat} {shp : List Nat} {d : Nat} {m : MS} {ve : EvS} {F : Nat} {fb : List BSc} {g cap : Nat} {ms : List Nat} {w w' : World}
theorem CtX.asideG (hX : CtX p cf u n shp d m ve F fb g cap ms w) : Aside w g := by
 obtain ⟨cs, hb⟩ := row_block hX.c.fr.row rfl
 exact .inl ⟨cs, _, hb, by decide, by decide, by decide⟩
theorem CtX.asideF (hX : CtX p cf u n shp d m ve F fb g cap ms w) : Aside w F := .inl ⟨_, _, hX.c.fr.box, by decide, by decide, by decide⟩
theorem FrR.map_ne (h : FrR w n F fb g cap ms) {b : Nat} {l : List (ByteArray × Value)} (hm : Mp w b l) : b ≠ g ∧ b ≠ F := ⟨row_not_map h.row hm, h.box.not_map hm⟩
theorem FrR.box_ne (h : FrR w n F fb g cap ms) {y : ByteArray × ((Int × Int) × Nat)} (hy : y ∈ fb.flatten) : y.2.2 ≠ g ∧ y.2.2 ≠ F := ⟨fun e => row_not_box (h.flat hy).1 h.row (by decide) e.symm, (h.flat hy).1.ne_box h.box (by decide)⟩
theorem mem_flat {fb : List BSc} {sc : BSc} {y : ByteArray × ((Int × Int) × Nat)} (h1 : sc ∈ fb) (h2 : y ∈ sc) : y ∈ fb.flatten := List.mem_flatten.2 ⟨sc, h1, h2⟩
theorem CtX.push (hX : CtX p cf u n shp d m ve F fb g cap ms w) {w1 w2 : World} {v' : Value} (h1 : w1 = w.alloc (.map #[] 0))
  (hA : Appended w1 w2 n 210 1 (.slice (some ⟨g, 0, none⟩) fb.length cap) v' fb.length 1 (ms.map fun m => .map (some m)) [.map (some w.heap.size)]) (hle : fb.length + 1 ≤ 100000000) :
  ∃ g' cap', v' = .slice (some ⟨g', 0, none⟩) (fb.length + 1) cap' ∧ CtX p cf u n shp d m ve F (fb ++ [[]]) g' cap' (ms ++ [w.heap.size]) (w2.setCell ⟨F, 0, none⟩ v') ∧
   KS p ve ve (FS F g ms fb) (FS F g' (ms ++ [w.heap.size]) (fb ++ [[]])) w (w2.setCell ⟨F, 0, none⟩ v') := by
 obtain ⟨g', cap', rfl⟩ := ownsRow_succ' hA.own
 have b1 : Below w.heap.size w w1 := by rw [h1]; exact (Below.refl _ w).alloc (Nat.le_refl _) _
 have X1 := hX.below b1
 have f1 := X1.c.fr
 have f2 : FrR w2 n F fb g cap ms := ⟨f1.box.on hA.grown (f1.box.not_row f1.row (by decide)), hA.old, f1.len, fun i q1 q2 => (f1.maps i q1 q2).on hA.grown (by have := (f1.map_ne (f1.maps i q1 q2)).1; simpa [Value.ownBlock] using this),
  fun sc q1 y q2 => (f1.boxes sc q1 y q2).on hA.grown (by have := (f1.box_ne (mem_flat q1 q2)).1; simpa [Value.ownBlock] using this), f1.nd, f1.apart, f1.far, f1.le⟩
 have X2 := X1.aside X1.asideG (f1.row.lt _ rfl).1 hA.grown f2 hX.frg
 have hg := grown_setCell w2 ⟨F, 0, none⟩ (.slice (some ⟨g', 0, none⟩) (fb.length + 1) cap')
 have m1 : Mp w1 w.heap.size (entF []) := by rw [h1]; exact Mp.new w
 have m2 : Mp w2 w.heap.size (entF []) := m1.on hA.grown (by have := (f1.map_ne m1).1; simpa [Value.ownBlock] using this)
 have hfl : (fb ++ [[]]).flatten = fb.flatten := by simp
 have f3 : FrR (w2.setCell ⟨F, 0, none⟩ (.slice (some ⟨g', 0, none⟩) (fb.length + 1) cap')) n F (fb ++ [[]]) g' cap' (ms ++ [w.heap.size]) := by
  refine ⟨by simpa using f2.box.set 0 (.slice (some ⟨g', 0, none⟩) (fb.length + 1) cap'), ?_, by simp [f1.len], ?_, ?_, ?_, by rw [hfl]; exact f1.apart, ⟨?_, ?_, f1.far.2.2⟩, by simpa using hle⟩
  ·have := hA.own.kept hg (.inr (by have := f2.box.not_row hA.own (by decide); simpa [Value.ownBlock] using this.symm))
   simpa using this
  ·intro i q1 q2
   by_cases hi : i < fb.length
   ·have e1 : (ms ++ [w.heap.size])[i] = ms[i]'(by have := f1.len; omega) := List.getElem_append_left (by have := f1.len; omega)
    have e2 : (fb ++ [[]])[i] = fb[i] := List.getElem_append_left hi
    rw [e1, e2]
    have hm := f2.maps i (by have := f1.len; omega) hi
    exact hm.on hg (by have := (f2.map_ne hm).2; simpa using this)
   ·have hi2 : i = fb.length := by simp at q2; omega
    subst hi2
    have e1 : (ms ++ [w.heap.size])[fb.length] = w.heap.size := by rw [List.getElem_append_right (by have := f1.len; omega)]; simp
    have e2 : (fb ++ [[]])[fb.length] = [] := by rw [List.getElem_append_right (by omega)]; simp
    rw [e1, e2]
    exact m2.on hg (by have := (f2.map_ne m2).2; simpa using this)
  ·intro sc q1 y q2
   have hy : y ∈ fb.flatten := by rw [← hfl]; exact mem_flat q1 q2
   exact (f2.flat hy).1.on hg (by have := (f2.box_ne hy).2; simpa using this)
  ·rw [List.nodup_append]
   refine ⟨f1.nd, by simp, fun a ha b hb => ?_⟩
   obtain ⟨i, hi, rfl⟩ := List.getElem_of_mem ha
   have := (hX.c.fr.maps i hi (by have := f1.len; omega)).lt
   simp at hb
   omega
  ·intro q hq
   rcases List.mem_append.1 hq with hq | hq
   ·exact f1.far.1 q hq
   ·simp at hq
    rw [hq]
    exact hX.c.me.size
  ·intro sc q1 y q2
   exact (f1.flat (by rw [← hfl]; exact mem_flat q1 q2)).2
 have K : KS p ve ve (FS F g ms fb) (FS F g ms fb) w (w2.setCell ⟨F, 0, none⟩ (.slice (some ⟨g', 0, none⟩) (fb.length + 1) cap')) := (((KV.of p ve b1).ks _).trans (KS.one hA.grown (.inr (.inl rfl)) fun b hb => .inl hb)).trans (KS.one hg (.inl rfl) fun b hb => .inl hb)
 refine ⟨g', cap', rfl, X2.aside X2.asideF f2.far.2.2 hg f3 ?_, ⟨K.k, K.v, ?_⟩⟩
 ·intro sc q
  have : sc ∈ bareF fb ++ [[]] := by simpa [bareF] using q
  rcases List.mem_append.1 this with r | r
  ·exact hX.frg sc r
  ·simp at r; subst r; intro x hx; simp at hx
 ·intro b hb
  rcases hb with q | q | q | ⟨y, hy, q⟩
  ·exact .inl (.inl q)
  ·rcases hA.place with r | ⟨g0, r, r1, -⟩
   ·have : g' = g := by simpa [Value.ownBlock] using r
    exact .inl (.inr (.inl (q.trans this)))
   ·have : g' = g0 := by simpa [Value.ownBlock] using r
    have := b1.size
    exact .inr (by omega)
  ·rcases List.mem_append.1 q with r | r
   ·exact .inl (.inr (.inr (.inl r)))
   ·simp at r; exact .inr (by omega)
  ·exact .inl (.inr (.inr (.inr ⟨y, by rwa [hfl] at hy, q⟩)))
theorem CtX.pop {c : BSc} (hX : CtX p cf u n shp d m ve F (fb ++ [c]) g cap ms w) :
  CtX p cf u n shp d m ve F fb g cap ms.dropLast (w.setCell ⟨F, 0, none⟩ (.slice (some ⟨g, 0, none⟩) fb.length cap)) ∧
   KS p ve ve (FS F g ms (fb ++ [c])) (FS F g ms.dropLast fb) w (w.setCell ⟨F, 0, none⟩ (.slice (some ⟨g, 0, none⟩) fb.length cap)) := by
 have hg := grown_setCell w ⟨F, 0, none⟩ (.slice (some ⟨g, 0, none⟩) fb.length cap)
 have h := hX.c.fr
 have hl := h.len
 simp at hl
 have f3 : FrR (w.setCell ⟨F, 0, none⟩ (.slice (some ⟨g, 0, none⟩) fb.length cap)) n F fb g cap ms.dropLast := by
  have ap := h.apart
  rw [List.flatten_append, List.map_append, List.nodup_append] at ap
  refine ⟨by simpa using h.box.set 0 (.slice (some ⟨g, 0, none⟩) fb.length cap), ?_, by simp [hl], ?_, ?_, h.nd.sublist (List.dropLast_sublist _), ap.1, ⟨fun q hq => h.far.1 q (List.dropLast_subset _ hq), fun sc q1 y q2 => h.far.2.1 sc (by simp [q1]) y q2, h.far.2.2⟩, by have := h.le; simp at this; omega⟩
  ·have r2 := own_take_size h.row (m := fb.length) (by simp)
   rw [← List.map_take, show fb.length * 1 = ms.length - 1 by omega, ← List.dropLast_eq_take] at r2
   exact r2.kept hg (.inr (by have := row_not_box h.box h.row (by decide); simpa [Value.ownBlock] using this))
  ·intro i q1 q2
   have hi : i < ms.length := by simp at q1; omega
   have e1 : ms.dropLast[i] = ms[i] := by simp
   have e2 : (fb ++ [c])[i]'(by simp; omega) = fb[i] := List.getElem_append_left q2
   rw [e1, ← e2]
   have hm := h.maps i hi (by simp; omega)
   exact hm.on hg (by have := (h.map_ne hm).2; simpa using this)
  ·intro sc q1 y q2
   have hy : y ∈ (fb ++ [c]).flatten := mem_flat (sc := sc) (by simp [q1]) q2
   exact (h.flat hy).1.on hg (by have := (h.box_ne hy).2; simpa using this)
 refine ⟨hX.aside hX.asideF h.far.2.2 hg f3 (fun sc q => hX.frg sc (by simp only [bareF, List.map_append, List.mem_append]; exact .inl q)), KS.one hg (.inl rfl) fun b hb => .inl ?_⟩
 rcases hb with q | q | q | ⟨y, hy, q⟩
 ·exact .inl q
 ·exact .inr (.inl q)
 ·exact .inr (.inr (.inl (List.dropLast_subset _ q)))
 ·exact .inr (.inr (.inr ⟨y, by simp [List.flatten_append, hy], q⟩))
theorem CtX.give {c : BSc} (hX : CtX p cf u n shp d m ve F (fb ++ [c]) g cap ms w) {s : ByteArray} {t v : Int} (hn : getM s c = none) (hv : U v) {m0 : Nat} (hm0 : ms[fb.length]? = some m0) {w1 w2 : World} (h1 : w1 = w.alloc (.cells #[.int .u32 v, .int .u8 t] 201))
  (hg : w1.grownBy w2 (some m0)) (hp : Mp w2 m0 (putM s (ptrv ((t, v), w.heap.size)) (entF c))) :
  CtX p cf u n shp d m ve F (fb ++ [putM s ((t, v), w.heap.size) c]) g cap ms w2 ∧ KS p ve ve (FS F g ms (fb ++ [c])) (FS F g ms (fb ++ [putM s ((t, v), w.heap.size) c])) w w2 := by
 have b1 : Below w.heap.size w w1 := by rw [h1]; exact (Below.refl _ w).alloc (Nat.le_refl _) _
 have X1 := hX.below b1
 have h := X1.c.fr
 have hl := h.len
 simp at hl
 have hlt : fb.length < ms.length := by omega
 have hme : ms[fb.length] = m0 := by rw [List.getElem?_eq_getElem hlt] at hm0; simpa using hm0
 have hmm : m0 ∈ ms := by rw [← hme]; exact List.getElem_mem hlt
 have hm1 : Mp w1 m0 (entF c) := by
  have := h.maps fb.length hlt (by simp)
  rw [hme] at this
  simpa using this
 have hnew : Bx w1 w.heap.size #[.int .u32 v, .int .u8 t] 201 := by rw [h1]; exact Bx.new w _ _
 have hpl : putM s ((t, v), w.heap.size) c = c ++ [(s, ((t, v), w.heap.size))] := lookI_none s _ c (by unfold getM at hn; simpa using hn)
 have hfl : (fb ++ [putM s ((t, v), w.heap.size) c]).flatten = (fb ++ [c]).flatten ++ [(s, ((t, v), w.heap.size))] := by rw [hpl]; simp
 have each : ∀ y ∈ (fb ++ [putM s ((t, v), w.heap.size) c]).flatten, Bx w2 y.2.2 #[.int .u32 y.2.1.2, .int .u8 y.2.1.1] 201 ∧ n ≤ y.2.2 := by
  intro y hy
  rw [hfl] at hy
  rcases List.mem_append.1 hy with q | q
  ·exact ⟨(h.flat q).1.on hg (by have := (h.flat q).1.not_map hm1; simpa using this.symm), (h.flat q).2⟩
  ·simp at q
   subst q
   exact ⟨hnew.on hg (by have := hnew.not_map hm1; simpa using this.symm), hX.c.me.size⟩
 have f2 : FrR w2 n F (fb ++ [putM s ((t, v), w.heap.size) c]) g cap ms := by
  refine ⟨by simpa using h.box.on hg (by have := (h.map_ne hm1).2; simpa using this.symm), by simpa using h.row.kept hg (.inr (by have := (h.map_ne hm1).1; simpa [Value.ownBlock] using this.symm)), by simp [hl], ?_, fun sc q1 y q2 => (each y (mem_flat q1 q2)).1, h.nd, ?_, ⟨h.far.1, fun sc q1 y q2 => (each y (mem_flat q1 q2)).2, h.far.2.2⟩, by simpa using h.le⟩
  ·intro i q1 q2
   by_cases hi : i < fb.length
   ·have e2 : (fb ++ [putM s ((t, v), w.heap.size) c])[i] = fb[i] := List.getElem_append_left hi
    have e3 : (fb ++ [c])[i]'(by simp; omega) = fb[i] := List.getElem_append_left hi
    rw [e2, ← e3]
    refine (h.maps i q1 (by simp; omega)).on hg ?_
    intro e
    have e4 : ms[i] = ms[fb.length] := by rw [hme]; simpa using e
    exact List.pairwise_iff_getElem.1 h.nd i fb.length q1 hlt (by omega) e4
   ·have hi2 : i = fb.length := by omega
    subst hi2
    rw [hme]
    have e2 : (fb ++ [putM s ((t, v), w.heap.size) c])[fb.length] = putM s ((t, v), w.heap.size) c := by simp
    rw [e2]
    have := (putM_map (fun y : (Int × Int) × Nat => ptrv y) s ((t, v), w.heap.size) c)
    rw [show ((putM s ((t, v), w.heap.size) c).map fun x => (x.1, ptrv x.2)) = _ from this.symm]
    exact hp
  ·rw [hfl, List.map_append, List.nodup_append]
   refine ⟨h.apart, by simp, fun a ha b hb => ?_⟩
   obtain ⟨y, hy, rfl⟩ := List.mem_map.1 ha
   simp at hb
   subst hb
   have := (hX.c.fr.flat hy).1.lt
   omega
 have X2 := X1.aside (.inr (by obtain ⟨es, k, q, _⟩ := hm1; exact ⟨es, k, q⟩)) (h.far.1 m0 hmm) hg f2 (by
  have e : bareF (fb ++ [putM s ((t, v), w.heap.size) c]) = giveF s (t, v) (bareF (fb ++ [c])) := by
   unfold giveF bareF
   simp only [List.map_append, List.map_cons, List.map_nil, List.dropLast_concat, List.getLastD_concat]
   congr 2
   exact (putM_map (fun y : (Int × Int) × Nat => y.1) s ((t, v), w.heap.size) c).symm
  rw [e]
  exact giveF_rg hv hX.frg)
 have K : KS p ve ve (FS F g ms (fb ++ [c])) (FS F g ms (fb ++ [c])) w w2 := ((KV.of p ve b1).ks _).trans (KS.one hg (.inr (.inr (.inl hmm))) fun b hb => .inl hb)
 refine ⟨X2, ⟨K.k, K.v, fun b hb => ?_⟩⟩
 rcases hb with q | q | q | ⟨y, hy, q⟩
 ·exact .inl (.inl q)
 ·exact .inl (.inr (.inl q))
 ·exact .inl (.inr (.inr (.inl q)))
 ·rw [hfl] at hy
  rcases List.mem_append.1 hy with r | r
  ·exact .inl (.inr (.inr (.inr ⟨y, r, q⟩)))
  ·simp at r
   subst r
   have q2 : w.heap.size = b := q
   exact .inr (by omega)
theorem giveB_bare (fb : List BSc) (c : BSc) (s : ByteArray) (x : (Int × Int) × Nat) : bareF (fb ++ [putM s x c]) = giveF s x.1 (bareF (fb ++ [c])) := by
 unfold giveF bareF
 simp only [List.map_append, List.map_cons, List.map_nil, List.dropLast_concat, List.getLastD_concat]
 congr 2
 exact (putM_map (fun y : (Int × Int) × Nat => y.1) s x c).symm
theorem CtX.setW (hX : CtX p cf u n shp d m ve F fb g cap ms w) {s : ByteArray} {i b : Nat} (hi : i < p.xs.length) (hpl : placeOf cf s = i) (hb : p.xs[i].ownBlock = some b) (j : Nat) {v : Int} (hv : U v) :
  CtX p cf u n shp d (putW cf m s j v) ve F fb g cap ms (w.setCell ⟨b, j, none⟩ (.int .u32 v)) ∧ KV p ve ve w (w.setCell ⟨b, j, none⟩ (.int .u32 v)) := by
 have hg := grown_setCell w ⟨b, j, none⟩ (.int .u32 v)
 have hme := hX.c.me
 have hi2 : i < m.held.length := by have := hme.len; omega
 have hT : p.T b := .inr ⟨p.xs[i], List.getElem_mem hi, hb⟩
 have kv : KV p ve ve w (w.setCell ⟨b, j, none⟩ (.int .u32 v)) := ⟨Kpt.gr hg (Nat.le_refl _) fun k e => by cases e; exact .inl (.inl hT), Vc.refl _ _⟩
 have hbn : b < n := hX.c.st.lx _ (List.getElem_mem hi) b hb
 obtain ⟨cs0, hbx⟩ := row_block (hme.words i hi hi2) hb
 have hh : (putW cf m s j v).held = m.held.set i (m.held[i].set j v) := by
  show m.held.set (placeOf cf s) ((wordsAt cf m s).set j v) = _
  unfold wordsAt
  rw [hpl, List.getD_eq_getElem?_getD, List.getElem?_eq_getElem hi2]
  rfl
 have me2 : MeR p cf.allowed n d (putW cf m s j v) ve (w.setCell ⟨b, j, none⟩ (.int .u32 v)) := by
  obtain ⟨en, va, fa, hx⟩ := hme.box
  obtain ⟨ats, he⟩ := hme.evs
  refine ⟨⟨en, va, fa, hx.on hg (by have := hx.ne_box hbx (by decide); simpa using this)⟩, by rw [hh]; simpa using hme.len, ?_, hme.nd, ⟨ats, he.len, he.at_, he.row.kept hg ?_, fun k q1 q2 => (he.args k q1 q2).kept hg ?_⟩, Nat.le_trans hme.size hg.size, hme.mlt⟩
  ·intro k q1 q2
   by_cases hk : k = i
   ·subst hk
    have e : (putW cf m s j v).held[k] = m.held[k].set j v := by simp [hh]
    rw [e, List.length_set, List.map_set]
    exact own_put (hme.words k hi hi2) hb j _
   ·have hk2 : k < m.held.length := by simpa [hh] using q2
    have e : (putW cf m s j v).held[k] = m.held[k] := by simp only [hh]; exact List.getElem_set_ne (fun e => hk e.symm) _
    rw [e]
    refine (hme.words k q1 hk2).kept hg (.inr fun e1 => ?_)
    exact nodup_ne (f := Value.ownBlock) hme.nd q1 hi hk (by rw [e1, hb])
  ·refine .inr fun e1 => ?_
   obtain ⟨cs1, h1⟩ := row_block he.row e1
   have := h1.ne_box hbx (by decide)
   exact this rfl
  ·refine .inr fun e1 => ?_
   have := ((he.args k q1 q2).lt b e1).1
   omega
 have hsh : (putW cf m s j v).held.map List.length = m.held.map List.length := by
  rw [hh, List.map_set, List.length_set]
  apply List.ext_getElem?
  intro k
  rw [List.getElem?_set]
  split
  ·rename_i e
   subst e
   split
   ·rw [List.getElem?_map, List.getElem?_eq_getElem hi2]; rfl
   ·rename_i q
    rw [List.getElem?_eq_none (by omega)]
  ·rfl
 exact ⟨⟨hX.c.move me2 kv.k hsh, putW_inv m s j v hX.inv, putW_rg hX.rg s j hv, hX.frg⟩, kv⟩
end
end
section
open Go.Shelf
def RowA (w : World) (l : List Int) (v : Value) : Prop := ∃ aa ab ao ac, v = .slice aa l.length ac ∧ (l.length = 0 ∨ aa = some ⟨ab, ao, none⟩) ∧ ∀ i (h : i < l.length), w.cell? ⟨ab, ao + i, none⟩ = some (.int .u32 l[i])
theorem RowA.of {w : World} {base k : Nat} {v : Value} {l : List Int} (h : w.ownsRow base 52 1 v k (l.map (Value.int .u32))) (hk : k = l.length) : RowA w l v := by
 subst hk
 rcases h.2 with ⟨rfl, h0⟩ | ⟨g, cap, cur, rfl, _⟩
 ·exact ⟨none, 0, 0, 0, by rw [h0], .inl h0, fun i hi => by omega⟩
 ·refine ⟨_, g, 0, cap, rfl, .inr rfl, fun i hi => ?_⟩
  rw [Nat.zero_add, h.cellAt i (by omega)]
  simp [hi]
def WFn (p : Pt) (cf : Cf) (u : UT) (n : Nat) (shp : List Nat) (k : Nat) : Prop :=
 ∀ (d : Nat) (m : MS) (ve : EvS) (s : ByteArray) (q : Sig) (args : List Int) (va : Value) (pa : Option Addr) (pc : Nat) (w : World), getM s cf.cs = some q → q.host < 0 → args.length = q.params.length → (∀ x ∈ args, U x) → RowA w args va →
  SlP (onlyW w (oldB p.B)) q.params (.slice pa q.params.length pc) → MSt p cf u n w → MeR p cf.allowed n d m ve w → (∀ q ∈ m.held, 0 < q.length ∧ q.length ≤ 4096) → Inv cf shp m → m.Rg → (evl cf k).F d q args m ≠ .lost →
  Calls Tryz.prog 88 #[.pointer (some ⟨p.M, 0, none⟩), .agg #[.slice pa q.params.length pc, .int .u8 q.type, .int .i64 q.host, .int .i64 q.fn], va] w (PostM p cf.allowed n d w.heap.size ve (fun x => .returned (.int .u32 x)) ((evl cf k).F d q args m) w)
/-! ### arguments one behind another -/
def PreA (ev : Evl) (d : Nat) (fr : Fr) (kids r : Exs) (l : List Int) (m m1 : MS) : Prop := evArgs ev d fr kids m = (evArgs ev d fr r m1).bind fun l' m' => .ok (l ++ l') m'
theorem PreA.start (ev : Evl) (d : Nat) (fr : Fr) (kids : Exs) (m : MS) : PreA ev d fr kids kids [] m m := by
 unfold PreA
 cases evArgs ev d fr kids m <;> rfl
theorem PreA.step {ev : Evl} {d : Nat} {fr : Fr} {kids k r : Exs} {h : EH} {l : List Int} {m m1 m2 : MS} {x : Int} (hp : PreA ev d fr kids (.cons h k r) l m m1) (hx : ev.E d fr h k m1 = .ok x m2) : PreA ev d fr kids r (l ++ [x]) m m2 := by
 unfold PreA at hp ⊢
 rw [hp]
 simp only [evArgs, hx, Out.bind]
 cases evArgs ev d fr r m2 <;> simp [Out.bind]
theorem PreA.stop {ev : Evl} {d : Nat} {fr : Fr} {kids k r : Exs} {h : EH} {l : List Int} {m m1 m2 : MS} {a b : Int} (hp : PreA ev d fr kids (.cons h k r) l m m1) (hx : ev.E d fr h k m1 = .stop a b m2) : evArgs ev d fr kids m = .stop a b m2 := by
 unfold PreA at hp
 rw [hp]
 simp only [evArgs, hx, Out.bind]
theorem PreA.nl {ev : Evl} {d : Nat} {fr : Fr} {kids k r : Exs} {h : EH} {l : List Int} {m m1 : MS} (hp : PreA ev d fr kids (.cons h k r) l m m1) (hn : evArgs ev d fr kids m ≠ .lost) : ev.E d fr h k m1 ≠ .lost := fun e => by
 unfold PreA at hp
 rw [hp] at hn
 simp only [evArgs, e, Out.bind] at hn
 exact hn rfl
theorem PreA.done {ev : Evl} {d : Nat} {fr : Fr} {kids : Exs} {l : List Int} {m m1 : MS} (hp : PreA ev d fr kids .nil l m m1) : evArgs ev d fr kids m = .ok l m1 := by
 unfold PreA at hp
 rw [hp]
 simp [evArgs, Out.bind]
section
variable {p : Pt} {cf : Cf} {u : UT} {n : Nat} {shp : List Nat} {d : Nat} {m : MS} {ve : EvS} {F : Nat} {fb : List BSc} {g cap : Nat} {ms : List Nat} {w w' : World}
theorem CtX.rowOut (hX : CtX p cf u n shp d m ve F fb g cap ms w) {base k : Nat} {z : Value} {ys : List Value} (hr : w.ownsRow base 52 1 z k ys) (hb : n ≤ base) {b : Nat} (hz : z.ownBlock = some b) : ¬ p.TE ve b := by
 obtain ⟨cs, hc⟩ := row_block hr hz
 have hge := (hr.lt b hz).1
 rintro ((rfl | ⟨x, hx, hq⟩) | hq)
 ·have := hX.c.me.mlt
  omega
 ·have := hX.c.st.lx x hx b hq
  omega
 ·obtain ⟨ats, he⟩ := hX.c.me.evs
  obtain ⟨cs2, hc2⟩ := row_block he.row hq
  exact hc.ne_box hc2 (by decide) rfl
theorem CtX.rowKeep (hX : CtX p cf u n shp d m ve F fb g cap ms w) {base k : Nat} {z : Value} {ys : List Value} (hr : w.ownsRow base 52 1 z k ys) (hb : n ≤ base) {ve' : EvS} (hk : KV p ve ve' w w') : w'.ownsRow base 52 1 z k ys :=
 hk.k.own hr fun b hz => ⟨(hr.lt b hz).2, hX.rowOut hr hb hz⟩
theorem CtX.row52 (hX : CtX p cf u n shp d m ve F fb g cap ms w) {base k : Nat} {z : Value} {ys : List Value} (hr : w.ownsRow base 52 1 z k ys) (hb : n ≤ base) (hva : ∀ x ∈ ve.vas, ∀ b, z.ownBlock = some b → x.ownBlock ≠ some b) (hg : w.grownBy w' z.ownBlock) : CtX p cf u n shp d m ve F fb g cap ms w' := by
 cases hz : z.ownBlock with
 | none =>
  rw [hz] at hg
  exact hX.below ⟨hg.os, hg.tape, hg.output, hg.size, fun b hb => hg.block b hb (by simp)⟩
 | some b =>
  rw [hz] at hg
  have hout := hX.rowOut hr hb hz
  have hge : n ≤ b := Nat.le_trans hb (hr.lt b hz).1
  obtain ⟨cs, hc⟩ := row_block hr hz
  have f := hX.c.fr
  have me2 : MeR p cf.allowed n d m ve w' := by
   obtain ⟨en, va, fa, hx⟩ := hX.c.me.box
   obtain ⟨ats, he⟩ := hX.c.me.evs
   exact ⟨⟨en, va, fa, hx.on hg (by have := hx.ne_box hc (by decide); simpa using this)⟩, hX.c.me.len, fun i h1 h2 => (hX.c.me.words i h1 h2).kept hg (.inr fun e => hout (.inl (.inr ⟨_, List.getElem_mem h1, e⟩))), hX.c.me.nd,
    ⟨ats, he.len, he.at_, he.row.kept hg (.inr fun e => hout (.inr e)), fun i h1 h2 => (he.args i h1 h2).kept hg (.inr (hva _ (List.getElem_mem h1) b hz))⟩, Nat.le_trans hX.c.me.size hg.size, hX.c.me.mlt⟩
  have ft : FrR w' n F fb g cap ms := f.on hg (by have := f.box.ne_box hc (by decide); simpa using this) (by have := row_not_box hc f.row (by decide); simpa using this) (fun q hq => by
    obtain ⟨i, hi, rfl⟩ := List.getElem_of_mem hq
    have := hc.not_map (f.maps i hi (by have := f.len; omega))
    simpa using this) (fun sc h1 x h2 => by have := (f.boxes sc h1 x h2).ne_box hc (by decide); simpa using this)
  exact ⟨⟨hX.c.st.move hX.c.me (k := n) (Kpt.gr hg hX.c.me.size fun k e => by cases e; exact .inr hge) (Nat.le_refl _), me2, ft, hX.c.pos⟩, hX.inv, hX.rg, hX.frg⟩
theorem MeR.vasLt {a : Nat} (h : MeR p a n d m ve w) {x : Value} (hx : x ∈ ve.vas) {b : Nat} (hb : x.ownBlock = some b) : b < w.heap.size := by
 obtain ⟨ats, he⟩ := h.evs
 obtain ⟨i, hi, rfl⟩ := List.getElem_of_mem hx
 exact ((he.args i hi (by have := he.len; omega)).lt b hb).2
end
/-! ### an event more -/
theorem evcells_add (e : Ev) (v : Value) (t : Nil0) : ∀ (evs : List Ev) (vas : List Value) (ats : List Nil0), vas.length = evs.length → ats.length = evs.length → evcells (evs ++ [e]) (vas ++ [v]) (ats ++ [t]) = evcells evs vas ats ++ [.int .u32 t.v, .int .u32 e.number, v, .int .u32 e.value]
 | [], [], [], _, _ => rfl
 | a :: r, x :: vs, s :: ts, h1, h2 => by
  have := evcells_add e v t r vs ts (by simpa using h1) (by simpa using h2)
  simp only [List.cons_append, evcells, this]
 | [], _ :: _, _, h1, _ => by simp at h1
 | [], [], _ :: _, _, h2 => by simp at h2
 | _ :: _, [], _, h1, _ => by simp at h1
 | _ :: _, _ :: _, [], _, h2 => by simp at h2
theorem MeR.turn2 {p : Pt} {allowed n d : Nat} {m : MS} {ve : EvS} {w w' : World} (h : MeR p allowed n d m ve w) (hg : w.grownBy w' (some p.M)) {steps reps d' : Nat}
  (hb : ∃ en va fa : Nil0, Bx w' p.M #[.pointer (some ⟨p.X, 0, none⟩), .int .i64 allowed, p.vv, .int .u8 en.v, .int .u32 va.v, .int .u8 fa.v, .int .i64 steps, .int .i64 reps, ve.v, .int .i64 d', .map (some p.kb)] 119) :
  MeR p allowed n d' { m with steps := steps, reps := reps } ve w' := by
 obtain ⟨en, va, fa, hx⟩ := h.box
 obtain ⟨ats, he⟩ := h.evs
 have nr : ∀ {base : Nat} {e : TypeId} {size k : Nat} {v : Value} {ys : List Value}, w.ownsRow base e size v k ys → (119 : TypeId) ≠ e → w'.ownsRow base e size v k ys := fun {base e size k v ys} hr hne =>
  hr.kept hg (.inr fun q => hx.not_row hr hne q.symm)
 exact ⟨hb, h.len, fun i h1 h2 => nr (h.words i h1 h2) (by decide), h.nd, ⟨ats, he.len, he.at_, nr he.row (by decide), fun i h1 h2 => nr (he.args i h1 h2) (by decide)⟩, Nat.le_trans h.size hg.size, h.mlt⟩
theorem MeR.event {p : Pt} {allowed n d : Nat} {m : MS} {ve : EvS} {w w2 : World} (h : MeR p allowed n d m ve w) {ats : List Nil0} (he : EvR w n m.evs ve.vas ats ve.v) {v' va : Value} {num val : Int} {args : List Int}
  (hA : Appended w w2 n 127 4 ve.v v' m.evs.length 1 (evcells m.evs ve.vas ats) [.int .u32 0, .int .u32 num, va, .int .u32 val]) (ha : w.ownsRow n 52 1 va args.length (args.map (Value.int .u32))) :
  MeR p allowed n d { m with evs := m.evs ++ [⟨num, args, val⟩] } ⟨v', ve.vas ++ [va]⟩ (w2.setCell ⟨p.M, 8, none⟩ v') := by
 obtain ⟨en, vx, fa, hx⟩ := h.box
 have hg := grown_setCell w2 ⟨p.M, 8, none⟩ v'
 have x2 := hx.on hA.grown (hx.not_row he.row (by decide))
 have k1 : ∀ {base k : Nat} {v : Value} {ys : List Value}, w.ownsRow base 52 1 v k ys → (w2.setCell ⟨p.M, 8, none⟩ v').ownsRow base 52 1 v k ys := fun {base k v ys} hr => by
  have r2 := hr.kept hA.grown (row_ne hr he.row (by decide))
  exact r2.kept hg (.inr fun q => x2.not_row r2 (by decide) (by simpa using q.symm))
 refine ⟨⟨en, vx, fa, by simpa using x2.set 8 v'⟩, h.len, fun i h1 h2 => k1 (h.words i h1 h2), h.nd, ⟨ats ++ [Nil0.mk], by simp [he.len], by simp [he.at_], ?_, ?_⟩, Nat.le_trans h.size (Nat.le_trans hA.grown.size hg.size), h.mlt⟩
 ·rw [evcells_add _ _ _ _ _ _ he.len he.at_, List.length_append]
  exact hA.own.kept hg (.inr fun q => x2.not_row hA.own (by decide) (by simpa using q.symm))
 ·intro i h1 h2
  by_cases hi : i < ve.vas.length
  ·have hi2 : i < m.evs.length := by have := he.len; omega
   have e1 : (ve.vas ++ [va])[i] = ve.vas[i] := List.getElem_append_left hi
   have e2 : (m.evs ++ [(⟨num, args, val⟩ : Ev)])[i] = m.evs[i] := List.getElem_append_left hi2
   show (w2.setCell ⟨p.M, 8, none⟩ v').ownsRow n 52 1 (ve.vas ++ [va])[i] (m.evs ++ [(⟨num, args, val⟩ : Ev)])[i].args.length _
   rw [e1, e2]
   exact k1 (he.args i hi hi2)
  ·have hi3 : i = ve.vas.length := by simp at h1; omega
   subst hi3
   have e1 : (ve.vas ++ [va])[ve.vas.length] = va := by simp
   have e2 : (m.evs ++ [(⟨num, args, val⟩ : Ev)])[ve.vas.length]'(by simpa using h2) = ⟨num, args, val⟩ := by
    have := he.len
    rw [List.getElem_append_right (by omega)]
    simp
   show (w2.setCell ⟨p.M, 8, none⟩ v').ownsRow n 52 1 (ve.vas ++ [va])[ve.vas.length] (m.evs ++ [(⟨num, args, val⟩ : Ev)])[ve.vas.length].args.length _
   rw [e1, e2]
   exact k1 ha
end
section
open Go.Shelf
theorem RowA.below {w w' : World} {l : List Int} {v : Value} (h : RowA w l v) (hb : Below w.heap.size w w') : RowA w' l v := by
 obtain ⟨aa, ab, ao, ac, h1, h2, h3⟩ := h
 exact ⟨aa, ab, ao, ac, h1, h2, fun i hi => cell_on (h3 i hi) hb⟩
theorem CtR.sigB {p : Pt} {cf : Cf} {u : UT} {n d : Nat} {m : MS} {ve : EvS} {F : Nat} {fb : List BSc} {g cap : Nat} {ms : List Nat} {w : World} (h : CtR p cf u n d m ve F fb g cap ms w) {s : ByteArray} {q : Sig} (hv : getM s cf.cs = some q) :
  ∃ ka kc, SlP (onlyW w (oldB p.B)) q.params (.slice ka q.params.length kc) ∧ ∀ w', Below w.heap.size w w' → (Instr.lookup 89 (.map (some p.cb)) (.string s) false).run Tryz.prog w' = .ok (.agg #[.slice ka q.params.length kc, .int .u8 q.type, .int .i64 q.host, .int .i64 q.fn]) w' := by
 obtain ⟨l, h2, h3⟩ := h.st.nm.calls
 have hm := map_whole h2 (by simpa using h.st.lc)
 rcases h3.get s with ⟨e1, e2⟩ | ⟨g', v, e1, e2, pv, rfl, h5⟩
 ·rw [hv] at e1; cases e1
 ·rw [hv] at e1
  cases e1
  have h6 := h5
  obtain ⟨ka, kb, koff, kc, rfl, -⟩ := h6
  refine ⟨ka, kc, h5, fun w' hb => ?_⟩
  have hl := (hm.mono hb).lookup under89 under9 s _ (zero114 w') false
  rw [e2] at hl
  simpa using hl
theorem SlP.sub {w w' : World} {l : List PW} {v : Value} (h : SlP w l v) (hs : Cells w w') : SlP w' l v := by
 obtain ⟨ka, kb, koff, kcap, h1, h2, h3⟩ := h
 exact ⟨ka, kb, koff, kcap, h1, h2, fun i hi => ⟨hs _ _ (h3 i hi).1, hs _ _ (h3 i hi).2⟩⟩
theorem only_lt {w : World} {B : Nat} {a : Addr} {v : Value} (h : (onlyW w (oldB B)).cell? a = some v) : a.block < B := by
 rw [cell_only] at h
 split at h
 ·rename_i q; simpa using q
 ·cases h
theorem own_weaken {w : World} {base base' : Nat} {e : TypeId} {size k : Nat} {v : Value} {ys : List Value} (h : w.ownsRow base e size v k ys) (hb : base' ≤ base) : w.ownsRow base' e size v k ys := by
 refine ⟨h.1, ?_⟩
 rcases h.2 with q | ⟨g, cap, cur, h1, h2, h3⟩
 ·exact .inl q
 ·exact .inr ⟨g, cap, cur, h1, Nat.le_trans hb h2, h3⟩
theorem KV.event {p : Pt} {ve ve1 : EvS} {w w3 w4 : World} {v' z : Value} {n k : Nat} {xs news : List Value} (h : KV p ve ve1 w w3) (hA : Appended w3 w4 n 127 4 ve1.v v' k 1 xs news) (hz : ∀ b, z.ownBlock = some b → w.heap.size ≤ b) : KV p ve ⟨v', ve1.vas ++ [z]⟩ w (w4.setCell ⟨p.M, 8, none⟩ v') := by
 refine ⟨h.k.chain h.v h.size ((Kpt.gr hA.grown (Nat.le_refl _) fun k e => .inl (.inr e)).trans (Kpt.gr (grown_setCell w4 ⟨p.M, 8, none⟩ v') hA.grown.size fun k e => by cases e; exact .inl (.inl (.inl rfl)))), ?_, fun x hx => ?_⟩
 ·rcases hA.place with q | ⟨b, q, q2, -⟩
  ·rcases h.v.1 with r | ⟨c, r, r2⟩
   ·exact .inl (q.trans r)
   ·exact .inr ⟨c, q.trans r, r2⟩
  ·exact .inr ⟨b, q, Nat.le_trans h.size q2⟩
 ·rcases List.mem_append.1 hx with q | q
  ·exact h.v.2 x q
  ·simp at q
   subst q
   exact .inr hz
theorem exs_drop {l r : List (EH × Exs)} {a : EH × Exs} {j : Nat} (h : a :: r = l.drop j) : l[j]? = some a ∧ r = l.drop (j + 1) := by
 have h1 : (l.drop j)[0]? = some a := by rw [← h]; rfl
 have h2 : (l.drop j).drop 1 = r := by rw [← h]; rfl
 rw [List.getElem?_drop] at h1
 rw [List.drop_drop] at h2
 exact ⟨by simpa using h1, h2.symm⟩
theorem call80 (p : Pt) (cf : Cf) (u : UT) (n : Nat) (shp : List Nat) (k d : Nat) (m : MS) (ve : EvS) (F : Nat) (fb : List BSc) (g cap : Nat) (ms : List Nat) (a0 a2 a3 : Int) (a4 a5 : ByteArray) (kids : Exs) (v : Value) (ty : Int) (w : World) (hOk : cf.Ok) (HF : Hid (WFn p cf u n shp k)) (HE : Hid (WEx p cf u n shp k)) (hx : XT cf (tysF fb) ⟨a0, 5, a2, a3, a4, a5⟩ kids ty) (hkw : kids.Wf) (hv : SlE (onlyW w (oldB p.B)) false none kids v) (hX : CtX p cf u n shp d m ve F fb g cap ms w) (hnl : exprB cf (evl cf k) d (bareF fb) ⟨a0, 5, a2, a3, a4, a5⟩ kids m ≠ .lost) :
  Calls Tryz.prog 80 #[.pointer (some ⟨p.M, 0, none⟩), .pointer (some ⟨F, 0, none⟩), aggE a0 ⟨a0, 5, a2, a3, a4, a5⟩ v] w (PostM p cf.allowed n d w.heap.size ve (fun x => .returned (.int .u32 x)) (exprB cf (evl cf k) d (bareF fb) ⟨a0, 5, a2, a3, a4, a5⟩ kids m) w) := by
 obtain ⟨ka, kc, rfl⟩ := hv.shape'
 obtain ⟨ks, hks, hty⟩ := hx.kinds
 have hn := okH_n hx.ok
 obtain ⟨R, hR⟩ : ∃ x, x = (PostM p cf.allowed n d w.heap.size ve (fun x => .returned (.int .u32 x)) (exprB cf (evl cf k) d (bareF fb) ⟨a0, 5, a2, a3, a4, a5⟩ kids m) w) := ⟨_, rfl⟩
 rw [← hR]
 have HR := hid hR
 clear hR
 simp only [] at hn ⊢
 obtain ⟨q, hq, hql, -⟩ := hx.call rfl
 have hln := hn.2.2.2.2.2 (by trivial)
 obtain ⟨len, hlen⟩ : ∃ z, z = kids.len := ⟨_, rfl⟩
 rw [← hlen] at hv hln hql ⊢
 have hB0 := (Below.refl w.heap.size w).alloc (Nat.le_refl _) (.cells #[.int .i64 a0, .int .u8 5, .int .u32 a2, .int .u8 a3, .string a4, .string a5, .slice ka len kc] 134)
 have hX0 := hX.below hB0
 have hb0 := Bx.new w #[.int .i64 a0, .int .u8 5, .int .u32 a2, .int .u8 a3, .string a4, .string a5, .slice ka len kc] 134
 have hh := hid (show exprB cf (evl cf k) d (bareF fb) ⟨a0, 5, a2, a3, a4, a5⟩ kids m = (evArgs (evl cf k) d (bareF fb) kids m).bind fun args m => (if q.host < 0 then (evl cf k).F d q args m else hostV cf q args m) by rw [exprB_5, hq])
 have hnlA := hid (show evArgs (evl cf k) d (bareF fb) kids m ≠ .lost from Out.of_bind (by rw [← hh.out]; exact hnl))
 have HNL := hid hnl
 have KT : Hid (∀ wr ve1, KV p ve ve1 w wr → SlE (onlyW wr (oldB p.B)) false none kids (.slice ka len kc)) := hid fun wr ve1 hk => hv.sub (hX.c.cells hk.k)
 have KX := hid (And.intro hx.kids (And.intro hks hkw))
 have hwn : n ≤ w.heap.size := hX.c.me.size
 have X0 := hid hX0
 have bb0 := hid hb0
 have V0 := hid (KV.of p ve hB0)
 have Q := hid hq
 have QL := hid hql
 have HLN := hid hlen
 have HWN := hid hwn
 have OK := hid hOk
 clear hx hkw hv hX hnl hks hty hn hB0 hX0 hb0 hq hql hlen hwn hOk
 go_enter Tryz.func80, Tryz.ntmps80
 go_wp2_with fail
 go_loopw [7, 15] (fun z i wr => ∃ (j : Nat) (r : Exs) (l : List Int) (m1 : MS) (ve1 : EvS) (z0 : Value), z0 = z ∧ j + r.len = len ∧ i = .int .i64 j ∧ r.toL = kids.toL.drop j ∧ l.length = j ∧ (∀ x ∈ l, U x) ∧ PreA (evl cf k) d (bareF fb) kids r l m m1 ∧ wr.ownsRow w.heap.size 52 1 z j (l.map (Value.int .u32)) ∧ CtX p cf u n shp d m1 ve1 F fb g cap ms wr ∧ KV p ve ve1 w wr ∧ Bx wr w.heap.size #[.int .i64 a0, .int .u8 5, .int .u32 a2, .int .u8 a3, .string a4, .string a5, .slice ka len kc] 134 ∧ ∀ x ∈ ve1.vas, ∀ b, z.ownBlock = some b → x.ownBlock ≠ some b) (fun _ i _ => len - (intOf i).toNat)
 case atStart => exact ⟨0, kids, [], m, ve, _, rfl, by have := HLN.out; omega, rfl, rfl, rfl, fun x hx => by simp at hx, PreA.start _ _ _ _ _, World.ownsRow_nil _ _ _ _, X0.out, V0.out, bb0.out, fun x _ b h => by cases h⟩
 case round =>
  clear X0 V0 bb0
  obtain ⟨j, r, l, m1, ve1, z0, hz0, hj, rfl, hr, hl, hu, hpre, hown, hX1, hV1, hbx, hva⟩ := hrel
  subst hz0
  have HO := hid hown
  have HX1 := hid hX1
  have HV1 := hid hV1
  have HBX := hid hbx
  have HVA := hid hva
  have HU := hid hu
  have HP := hid hpre
  have HL := hid hl
  have HR2 := hid hr
  have HJ := hid hj
  cases r with
  | nil =>
   have hj2 : j = len := by simpa [Exs.len] using hj
   subst hj2
   have hrow := hid (RowA.of hown (by rw [hl]))
   obtain ⟨za, zb, zo, zc, rfl, -, -⟩ := hrow.out
   have hargs := PreA.done hpre
   have hh := hid (show exprB cf (evl cf k) d (bareF fb) ⟨a0, 5, a2, a3, a4, a5⟩ kids m = (if q.host < 0 then (evl cf k).F d q l m1 else hostV cf q l m1) by rw [hh.out, hargs]; rfl)
   have hb1 := hX1.c.b0
   have hx4 := hX1.c.x4
   have hbx4 : wr.cell? ⟨w.heap.size, 4, none⟩ = some (.string a4) := by simpa using hbx.cell 4
   obtain ⟨pa, pc, hsp, hlk⟩ := hX1.c.sigB Q.out
   have HLK := hid hlk
   have HSP := hid hsp
   clear hr hl hu hpre hown hX1 hV1 hbx hva hj hargs hlk hsp
   obtain ⟨ps, qt, ho, qf⟩ := q
   simp only [] at HLK HSP hh QL
   go_wp2_with fail
   refine wp_region_held_drew (S := (Below wr.heap.size wr)) (by kernel_rfl) (Below.refl _ _).drew (fun hHeld => ?_)
   refine tk 0 ?_
   refine tk 1 ?_
   refine tk 2 ?_
   refine tk 3 ?_ (hy := by intro w' hSw; have q1 := cell_on hb1 hSw; go_simp; (try with_reducible rfl))
   refine tk 4 ?_
   refine tk 5 ?_
   refine tk 6 ?_
   refine tk 7 ?_ (hy := by intro w' hSw; have q1 := cell_on hx4 hSw; go_simp; (try with_reducible rfl))
   refine tk 8 ?_
   refine tk 9 ?_ (hy := by intro w' hSw; have q1 := cell_on hbx4 hSw; go_simp; (try with_reducible rfl))
   refine tk 10 ?_ (hy := by intro w' hSw; have q1 := HLK.out _ hSw; go_simp; (try with_reducible rfl))
   refine tr 11 fun K hK => ?_
   go_simp
   refine hK.out _ _ (((Below.refl wr.heap.size wr).alloc (Nat.le_refl _) _).drew) (fun hHeld => ?_)
   clear hK K
   try simp only [tpa, tpb, tpc, tpd, tpe]
   refine tr 12 fun K hK => ?_
   go_simp
   refine hK.out _ _ (((Below.refl wr.heap.size wr).alloc (Nat.le_refl _) _).drew) (fun hHeld => ?_)
   clear hK K
   try simp only [tpa, tpb, tpc, tpd, tpe]
   refine td ?_
   have hb9 := (Bx.new wr #[.slice pa ps.length pc, .int .u8 qt, .int .i64 ho, .int .i64 qf] 114).on (grownBy_drew _ none) (by simp)
   clear hb1 hx4 hbx4
   generalize (wr.alloc (.cells #[.slice pa ps.length pc, .int .u8 qt, .int .i64 ho, .int .i64 qf] 114)).drew = w1 at hb9 hHeld ⊢
   have HB1 := hid hHeld
   have e92 : w1.cell? ⟨wr.heap.size, 2, none⟩ = some (.int .i64 ho) := by simpa using hb9.cell 2
   have e90 : w1.cell? ⟨wr.heap.size, 0, none⟩ = some (.slice pa ps.length pc) := by simpa using hb9.cell 0
   have e91 : w1.cell? ⟨wr.heap.size, 1, none⟩ = some (.int .u8 qt) := by simpa using hb9.cell 1
   have e93 : w1.cell? ⟨wr.heap.size, 3, none⟩ = some (.int .i64 qf) := by simpa using hb9.cell 3
   have HB9 := hid hb9
   clear hb9 hHeld
   have hX1 := hid (HX1.out.below HB1.out)
   have hV1 := hid (HV1.out.below HB1.out)
   by_cases hneg : ho < 0
   ·have hh := hid (show exprB cf (evl cf k) d (bareF fb) ⟨a0, 5, a2, a3, a4, a5⟩ kids m = (evl cf k).F d ⟨ps, qt, ho, qf⟩ l m1 by rw [hh.out]; exact if_pos hneg)
    have hnlF : (evl cf k).F d ⟨ps, qt, ho, qf⟩ l m1 ≠ .lost := by rw [← hh.out]; exact HNL.out
    have cx := hid (HF.out d m1 ve1 a4 ⟨ps, qt, ho, qf⟩ l (.slice za l.length zc) pa pc w1 Q.out hneg (by rw [HL.out]; exact QL.out.symm) HU.out (hrow.out.below HB1.out) (HSP.out.sub (cells_old_below HB1.out)) hX1.out.c.st hX1.out.c.me hX1.out.c.pos hX1.out.inv hX1.out.rg hnlF)
    have FIN := hid (show ∀ e w2, PostM p cf.allowed n d w1.heap.size ve1 (fun x => .returned (.int .u32 x)) ((evl cf k).F d ⟨ps, qt, ho, qf⟩ l m1) w1 e w2 → R e w2 from fun e w2 h => by rw [HR.out, hh.out]; exact h.chain hV1.out.k hV1.out.v hV1.out.size)
    simp only [] at cx
    have hneg2 : decide (ho < 0) = true := by simpa using hneg
    go_wp2_with fail
    refine cx.out.mono ?_
    intro e w2 hp
    have HPP := hid hp
    cases ho2 : (evl cf k).F d ⟨ps, qt, ho, qf⟩ l m1 with
    | lost => exact absurd ho2 hnlF
    | stop a b m2 =>
     rw [ho2] at hp
     obtain ⟨rfl, -⟩ := hp
     clear cx
     go_wp2_with fail
     refine bp_panic ?_
     exact FIN.out _ _ HPP.out
    | ok x m2 =>
     rw [ho2] at hp
     obtain ⟨rfl, -⟩ := hp
     clear cx
     go_wp2_with fail
     exact FIN.out _ _ HPP.out
   ·obtain ⟨i, rfl⟩ : ∃ i : Nat, ho = i := ⟨ho.toNat, by omega⟩
    obtain ⟨hrec, hhs⟩ := (OK.out.call a4 _ Q.out).2 hneg
    have hh := hid (show exprB cf (evl cf k) d (bareF fb) ⟨a0, 5, a2, a3, a4, a5⟩ kids m = hostV cf ⟨ps, qt, i, qf⟩ l m1 by rw [hh.out]; exact if_neg hneg)
    obtain ⟨ka5, kb5, koff5, kcap5, v1, v2, -, v3⟩ := hX1.out.c.st.vals
    obtain ⟨en, va0, fa, hbM⟩ := hX1.out.c.me.box
    have m2 : w1.cell? ⟨p.M, 2, none⟩ = some (.slice ka5 cf.values.length kcap5) := by rw [← v1]; simpa using hbM.cell 2
    have m7 : w1.cell? ⟨p.M, 7, none⟩ = some (.int .i64 m1.reps) := by simpa using hbM.cell 7
    have m2d : w1.drew.cell? ⟨p.M, 2, none⟩ = some (.slice ka5 cf.values.length kcap5) := cell_on m2 (Below.refl _ _).drew
    have m7d : w1.drew.cell? ⟨p.M, 7, none⟩ = some (.int .i64 m1.reps) := cell_on m7 (Below.refl _ _).drew
    have hneg2 : decide ((i : Int) < 0) = false := by simp
    have HBM := hid hbM
    have V3 := hid v3
    have hrl := hX1.out.inv.reps
    obtain ⟨vl, hvl⟩ : ∃ z, z = cf.values.length := ⟨_, rfl⟩
    rw [← hvl] at m2 m2d v2 hrl
    have HVL := hid hvl
    have HHS := hid hhs
    clear hbM v3 hvl hhs v1 hneg
    by_cases hrep : vl ≤ m1.reps
    ·have hr2 : ((m1.reps : Int) ≥ (vl : Int)) := by omega
     have hz := hid (show exprB cf (evl cf k) d (bareF fb) ⟨a0, 5, a2, a3, a4, a5⟩ kids m = .stop 4 0 m1 by rw [hh.out]; unfold hostV; rw [List.getElem?_eq_none (by have := HVL.out; omega)])
     clear hh e90 e91 e93
     go_wp2_with fail
     go_region
     go_wp2_with fail
     refine bp_panic ?_
     rw [HR.out, hz.out]
     exact fin_stop (hX1.out.c.me.below (Below.refl _ _).drew) (hV1.out.below (Below.refl _ _).drew) rfl
    ·have hr2 : ¬ ((m1.reps : Int) ≥ (vl : Int)) := by omega
     have hlt : m1.reps < vl := by omega
     have hlt2 : m1.reps < cf.values.length := by have := HVL.out; omega
     have hk5 : ka5 = some ⟨kb5, koff5, none⟩ := by rcases v2 with q | q; (· omega); (· exact q)
     subst hk5
     have hz := hid (show exprB cf (evl cf k) d (bareF fb) ⟨a0, 5, a2, a3, a4, a5⟩ kids m = .ok cf.values[m1.reps] { m1 with reps := m1.reps + 1, evs := m1.evs ++ [⟨hrec.number, l, cf.values[m1.reps]⟩] } by rw [hh.out]; unfold hostV; rw [List.getElem?_eq_getElem hlt2]; simp only [Int.toNat_natCast]; rw [show cf.hs[i]? = some hrec from HHS.out])
     have hcv := V3.out m1.reps hlt2
     have hcvd : w1.drew.drew.cell? ⟨kb5, koff5 + m1.reps, none⟩ = some (.int .u32 cf.values[m1.reps]) := cell_on hcv ((Below.refl _ _).drew.trans ((Below.refl _ _).drew.mono (Below.refl w1.heap.size w1).drew.size))
     have m2e : w1.drew.drew.cell? ⟨p.M, 2, none⟩ = some (.slice (some ⟨kb5, koff5, none⟩) vl kcap5) := cell_on m2d (Below.refl _ _).drew
     have m7e : w1.drew.drew.cell? ⟨p.M, 7, none⟩ = some (.int .i64 m1.reps) := cell_on m7d (Below.refl _ _).drew
     have hvb := hX1.out.c.st.vlen
     rw [← HVL.out] at hvb
     have hU := hid (show m1.reps + 1 ≤ 1000000000 by omega)
     generalize cf.values[m1.reps] = rv at hz hcv hcvd
     clear hh e90 e91 e93 v2 hlt2
     go_wp2_with fail
     go_region
     go_wp2_with fail
     go_region
     have hbM := HBM.out
     have f7 : w1.drew.drew.frozen? ⟨p.M, 7, none⟩ = false := (HBM.out.on (grown_of_below (Below.refl _ _).drew) (by simp)).free 7 |> fun h => by simpa using h
     have hw : IntKind.i64.wrap ((m1.reps : Int) + 1) = ((m1.reps + 1 : Nat) : Int) := by rw [IntWalk.i64_in _ (by have := hU.out; omega)]; omega
     clear hbM
     go_wp2_with fail
     have hgM := grown_setCell w1 ⟨p.M, 7, none⟩ (.int .i64 ((m1.reps : Int) + 1))
     have bdd := ((Below.refl (w1.setCell ⟨p.M, 7, none⟩ (.int .i64 ((m1.reps : Int) + 1))).heap.size (w1.setCell ⟨p.M, 7, none⟩ (.int .i64 ((m1.reps : Int) + 1)))).drew).drew
     have KM : KV p ve1 ve1 w1 (w1.setCell ⟨p.M, 7, none⟩ (.int .i64 ((m1.reps : Int) + 1))) := ⟨Kpt.gr hgM (Nat.le_refl _) fun k e => by cases e; exact .inl (.inl (.inl rfl)), Vc.refl _ _⟩
     have KM2 := KM.below bdd
     have M2 := (hX1.out.c.me.turn2 (steps := m1.steps) (reps := m1.reps + 1) (d' := d) hgM ⟨en, va0, fa, by have h := HBM.out.set 7 (.int .i64 ((m1.reps : Int) + 1)); rw [show ((m1.reps : Int) + 1) = ((m1.reps + 1 : Nat) : Int) by omega] at h ⊢; simpa using h⟩).below bdd
     have hne9 : p.M ≠ wr.heap.size := by have := hX1.out.c.me.mlt; have := HWN.out; have := HV1.out.size; omega
     have B2 := (HB9.out.on hgM (by simpa using hne9.symm)).on (grown_of_below bdd) (by simp)
     have R2 := ownsRow_at ((ownsRow_at HO.out HB1.out).kept hgM (.inr fun e => HBM.out.not_row (ownsRow_at HO.out HB1.out) (by decide) e.symm)) bdd
     have XB2 := KM2.k.box hX1.out.c.st.X hX1.out.c.st.X.lt (hX1.out.c.me.notBox hX1.out.c.st.X (by decide) (by decide) (by decide))
     obtain ⟨vg9, vh9, vf9, hv9, -, hsh, -⟩ := hX1.out.c.st.unit
     cases hv9
     obtain ⟨ha, hbk, hof, hcp, hvh, hha, hhi⟩ := SlR.open hsh
     have hlt9 : i < u.hs.length := by rw [hX1.out.c.st.hs]; exact (List.getElem?_eq_some_iff.1 HHS.out).1
     have hrc : u.hs[i] = hrec := by have h := HHS.out; simp only [Int.toNat_natCast, ← hX1.out.c.st.hs] at h; rw [List.getElem?_eq_getElem hlt9] at h; exact Option.some.inj h
     have hnum := (hhi i hlt9).c4
     rw [hrc] at hnum
     have hnum2 := cells_only _ _ _ _ (hX1.out.c.cells KM2.k _ _ hnum)
     have hha2 : ha = some ⟨hbk, hof, none⟩ := by rcases hha with q | q; (· omega); (· exact q)
     subst hha2
     have V2 := hV1.out.trans KM2
     obtain ⟨hl9, hhl9⟩ : ∃ z, z = u.hs.length := ⟨_, rfl⟩
     rw [← hhl9] at hvh hlt9
     have hnold : ¬ p.TE ve1 hbk := hX1.out.c.me.old hX1.out.c.st.M hX1.out.c.st.Bn (only_lt hnum)
     have hV2 := hid V2
     clear bdd KM KM2 hnum hrc hhi hsh hhl9 hcv hcvd m2 m2d m2e m7 m7d m7e f7 hw V2 hne9 hha
     generalize ((w1.setCell ⟨p.M, 7, none⟩ (.int .i64 ((m1.reps : Int) + 1))).drew).drew = w2 at M2 B2 R2 XB2 hV2 hnum2 ⊢
     have nX := M2.notBox XB2 (by decide) (by decide) (by decide)
     have n9 := M2.notBox B2 (by decide) (by decide) (by decide)
     obtain ⟨en2, vx2, fa2, hbM2⟩ := M2.box
     have hM20 : w2.drew.cell? ⟨p.M, 0, none⟩ = some (.pointer (some ⟨p.X, 0, none⟩)) := cell_on (by simpa using hbM2.cell 0) (Below.refl _ _).drew
     have EX := hid (show ∀ w9, Kpt (p.TE ve1) w2.heap.size w2 w9 → w9.cell? ⟨p.X, 1, none⟩ = some (.slice (some ⟨hbk, hof, none⟩) hl9 hcp) from fun w9 hk => hk.at (by rw [← hvh]; simpa using XB2.cell 1) nX)
     have E9 := hid (show ∀ w9, Kpt (p.TE ve1) w2.heap.size w2 w9 → w9.cell? ⟨wr.heap.size, 2, none⟩ = some (.int .i64 i) from fun w9 hk => hk.at (by simpa using B2.cell 2) n9)
     have EN := hid (show ∀ w9, Kpt (p.TE ve1) w2.heap.size w2 w9 → w9.cell? ⟨hbk, hof + i * 5 + 4, none⟩ = some (.int .u32 hrec.number) from fun w9 hk => hk.at hnum2 hnold)
     have M3 := hid (M2.below (Below.refl _ _).drew)
     have R3 := hid (ownsRow_at R2 (Below.refl _ _).drew)
     have V3 := hid (hV2.out.below (Below.refl _ _).drew)
     have K23 := hid (Kpt.of (T := p.TE ve1) (Below.refl w2.heap.size w2).drew)
     have hlt9i : (i : Int) < (hl9 : Int) := by omega
     clear M2 B2 R2 XB2 hnum2 nX n9 hbM2 hnold hvh
     refine wp_region_held_drew (S := (fun w9 => Kpt (p.TE ve1) w2.heap.size w2 w9 ∧ w9.cell? ⟨p.M, 0, none⟩ = some (.pointer (some ⟨p.X, 0, none⟩)))) (by kernel_rfl) ⟨K23.out, hM20⟩ (fun hHeld => ?_)
     generalize w2.drew = w3 at M3 R3 V3 K23 hM20 hHeld ⊢
     refine tk 0 ?_
     refine tk 1 ?_
     refine tk 2 ?_
     refine tk 3 ?_
     refine tk 4 ?_
     refine tk 6 ?_
     refine tk 7 ?_
     refine tk 8 ?_
     refine tk 9 ?_ (hy := by intro w' hSw; have q := hSw.2; go_simp; (try with_reducible rfl))
     refine tk 10 ?_
     refine tk 11 ?_
     refine tk 12 ?_
     refine tk 13 ?_ (hy := by intro w' hSw; have q := EX.out w' hSw.1; go_simp; (try with_reducible rfl))
     refine tk 14 ?_
     refine tk 15 ?_ (hy := by intro w' hSw; have q := E9.out w' hSw.1; go_simp; (try with_reducible rfl))
     refine tk 16 ?_
     refine tk 17 ?_
     refine tk 18 ?_ (hy := by intro w' hSw; have q := EN.out w' hSw.1; go_simp; (try with_reducible rfl))
     refine tk 19 ?_
     refine tk 20 ?_
     refine tk 21 ?_
     obtain ⟨ats, he⟩ := M3.out.evs
     obtain ⟨en3, vx3, fa3, hbM3⟩ := M3.out.box
     have e8 : w3.cell? ⟨p.M, 8, none⟩ = some ve1.v := by simpa using hbM3.cell 8
     have hHe := hid he
     have hEL : m1.evs.length ≤ 1000000000 := by have := hX1.out.inv.evs; have := hU.out; omega
     have hn3 := M3.out.size
     have e8b : (w3.alloc (.cells #[.int .u32 0, .int .u32 hrec.number, .slice za l.length zc, .int .u32 rv] 127)).cell? ⟨p.M, 8, none⟩ = some ve1.v := (hbM3.al _).cell 8
     have S3 := hid hHeld
     clear he
     refine wpAnyH_ready (rs := [5, 22]) (by kernel_rfl) (by simp) ?_
     refine AllReadyH.cons (by simp only [List.getElem?_toArray, List.getElem?_cons_succ, List.getElem?_cons_zero]; rfl) (fun K hK => ?_) (AllReadyH.cons (by simp only [List.getElem?_toArray, List.getElem?_cons_succ, List.getElem?_cons_zero]; rfl) (fun K hK => ?_) AllReadyH.nil)
     ·go_simp
      refine hK.out _ _ S3.out (fun hHeld => ?_)
      clear hK K
      try simp only [tpa, tpb, tpc, tpd, tpe]
      refine tr 22 fun K hK => ?_
      go_simp
      refine hK.out _ _ (show (fun w9 => Kpt (p.TE ve1) w2.heap.size w2 w9 ∧ w9.cell? ⟨p.M, 0, none⟩ = some (.pointer (some ⟨p.X, 0, none⟩))) (w3.alloc (.cells #[.int .u32 0, .int .u32 hrec.number, .slice za l.length zc, .int .u32 rv] 127)) from ⟨S3.out.1.trans (Kpt.of (((Below.refl w3.heap.size w3).alloc (Nat.le_refl _) _).mono S3.out.1.size)), cell_on S3.out.2 ((Below.refl w3.heap.size w3).alloc (Nat.le_refl _) _)⟩) (fun hHeld => ?_)
      clear hK K
      try simp only [tpa, tpb, tpc, tpd, tpe]
      refine tr 23 fun K hK => ?_
      refine step_append_str rfl _ _ 54 rfl n 127 127 (.agg #[.int .u32 0, .int .u32 0, .slice none 0 0, .int .u32 0]) 4 40 1 Tryz.underlying54 (by kernel_rfl) rfl (by decide) ve1.v m1.evs.length (evcells m1.evs ve1.vas ats) [.int .u32 0, .int .u32 hrec.number, .slice za l.length zc, .int .u32 rv] (0, 0) hHe.out.row rfl (by simp [Value.oneCell']) (by unfold maxLen; omega) (by omega) hn3 rfl rfl ?_
      intro v' w4 hA
      obtain ⟨na, nc, rfl, -⟩ := own_shape2 hA.own
      have ME := hid (M3.out.event hHe.out hA (by have r3 := R3.out; rw [← HL.out] at r3; exact own_weaken r3 HWN.out))
      have VE := hid (V3.out.event hA (fun b hb => (R3.out.lt b hb).1))
      have hbM4 := hbM3.on hA.grown (hbM3.not_row hHe.out.row (by decide))
      have f84 := hbM4.free 8
      have z84 := hbM4.cell 8
      have z80 : w4.cell? ⟨p.M, 0, none⟩ = some (.pointer (some ⟨p.X, 0, none⟩)) := by simpa using hbM4.cell 0
      simp at z84
      have hk4 := hid (show (fun w9 => Kpt (p.TE ve1) w2.heap.size w2 w9 ∧ w9.cell? ⟨p.M, 0, none⟩ = some (.pointer (some ⟨p.X, 0, none⟩))) w4 from ⟨S3.out.1.trans (Kpt.gr hA.grown S3.out.1.size fun k e => .inl (.inr e)), z80⟩)
      have hk5 := hid (show (fun w9 => Kpt (p.TE ve1) w2.heap.size w2 w9 ∧ w9.cell? ⟨p.M, 0, none⟩ = some (.pointer (some ⟨p.X, 0, none⟩))) (w4.setCell ⟨p.M, 8, none⟩ (.slice na (m1.evs.length + 1) nc)) from ⟨hk4.out.1.trans (Kpt.gr (grown_setCell w4 ⟨p.M, 8, none⟩ (.slice na (m1.evs.length + 1) nc)) hk4.out.1.size fun k e => by cases e; exact .inl (.inl (.inl rfl))), by simpa using (hbM4.set 8 (.slice na (m1.evs.length + 1) nc)).cell 0⟩)
      clear hA hbM4 z80
      refine hK.out _ _ hk4.out (fun hHeld => ?_)
      clear hK K
      try simp only [tpa, tpb, tpc, tpd, tpe]
      refine tk 24 ?_
      refine tk 25 ?_
      refine tk 26 ?_
      refine tr 27 fun K hK => ?_
      go_simp
      refine hK.out _ _ hk5.out (fun hHeld => ?_)
      clear hK K
      try simp only [tpa, tpb, tpc, tpd, tpe]
      refine td ?_
      go_wp2_with fail
      rw [HR.out, hz.out]
      exact ⟨rfl, _, ME.out, VE.out.k, VE.out.v⟩
     ·go_simp
      refine hK.out _ _ (show (fun w9 => Kpt (p.TE ve1) w2.heap.size w2 w9 ∧ w9.cell? ⟨p.M, 0, none⟩ = some (.pointer (some ⟨p.X, 0, none⟩))) (w3.alloc (.cells #[.int .u32 0, .int .u32 hrec.number, .slice za l.length zc, .int .u32 rv] 127)) from ⟨S3.out.1.trans (Kpt.of (((Below.refl w3.heap.size w3).alloc (Nat.le_refl _) _).mono S3.out.1.size)), cell_on S3.out.2 ((Below.refl w3.heap.size w3).alloc (Nat.le_refl _) _)⟩) (fun hHeld => ?_)
      clear hK K
      try simp only [tpa, tpb, tpc, tpd, tpe]
      refine tr 5 fun K hK => ?_
      go_simp
      refine hK.out _ _ (show (fun w9 => Kpt (p.TE ve1) w2.heap.size w2 w9 ∧ w9.cell? ⟨p.M, 0, none⟩ = some (.pointer (some ⟨p.X, 0, none⟩))) (w3.alloc (.cells #[.int .u32 0, .int .u32 hrec.number, .slice za l.length zc, .int .u32 rv] 127)) from ⟨S3.out.1.trans (Kpt.of (((Below.refl w3.heap.size w3).alloc (Nat.le_refl _) _).mono S3.out.1.size)), cell_on S3.out.2 ((Below.refl w3.heap.size w3).alloc (Nat.le_refl _) _)⟩) (fun hHeld => ?_)
      clear hK K
      try simp only [tpa, tpb, tpc, tpd, tpe]
      refine tr 23 fun K hK => ?_
      refine step_append_str rfl _ _ 54 rfl n 127 127 (.agg #[.int .u32 0, .int .u32 0, .slice none 0 0, .int .u32 0]) 4 40 1 Tryz.underlying54 (by kernel_rfl) rfl (by decide) ve1.v m1.evs.length (evcells m1.evs ve1.vas ats) [.int .u32 0, .int .u32 hrec.number, .slice za l.length zc, .int .u32 rv] (0, 0) hHe.out.row rfl (by simp [Value.oneCell']) (by unfold maxLen; omega) (by omega) hn3 rfl rfl ?_
      intro v' w4 hA
      obtain ⟨na, nc, rfl, -⟩ := own_shape2 hA.own
      have ME := hid (M3.out.event hHe.out hA (by have r3 := R3.out; rw [← HL.out] at r3; exact own_weaken r3 HWN.out))
      have VE := hid (V3.out.event hA (fun b hb => (R3.out.lt b hb).1))
      have hbM4 := hbM3.on hA.grown (hbM3.not_row hHe.out.row (by decide))
      have f84 := hbM4.free 8
      have z84 := hbM4.cell 8
      have z80 : w4.cell? ⟨p.M, 0, none⟩ = some (.pointer (some ⟨p.X, 0, none⟩)) := by simpa using hbM4.cell 0
      simp at z84
      have hk4 := hid (show (fun w9 => Kpt (p.TE ve1) w2.heap.size w2 w9 ∧ w9.cell? ⟨p.M, 0, none⟩ = some (.pointer (some ⟨p.X, 0, none⟩))) w4 from ⟨S3.out.1.trans (Kpt.gr hA.grown S3.out.1.size fun k e => .inl (.inr e)), z80⟩)
      have hk5 := hid (show (fun w9 => Kpt (p.TE ve1) w2.heap.size w2 w9 ∧ w9.cell? ⟨p.M, 0, none⟩ = some (.pointer (some ⟨p.X, 0, none⟩))) (w4.setCell ⟨p.M, 8, none⟩ (.slice na (m1.evs.length + 1) nc)) from ⟨hk4.out.1.trans (Kpt.gr (grown_setCell w4 ⟨p.M, 8, none⟩ (.slice na (m1.evs.length + 1) nc)) hk4.out.1.size fun k e => by cases e; exact .inl (.inl (.inl rfl))), by simpa using (hbM4.set 8 (.slice na (m1.evs.length + 1) nc)).cell 0⟩)
      clear hA hbM4 z80
      refine hK.out _ _ hk4.out (fun hHeld => ?_)
      clear hK K
      try simp only [tpa, tpb, tpc, tpd, tpe]
      refine tk 24 ?_
      refine tk 25 ?_
      refine tk 26 ?_
      refine tr 27 fun K hK => ?_
      go_simp
      refine hK.out _ _ hk5.out (fun hHeld => ?_)
      clear hK K
      try simp only [tpa, tpb, tpc, tpd, tpe]
      refine td ?_
      go_wp2_with fail
      rw [HR.out, hz.out]
      exact ⟨rfl, _, ME.out, VE.out.k, VE.out.v⟩
  | cons h0 kk rest =>
   simp only [Exs.len] at hj
   obtain ⟨hgt, hrd⟩ := exs_drop (show (h0, kk) :: rest.toL = kids.toL.drop j from hr)
   obtain ⟨b9, o9, cp9, t, xa, xc, hk1, hk2, hk3⟩ := (KT.out wr ve1 hV1).kid j (h0, kk) hgt
   obtain ⟨rfl, hlk, rfl⟩ : ka = some ⟨b9, o9, none⟩ ∧ len = kids.len ∧ kc = cp9 := by simpa using hk1
   obtain ⟨ty9, hx9, -⟩ := tyE_xt KX.out.1 KX.out.2.1 j (h0, kk) hgt
   obtain ⟨hw9, hw8⟩ := Exs.wf_at KX.out.2.2 j (h0, kk) hgt
   have hnl := HP.out.nl hnlA.out
   have hkid := hk2.sub (cells_only _ _)
   obtain ⟨c0, c1, c2, c3, c4, c5⟩ := h0
   obtain ⟨y0, y1, y2, y3, y4, y5, y6⟩ := hkid
   simp only [] at y1 y2 y3 y4 y5 y6
   have BW := hid ((Below.refl wr.heap.size wr).alloc (Nat.le_refl _) (.cells #[.int .i64 t, .int .u8 c1, .int .u32 c2, .int .u8 c3, .string c4, .string c5, .slice xa kk.len xc] 134))
   have XB := hid (hX1.below BW.out)
   have cx := hid (HE.out d m1 ve1 F fb g cap ms t ⟨c0, c1, c2, c3, c4, c5⟩ kk (.slice xa kk.len xc) ty9 _ hx9 hw9 hw8 (hk3.sub (cells_old_below BW.out)) XB.out hnl)
   have HRD := hid hrd
   have hjl : j < len := by omega
   have z6 : wr.cell? ⟨w.heap.size, 6, none⟩ = some (.slice (some ⟨b9, o9, none⟩) len kc) := by simpa using hbx.cell 6
   have hlim : len ≤ 15 := hln
   have HRL := hid hj
   clear hk1 hk2 hk3 hx9 hw9 hw8 hr hl hu hpre hown hX1 hV1 hbx hva hgt hrd hj hlk HLN hln
   go_wp2_with fail
   refine cx.out.mono ?_
   intro e w2 hp
   clear cx
   cases ho : (evl cf k).E d (bareF fb) ⟨c0, c1, c2, c3, c4, c5⟩ kk m1 with
   | lost => exact absurd ho hnl
   | stop a b m2 =>
    rw [ho] at hp
    obtain ⟨rfl, ve2, d2, hM2, hV2⟩ := hp
    have hz := hid (show exprB cf (evl cf k) d (bareF fb) ⟨a0, 5, a2, a3, a4, a5⟩ kids m = .stop a b m2 by rw [hh.out, HP.out.stop ho]; rfl)
    have F1 : Hid (PostM p cf.allowed n d w.heap.size ve (fun x => .returned (.int .u32 x)) (.stop a b m2) w (endE a b) w2) := hid (fin_stop hM2 (HV1.out.trans ((KV.of p ve1 BW.out).trans hV2)) rfl)
    clear hM2 hV2 ho hnl hh
    go_wp2_with fail
    refine bp_panic ?_
    rw [HR.out, hz.out]
    exact F1.out
   | ok x m2 =>
    rw [ho] at hp
    obtain ⟨rfl, hU2, ve2, hX2, hV2⟩ := hp
    have hO2 := hid (XB.out.rowKeep (ownsRow_at HO.out BW.out) HWN.out hV2)
    have hzl := hid (fun b hb => (ownsRow_at HO.out BW.out).lt b hb)
    have hsz : w.heap.size ≤ w2.heap.size := Nat.le_trans HV1.out.size (Nat.le_trans BW.out.size hV2.size)
    have hva2 := hid (show ∀ y ∈ ve2.vas, ∀ b, z0.ownBlock = some b → y.ownBlock ≠ some b from fun y hy b hb e => by
     rcases hV2.v.2 y hy with q | q
     ·exact HVA.out y q b hb e
     ·have h1 := q b e
      have h2 := (hzl.out b hb).2
      omega)
    have V2 := hid (HV1.out.trans ((KV.of p ve1 BW.out).trans hV2))
    have X2 := hid hX2
    have bx2 := hid (hV2.k.box (HBX.out.on (grown_of_below BW.out) (by simp)) (HBX.out.on (grown_of_below BW.out) (by simp)).lt (XB.out.c.me.notBox (HBX.out.on (grown_of_below BW.out) (by simp)) (by decide) (by decide) (by decide)))
    have PS := hid (HP.out.step ho)
    have UU := hid hU2
    clear hX2 hV2 ho hnl hU2
    go_wp2_with (at_builtin; refine wpList_append_str rfl _ _ 27 rfl w.heap.size 52 52 (.int .u32 0) 1 4 1 Tryz.underlying27 (by kernel_rfl) rfl (by decide) _ j _ [_] (0, 0) hO2.out rfl (by simp [Value.oneCell']) (by unfold maxLen; omega) (by omega) hsz rfl rfl ?_; intro v' w' hA; have hA' := hid hA; clear hA)
    exact ⟨⟨j + 1, rest, l ++ [x], m2, ve2, _, rfl, by have := HRL.out; omega, by go_num, HRD.out, by simp [HL.out], fun y hy => (List.mem_append.1 hy).elim (HU.out y) (fun q => by simp at q; subst q; exact UU.out), PS.out, by simpa using hA'.out.own, X2.out.row52 hO2.out HWN.out hva2.out hA'.out.grown, ⟨V2.out.k.trans (Kpt.gr hA'.out.grown V2.out.size fun k e => .inr (hO2.out.lt k e).1), V2.out.v⟩, bx2.out.on hA'.out.grown (bx2.out.not_row hO2.out (by decide)), fun y hy b hb e => by
     rcases hA'.out.place with q | ⟨g9, q, q2, -⟩
     ·exact hva2.out y hy b (q ▸ hb) e
     ·rw [q] at hb
      cases hb
      have := X2.out.c.me.vasLt hy e
      omega⟩, by simp only [intOf]; omega⟩
end
end Go.Proofs.YtlabadkfkbenoaaGreatDoor
