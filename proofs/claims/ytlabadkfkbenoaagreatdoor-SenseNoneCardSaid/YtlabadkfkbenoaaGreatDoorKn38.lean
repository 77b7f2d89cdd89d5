/- Walks and plain laws, merged: IntT. No condition. -/
import Derived.Test.YtlabadkfkbenoaaGreatDoorKn37
namespace Go.Proofs.YtlabadkfkbenoaaGreatDoor
open Go.RowKit
set_option linter.unusedVariables false
set_option linter.unusedSimpArgs false
set_option maxRecDepth 100000
section
open Go.Shelf
/-- what comes of a walk that may alter the frame -/
def PostS (p : Pt) (cf : Cf) (u : UT) (n : Nat) (shp : List Nat) (d F : Nat) (ve : EvS) (old : Nat → Prop) {α : Type} (P : α → Prop) (fr : α → Fr) (f : α → Ending) (o : Out α) (w : World) (e : Ending) (w' : World) : Prop := match o with
 | .ok x m => e = f x ∧ P x ∧ ∃ ve' fb' g' cap' ms', bareF fb' = fr x ∧ CtX p cf u n shp d m ve' F fb' g' cap' ms' w' ∧ KS p ve ve' old (FS F g' ms' fb') w w'
 | .stop x y m => e = endE x y ∧ ∃ ve' d', MeR p cf.allowed n d' m ve' w' ∧ KS p ve ve' old (fun _ => False) w w'
 | .lost => True
theorem KS.weak {p : Pt} {ve ve1 : EvS} {old new : Nat → Prop} {w w1 : World} (h : KS p ve ve1 old new w w1) : KS p ve ve1 old (fun _ => False) w w1 := ⟨h.k, h.v, fun _ h => h.elim⟩
section
variable {p : Pt} {cf : Cf} {u : UT} {n : Nat} {shp : List Nat} {d : Nat} {m : MS} {ve : EvS} {F : Nat} {fb : List BSc} {g cap : Nat} {ms : List Nat} {w w' : World}
theorem finS_ok {α : Type} {P : α → Prop} {fr : α → Fr} {f : α → Ending} {x : α} {old : Nat → Prop} {e : Ending} {ve0 : EvS} {w0 : World} (hX : CtX p cf u n shp d m ve F fb g cap ms w) (hb : bareF fb = fr x) (hP : P x) (hK : KS p ve0 ve old (FS F g ms fb) w0 w) (he : e = f x) : PostS p cf u n shp d F ve0 old P fr f (.ok x m) w0 e w :=
 ⟨he, hP, ve, fb, g, cap, ms, hb, hX, hK⟩
theorem finS_stop {α : Type} {P : α → Prop} {fr : α → Fr} {f : α → Ending} {x y : Int} {old new : Nat → Prop} {e : Ending} {ve0 : EvS} {w0 : World} {d' : Nat} (hM : MeR p cf.allowed n d' m ve w) (hK : KS p ve0 ve old new w0 w) (he : e = endE x y) : PostS p cf u n shp d F ve0 old P fr f (.stop x y m) w0 e w :=
 ⟨he, ve, d', hM, hK.weak⟩
theorem PostS.chain {α : Type} {P : α → Prop} {fr : α → Fr} {f : α → Ending} {o : Out α} {old mid : Nat → Prop} {e : Ending} {ve0 ve1 : EvS} {w0 w1 w2 : World} (hK : KS p ve0 ve1 old mid w0 w1) (h : PostS p cf u n shp d F ve1 mid P fr f o w1 e w2) : PostS p cf u n shp d F ve0 old P fr f o w0 e w2 := by
 cases o with
 | ok x m =>
  obtain ⟨h1, h2, ve', fb', g', cap', ms', h3, h4, h5⟩ := h
  exact ⟨h1, h2, ve', fb', g', cap', ms', h3, h4, hK.trans h5⟩
 | stop x y m =>
  obtain ⟨h1, ve', d', h2, h3⟩ := h
  exact ⟨h1, ve', d', h2, hK.trans h3⟩
 | lost => trivial
/-- where a name's word stands -/
def Plc (p : Pt) (cf : Cf) (fb : List BSc) (s : ByteArray) (b : Nat) : Prop :=
 (∃ x, seesB s fb = some x ∧ b = x.2) ∨ (seesB s fb = none ∧ ∃ (i : Nat) (hi : i < p.xs.length), placeOf cf s = i ∧ b = rowB p.xs[i] ∧ p.xs[i].ownBlock = some b)
theorem CtX.placed (hX : CtX p cf u n shp d m ve F fb g cap ms w) {s : ByteArray} {b : Nat} (hb : Plc p cf fb s b) : w.cell? ⟨b, 0, none⟩ = some (.int .u32 (readV cf (bareF fb) m s).2) ∧ w.frozen? ⟨b, 0, none⟩ = false := by
 unfold readV
 rw [seesB_bare]
 rcases hb with ⟨x, q1, rfl⟩ | ⟨q1, i, hi, hp, rfl, hob⟩
 ·rw [q1]
  obtain ⟨sc, r1, r2⟩ := seesB_mem q1
  have hb := hX.c.fr.boxes sc r1 _ r2
  exact ⟨by simpa using hb.cell 0, hb.free 0⟩
 ·rw [q1]
  have hi2 : i < m.held.length := by have := hX.c.me.len; omega
  have hw := hX.c.me.words i hi hi2
  have hl0 := (hX.c.pos _ (List.getElem_mem hi2)).1
  obtain ⟨gx, cx, e1, k1, k2⟩ := row_shape hw hl0
  have hr : rowB p.xs[i] = gx := by rw [e1]; rfl
  obtain ⟨cs, hbx⟩ := row_block hw hob
  refine ⟨?_, hbx.free 0⟩
  rw [hr]
  have hw2 := hw
  rw [e1] at hw2
  have := hw2.cellAt 0 (by omega)
  rw [this]
  simp only [Option.map_none, wordsAt, hp, List.getD_eq_getElem?_getD, List.getElem?_eq_getElem hi2, Option.getD_some]
  simp [hl0]
/-- a name is given a word -/
theorem CtX.write (hX : CtX p cf u n shp d m ve F fb g cap ms w) {s : ByteArray} {b : Nat} (hb : Plc p cf fb s b) {v : Int} (hv : U v) :
  ∃ fb', bareF fb' = (writeV cf (bareF fb) m s v).1 ∧ CtX p cf u n shp d (writeV cf (bareF fb) m s v).2 ve F fb' g cap ms (w.setCell ⟨b, 0, none⟩ (.int .u32 v)) ∧ KS p ve ve (FS F g ms fb) (FS F g ms fb') w (w.setCell ⟨b, 0, none⟩ (.int .u32 v)) := by
 unfold writeV
 rw [seesB_bare]
 rcases hb with ⟨x, q1, rfl⟩ | ⟨q1, i, hi, hp, -, hob⟩
 ·rw [q1]
  obtain ⟨h1, h2⟩ := hX.setL q1 hv
  exact ⟨setB s v fb, setB_bare s v fb, h1, h2⟩
 ·rw [q1]
  obtain ⟨h1, h2⟩ := hX.setW (s := s) hi hp hob 0 hv
  exact ⟨fb, rfl, h1, h2.ks _⟩
theorem CtX.wordP (hX : CtX p cf u n shp d m ve F fb g cap ms w) {s : ByteArray} {ty : Int} (ht : varT cf.vs (tysF fb) s = .ok ty) :
  ∃ b, Plc p cf fb s b ∧ (readV cf (bareF fb) m s).1 = ty ∧
   Calls Tryz.prog 76 #[.pointer (some ⟨p.M, 0, none⟩), .pointer (some ⟨F, 0, none⟩), .string s] w fun e w' => e = .returned (.tuple #[.pointer (some ⟨b, 0, none⟩), .int .u8 ty]) ∧ Below w.heap.size w w' := by
 obtain ⟨b, ⟨r1, -, -, r4⟩, c⟩ := hX.word ht
 exact ⟨b, r4, r1, c⟩
/-- where an array's element stands -/
theorem CtX.elem (hX : CtX p cf u n shp d m ve F fb g cap ms w) {s : ByteArray} {t ln : Int} (hv : getM s cf.vs = some (t, ln)) :
  ∃ (i gx : Nat) (hi : i < p.xs.length) (hi2 : i < m.held.length), getM s cf.pl = some (i : Int) ∧ placeOf cf s = i ∧ p.xs[i].ownBlock = some gx ∧ rowB p.xs[i] = gx ∧ wordsAt cf m s = m.held[i] := by
 obtain ⟨i, hp, hi⟩ := hX.c.st.pl s _ hv
 have hi2 : i < m.held.length := by have := hX.c.me.len; omega
 have hpl : placeOf cf s = i := by unfold placeOf; rw [hp]; rfl
 obtain ⟨gx, cx, e1, -, -⟩ := row_shape (hX.c.me.words i hi hi2) (hX.c.pos _ (List.getElem_mem hi2)).1
 exact ⟨i, gx, hi, hi2, hp, hpl, by rw [e1]; rfl, by rw [e1]; rfl, by unfold wordsAt; rw [hpl, List.getD_eq_getElem?_getD, List.getElem?_eq_getElem hi2]; rfl⟩
theorem CtX.elemCell (hX : CtX p cf u n shp d m ve F fb g cap ms w) {i gx : Nat} (hi : i < p.xs.length) (hi2 : i < m.held.length) (hb : p.xs[i].ownBlock = some gx) (j : Nat) (hj : j < m.held[i].length) : w.cell? ⟨gx, j, none⟩ = some (.int .u32 m.held[i][j]) ∧ w.frozen? ⟨gx, j, none⟩ = false := by
 have hw := hX.c.me.words i hi hi2
 obtain ⟨cs, hbx⟩ := row_block hw hb
 refine ⟨?_, hbx.free j⟩
 obtain ⟨gx', cx, e1, -, -⟩ := row_shape hw (by omega)
 have : gx' = gx := by rw [e1] at hb; simpa [Value.ownBlock] using hb
 subst this
 rw [e1] at hw
 have := hw.cellAt j (by omega)
 rw [this]
 simp [hj]
end
theorem KS.kk {p : Pt} {ve ve1 : EvS} {old new : Nat → Prop} {w w1 : World} (h : KS p ve ve1 old new w w1) : Kpt (fun b => p.TE ve b ∨ old b) w.heap.size w w1 := h.k
/-- a statement in memory: its lists, at every later world of the call -/
theorem CtX.oldKS {p : Pt} {cf : Cf} {u : UT} {n : Nat} {shp : List Nat} {d : Nat} {m : MS} {ve : EvS} {F : Nat} {fb : List BSc} {g cap : Nat} {ms : List Nat} {w w' : World} (hX : CtX p cf u n shp d m ve F fb g cap ms w) (hk : Kpt (fun b => p.TE ve b ∨ FS F g ms fb b) w.heap.size w w') : Cells (onlyW w (oldB p.B)) (onlyW w' (oldB p.B)) :=
 (hk.mono hX.c.me.size (U := p.TE ve) fun b hb q => q.elim id fun q => by have := (hX.c.fr.fs q).1; omega).cells fun b hb => ⟨by have := hX.c.st.Bn; simp at hb; omega, hX.c.me.old hX.c.st.M hX.c.st.Bn (by simpa using hb)⟩
/-- a box that is none of the frame's stays -/
theorem CtX.boxKS {p : Pt} {cf : Cf} {u : UT} {n : Nat} {shp : List Nat} {d : Nat} {m : MS} {ve : EvS} {F : Nat} {fb : List BSc} {g cap : Nat} {ms : List Nat} {w w' : World} (hX : CtX p cf u n shp d m ve F fb g cap ms w) (hk : Kpt (fun b => p.TE ve b ∨ FS F g ms fb b) w.heap.size w w') {q : Nat} {cs : Array Value} {t : TypeId} (hb : Bx w q cs t) (h1 : t ≠ 119 ∧ t ≠ 52 ∧ t ≠ 127) (h2 : t ≠ 213 ∧ t ≠ 210 ∧ t ≠ 201) : Bx w' q cs t := by
 refine hk.box hb hb.lt ?_
 rintro (q1 | q1)
 ·exact hX.c.me.notBox hb h1.1 h1.2.1 h1.2.2 q1
 ·rcases q1 with rfl | rfl | q1 | ⟨y, hy, rfl⟩
  ·exact hb.ne_box hX.c.fr.box h2.1 rfl
  ·obtain ⟨cs2, hc⟩ := row_block hX.c.fr.row (b := q) rfl
   exact hb.ne_box hc h2.2.1 rfl
  ·obtain ⟨i, hi, rfl⟩ := List.getElem_of_mem q1
   exact hb.not_map (hX.c.fr.maps i hi (by have := hX.c.fr.len; omega)) rfl
  ·exact hb.ne_box (hX.c.fr.flat hy).1 h2.2.2 rfl
end
end Go.Proofs.YtlabadkfkbenoaaGreatDoor
