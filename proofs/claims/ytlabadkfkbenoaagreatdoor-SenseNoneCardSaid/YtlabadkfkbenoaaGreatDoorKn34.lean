/- Walks and plain laws, merged: IntQ IntR. No condition. -/
import Derived.Test.YtlabadkfkbenoaaGreatDoorKn31
namespace Go.Proofs.YtlabadkfkbenoaaGreatDoor
open Go.RowKit
set_option linter.unusedVariables false
set_option linter.unusedSimpArgs false
set_option maxRecDepth 100000
section
open Go.Shelf
theorem own_put {w : World} {base : Nat} {e : TypeId} {v : Value} {k : Nat} {ys : List Value} (h : w.ownsRow base e 1 v k ys) {g : Nat} (hg : v.ownBlock = some g) (i : Nat) (u : Value) : (w.setCell ⟨g, i, none⟩ u).ownsRow base e 1 v k (ys.set i u) := by
 obtain ⟨h1, h2⟩ := h
 refine ⟨by simpa using h1, ?_⟩
 rcases h2 with ⟨rfl, _⟩ | ⟨g', cap, cur, rfl, h3, h4, h5, h6, h7, h8⟩
 ·cases hg
 ·cases hg
  refine .inr ⟨g', cap, cur.set! i u, rfl, h3, Bx.set (w := w) (q := g') h4 i u, h5, h6, by simpa using h7, ?_⟩
  rw [← h8]
  simp [List.take_set]
/-! ### a local's word -/
def setB (s : ByteArray) (v : Int) : List BSc → List BSc
 | [] => []
 | c :: r => if (seesB s r).isSome then c :: setB s v r else match getM s c with
  | some x => putM s ((x.1.1, v), x.2) c :: r
  | none => c :: r
theorem seesB_from (s : ByteArray) : ∀ (fb : List BSc) (a : Option ((Int × Int) × Nat)), fb.foldl (fun a sc => match getM s sc with | some t => some t | none => a) a = match seesB s fb with | some x => some x | none => a
 | [], a => rfl
 | c :: r, a => by
  have ih := seesB_from s r
  have e : seesB s (c :: r) = r.foldl (fun a sc => match getM s sc with | some t => some t | none => a) (match getM s c with | some t => some t | none => none) := rfl
  rw [List.foldl_cons, e, ih, ih]
  cases seesB s r with
  | some x => rfl
  | none => cases getM s c <;> rfl
theorem seesB_cons (s : ByteArray) (c : BSc) (r : List BSc) : seesB s (c :: r) = match seesB s r with | some x => some x | none => getM s c := by
 have e : seesB s (c :: r) = r.foldl (fun a sc => match getM s sc with | some t => some t | none => a) (getM s c) := by
  unfold seesB
  simp only [List.foldl_cons]
  cases getM s c <;> rfl
 exact e.trans (seesB_from s r (getM s c))
theorem setB_bare (s : ByteArray) (v : Int) : ∀ fb : List BSc, bareF (setB s v fb) = setF s v (bareF fb)
 | [] => rfl
 | c :: r => by
  have h1 : seesF s (List.map bareSc r) = (seesB s r).map (·.1) := seesB_bare s r
  have h2 : getM s (bareSc c) = (getM s c).map (·.1) := getM_map (fun x : (Int × Int) × Nat => x.1) s c
  have ih := setB_bare s v r
  unfold bareF at ih ⊢
  simp only [setB, setF, List.map_cons, h1, h2]
  cases hs : seesB s r with
  | some x => simp only [Option.isSome_some, Option.map_some, if_true, List.map_cons, ih]
  | none =>
   simp only [Option.isSome_none, Option.map_none, Bool.false_eq_true, if_false]
   cases hg : getM s c with
   | none => simp
   | some x =>
    simp only [Option.map_some, List.map_cons, List.cons.injEq, and_true]
    exact (putM_map (fun x : (Int × Int) × Nat => x.1) s ((x.1.1, v), x.2) c).symm
theorem getM_at {α : Type} {s : ByteArray} {c : List (ByteArray × α)} {x : α} (h : getM s c = some x) (v : α) : ∃ j, c[j]? = some (s, x) ∧ putM s v c = c.set j (s, v) := by
 unfold getM at h
 cases hl : lookI s c 0 with
 | none => rw [hl] at h; cases h
 | some a =>
  obtain ⟨j, y⟩ := a
  rw [hl] at h
  have e : y = x := by simpa using h
  rw [e] at hl
  obtain ⟨h1, -, h3⟩ := lookI_some s x c j x hl
  refine ⟨j, h3, ?_⟩
  clear h
  revert hl
  suffices ∀ (c : List (ByteArray × α)) (j : Nat) (x : α), lookI s c 0 = some (j, x) → putM s v c = c.set j (s, v) from this c j x
  intro c
  induction c with
  | nil => intro j x h; cases h
  | cons z r ih =>
   intro j x h
   simp only [lookI] at h
   cases hq : s == z.1
   ·rw [hq, lookI_shift] at h
    simp only [Bool.false_eq_true, if_false] at h
    cases hr : lookI s r 0 with
    | none => rw [hr] at h; cases h
    | some a =>
     obtain ⟨a1, a2⟩ := a
     rw [hr] at h
     simp only [Option.map_some, Option.some.injEq, Prod.mk.injEq] at h
     obtain ⟨rfl, rfl⟩ := h
     simp only [putM, hq, Bool.false_eq_true, if_false, ih a1 a2 hr, Nat.zero_add, List.set_cons_succ]
   ·rw [hq] at h
    simp only [if_true, Option.some.injEq, Prod.mk.injEq] at h
    obtain ⟨rfl, rfl⟩ := h
    simp [putM, hq]
theorem nodup_ne {α β : Type} {f : α → β} {l : List α} (nd : (l.map f).Nodup) {i j : Nat} (hi : i < l.length) (hj : j < l.length) (hij : i ≠ j) : f l[i] ≠ f l[j] := by
 have h := List.pairwise_iff_getElem.1 nd
 rcases Nat.lt_or_ge i j with q | q
 ·have := h i j (by simpa using hi) (by simpa using hj) q
  simpa using this
 ·have := h j i (by simpa using hj) (by simpa using hi) (by omega)
  have h2 : f l[j] ≠ f l[i] := by simpa using this
  exact h2.symm
abbrev entF (sc : BSc) : List (ByteArray × Value) := sc.map fun x => (x.1, ptrv x.2)
theorem setB_spec {s : ByteArray} {v : Int} {x : (Int × Int) × Nat} : ∀ {fb : List BSc}, seesB s fb = some x → ∃ i, fb.flatten[i]? = some (s, x) ∧ (setB s v fb).flatten = fb.flatten.set i (s, ((x.1.1, v), x.2)) ∧ (setB s v fb).map entF = fb.map entF
 | [], h => by cases h
 | c :: r, h => by
  rw [seesB_cons] at h
  cases hs : seesB s r with
  | some y =>
   rw [hs] at h
   cases h
   obtain ⟨i, h1, h2, h3⟩ := setB_spec (v := v) hs
   refine ⟨c.length + i, ?_, ?_, ?_⟩
   ·rw [List.flatten_cons, List.getElem?_append_right (by omega)]
    simpa using h1
   ·simp only [setB, hs, Option.isSome_some, if_true, List.flatten_cons, h2]
    rw [List.set_append_right _ _ (by omega)]
    simp
   ·simp only [setB, hs, Option.isSome_some, if_true, List.map_cons, h3]
  | none =>
   rw [hs] at h
   simp only [] at h
   obtain ⟨j, h1, h2⟩ := getM_at h ((x.1.1, v), x.2)
   have hj : j < c.length := (List.getElem?_eq_some_iff.1 h1).1
   refine ⟨j, ?_, ?_, ?_⟩
   ·rw [List.flatten_cons, List.getElem?_append_left hj, h1]
   ·simp only [setB, hs, Option.isSome_none, Bool.false_eq_true, if_false, h, List.flatten_cons, h2]
    rw [List.set_append_left _ _ hj]
   ·simp only [setB, hs, Option.isSome_none, Bool.false_eq_true, if_false, h, List.map_cons, List.cons.injEq, and_true]
    have e := (putM_map (fun y : (Int × Int) × Nat => ptrv y) s ((x.1.1, v), x.2) c).symm
    show (putM s ((x.1.1, v), x.2) c).map (fun y => (y.1, ptrv y.2)) = _
    rw [e]
    have h4 : getM s (c.map fun y => (y.1, ptrv y.2)) = some (ptrv x) := by rw [getM_map ptrv, h]; rfl
    obtain ⟨j2, h5, h6⟩ := getM_at h4 (ptrv ((x.1.1, v), x.2))
    rw [h6]
    apply List.ext_getElem?
    intro i
    rw [List.getElem?_set]
    split
    ·rename_i he
     subst he
     split
     ·exact h5.symm
     ·rename_i hh
      exact absurd (List.getElem?_eq_some_iff.1 h5).1 hh
    ·rfl
section
variable {w w' : World} {n F : Nat} {fb : List BSc} {g cap : Nat} {ms : List Nat}
theorem FrR.flat (h : FrR w n F fb g cap ms) {y : ByteArray × ((Int × Int) × Nat)} (hy : y ∈ fb.flatten) : Bx w y.2.2 #[.int .u32 y.2.1.2, .int .u8 y.2.1.1] 201 ∧ n ≤ y.2.2 := by
 obtain ⟨sc, h1, h2⟩ := List.mem_flatten.1 hy
 exact ⟨h.boxes sc h1 y h2, h.far.2.1 sc h1 y h2⟩
theorem FrR.setL (h : FrR w n F fb g cap ms) {s : ByteArray} {x : (Int × Int) × Nat} (hx : seesB s fb = some x) (v : Int) : FrR (w.setCell ⟨x.2, 0, none⟩ (.int .u32 v)) n F (setB s v fb) g cap ms := by
 have hg := grown_setCell w ⟨x.2, 0, none⟩ (.int .u32 v)
 obtain ⟨i, h1, h2, h3⟩ := setB_spec (v := v) hx
 have hl : (setB s v fb).length = fb.length := by simpa using congrArg List.length h3
 have hm := List.mem_of_getElem? h1
 have hb := (h.flat hm).1
 have new : Bx (w.setCell ⟨x.2, 0, none⟩ (.int .u32 v)) x.2 #[.int .u32 v, .int .u8 x.1.1] 201 := by simpa using hb.set 0 (.int .u32 v)
 have each : ∀ y ∈ (setB s v fb).flatten, Bx (w.setCell ⟨x.2, 0, none⟩ (.int .u32 v)) y.2.2 #[.int .u32 y.2.1.2, .int .u8 y.2.1.1] 201 ∧ n ≤ y.2.2 := by
  intro y hy
  rw [h2] at hy
  obtain ⟨j, hj, rfl⟩ := List.getElem_of_mem hy
  by_cases hij : i = j
  ·subst hij
   simp only [List.getElem_set_self]
   exact ⟨new, (h.flat hm).2⟩
  ·rw [List.getElem_set_ne hij]
   have hj2 : j < fb.flatten.length := by simpa using hj
   have hi2 := (List.getElem?_eq_some_iff.1 h1).1
   have e1 := (List.getElem?_eq_some_iff.1 h1).2
   refine ⟨(h.flat (List.getElem_mem hj2)).1.on hg ?_, (h.flat (List.getElem_mem hj2)).2⟩
   intro e
   have e2 : (fb.flatten[j]).2.2 = (fb.flatten[i]).2.2 := by rw [e1]; simpa using e
   exact nodup_ne (f := fun x : ByteArray × ((Int × Int) × Nat) => x.2.2) h.apart hj2 hi2 (fun e => hij e.symm) e2
 refine ⟨by rw [hl]; exact h.box.on hg (by have := h.box.ne_box hb (by decide); simpa using this), by rw [hl]; exact h.row.kept hg (.inr (by have := row_not_box hb h.row (by decide); simpa [Value.ownBlock] using this)), by rw [hl]; exact h.len, ?_, ?_, h.nd, ?_, ⟨h.far.1, fun sc q1 y q2 => (each y (List.mem_flatten.2 ⟨sc, q1, q2⟩)).2, h.far.2.2⟩, by rw [hl]; exact h.le⟩
 ·intro k k1 k2
  have e : entF ((setB s v fb)[k]) = entF (fb[k]'(by omega)) := by
   have := congrArg (fun l => l[k]?) h3
   simpa [k2, (by omega : k < fb.length)] using this
  rw [show ((setB s v fb)[k].map fun x => (x.1, ptrv x.2)) = entF ((setB s v fb)[k]) from rfl, e]
  have hmp := h.maps k k1 (by omega)
  exact hmp.on hg (by have := hb.not_map hmp; simpa using this)
 ·intro sc q1 y q2
  exact (each y (List.mem_flatten.2 ⟨sc, q1, q2⟩)).1
 ·rw [h2, List.map_set]
  have : (fb.flatten.map fun x => x.2.2).set i x.2 = fb.flatten.map fun x => x.2.2 := by
   apply List.ext_getElem?
   intro j
   rw [List.getElem?_set]
   split
   ·rename_i he
    subst he
    split
    ·rw [List.getElem?_map, h1]; rfl
    ·rename_i hh
     rw [List.getElem?_eq_none (by omega)]
   ·rfl
  rw [this]
  exact h.apart
end
/-! ### blocks of a frame -/
def FS (F g : Nat) (ms : List Nat) (fb : List BSc) (b : Nat) : Prop := b = F ∨ b = g ∨ b ∈ ms ∨ ∃ y ∈ fb.flatten, y.2.2 = b
theorem FrR.fs {w : World} {n F : Nat} {fb : List BSc} {g cap : Nat} {ms : List Nat} (h : FrR w n F fb g cap ms) {b : Nat} (hb : FS F g ms fb b) : n ≤ b ∧ b < w.heap.size := by
 rcases hb with rfl | rfl | hb | ⟨y, hy, rfl⟩
 ·exact ⟨h.far.2.2, h.box.lt⟩
 ·exact h.row.lt _ rfl
 ·refine ⟨h.far.1 b hb, ?_⟩
  obtain ⟨i, hi, rfl⟩ := List.getElem_of_mem hb
  exact (h.maps i hi (by have := h.len; omega)).lt
 ·exact ⟨(h.flat hy).2, (h.flat hy).1.lt⟩
/-- from one world of a call to another, where a frame may be altered -/
structure KS (p : Pt) (ve ve1 : EvS) (old new : Nat → Prop) (w w1 : World) : Prop where
 k : Kpt (fun b => p.TE ve b ∨ old b) w.heap.size w w1
 v : Vc ve ve1 w.heap.size
 f : ∀ b, new b → old b ∨ w.heap.size ≤ b
theorem KS.size {p : Pt} {ve ve1 : EvS} {old new : Nat → Prop} {w w1 : World} (h : KS p ve ve1 old new w w1) : w.heap.size ≤ w1.heap.size := h.k.size
theorem KS.refl (p : Pt) (ve : EvS) (old : Nat → Prop) (w : World) : KS p ve ve old old w w := ⟨Kpt.refl _ _ _, Vc.refl _ _, fun _ h => .inl h⟩
theorem KV.ks {p : Pt} {ve ve1 : EvS} {w w1 : World} (h : KV p ve ve1 w w1) (old : Nat → Prop) : KS p ve ve1 old old w w1 := ⟨h.k.mono (Nat.le_refl _) fun b _ q => .inl q, h.v, fun _ h => .inl h⟩
theorem KS.trans {p : Pt} {ve ve1 ve2 : EvS} {old mid new : Nat → Prop} {w w1 w2 : World} (h : KS p ve ve1 old mid w w1) (h2 : KS p ve1 ve2 mid new w1 w2) : KS p ve ve2 old new w w2 :=
 ⟨h.k.trans (h2.k.mono h.size fun b hb q => by
  rcases q with q | q
  ·exact .inl (TE_back h.v hb q)
  ·rcases h.f b q with r | r
   ·exact .inr r
   ·omega), h.v.trans h2.v h.size, fun b hb => by
  rcases h2.f b hb with q | q
  ·exact h.f b q
  ·exact .inr (Nat.le_trans h.size q)⟩
theorem KS.below {p : Pt} {ve ve1 : EvS} {old new : Nat → Prop} {w w1 w2 : World} (h : KS p ve ve1 old new w w1) (hb : Below w1.heap.size w1 w2) : KS p ve ve1 old new w w2 := h.trans ((KV.of p ve1 hb).ks new)
/-- one block of the frame -/
theorem KS.one {p : Pt} {ve : EvS} {old new : Nat → Prop} {w w1 : World} {b : Nat} (hg : w.grownBy w1 (some b)) (hb : old b) (hf : ∀ b, new b → old b ∨ w.heap.size ≤ b) : KS p ve ve old new w w1 :=
 ⟨Kpt.gr hg (Nat.le_refl _) fun k e => by cases e; exact .inl (.inr hb), Vc.refl _ _, hf⟩
/-- a block that is none of a call's, nor a row of words or events -/
def Aside (w : World) (b : Nat) : Prop := (∃ cs t, Bx w b cs t ∧ t ≠ 119 ∧ t ≠ 52 ∧ t ≠ 127) ∨ ∃ es c, w.heap[b]? = some (.map es c)
theorem Aside.row {w : World} {b base size k : Nat} {e : TypeId} {v : Value} {ys : List Value} (h : Aside w b) (hr : w.ownsRow base e size v k ys) (he : e = 52 ∨ e = 127) : v.ownBlock ≠ some b := fun hq => by
 obtain ⟨cs, hb⟩ := row_block hr hq
 unfold Bx at hb
 rcases h with ⟨cs2, t, h1, h2, h3, h4⟩ | ⟨es, c, h1⟩
 ·unfold Bx at h1
  rw [h1] at hb
  simp at hb
  obtain ⟨-, rfl⟩ := hb
  rcases he with q | q
  ·exact h3 q
  ·exact h4 q
 ·rw [h1] at hb; cases hb
theorem MeR.aside {p : Pt} {a n d : Nat} {m : MS} {ve : EvS} {w w' : World} (h : MeR p a n d m ve w) {b : Nat} (hb : Aside w b) (hg : w.grownBy w' (some b)) : MeR p a n d m ve w' := by
 obtain ⟨en, va, fa, hx⟩ := h.box
 obtain ⟨ats, he⟩ := h.evs
 have hM : some p.M ≠ some b := by
  intro e
  cases e
  unfold Bx at hx
  rcases hb with ⟨cs2, t, h1, h2, h3, h4⟩ | ⟨es, c, h1⟩
  ·unfold Bx at h1
   rw [h1] at hx
   simp at hx
   exact h2 hx.2
  ·rw [h1] at hx; cases hx
 have kp : ∀ {base size k : Nat} {e : TypeId} {v : Value} {ys : List Value}, w.ownsRow base e size v k ys → (e = 52 ∨ e = 127) → w'.ownsRow base e size v k ys := fun {base size k e v ys} hr h1 => hr.kept hg (.inr (hb.row hr h1))
 exact ⟨⟨en, va, fa, hx.on hg hM⟩, h.len, fun i h1 h2 => kp (h.words i h1 h2) (.inl rfl), h.nd, ⟨ats, he.len, he.at_, kp he.row (.inr rfl), fun i h1 h2 => kp (he.args i h1 h2) (.inl rfl)⟩, Nat.le_trans h.size hg.size, h.mlt⟩
section
variable {p : Pt} {cf : Cf} {u : UT} {n : Nat} {shp : List Nat} {d : Nat} {m : MS} {ve : EvS} {F : Nat} {fb : List BSc} {g cap : Nat} {ms : List Nat} {w w' : World}
theorem CtX.aside (hX : CtX p cf u n shp d m ve F fb g cap ms w) {b : Nat} (hb : Aside w b) (hn : n ≤ b) (hg : w.grownBy w' (some b)) {fb1 : List BSc} {g1 cap1 : Nat} {ms1 : List Nat} (hF : FrR w' n F fb1 g1 cap1 ms1) (hr : Fr.Rg (bareF fb1)) : CtX p cf u n shp d m ve F fb1 g1 cap1 ms1 w' :=
 ⟨⟨hX.c.st.move hX.c.me (k := n) (Kpt.gr hg hX.c.me.size fun k e => by cases e; exact .inr hn) (Nat.le_refl _), hX.c.me.aside hb hg, hF, hX.c.pos⟩, hX.inv, hX.rg, hr⟩
/-- a local is given another word -/
theorem CtX.setL (hX : CtX p cf u n shp d m ve F fb g cap ms w) {s : ByteArray} {x : (Int × Int) × Nat} (hx : seesB s fb = some x) {v : Int} (hv : U v) :
  CtX p cf u n shp d m ve F (setB s v fb) g cap ms (w.setCell ⟨x.2, 0, none⟩ (.int .u32 v)) ∧ KS p ve ve (FS F g ms fb) (FS F g ms (setB s v fb)) w (w.setCell ⟨x.2, 0, none⟩ (.int .u32 v)) := by
 obtain ⟨i, h1, h2, h3⟩ := setB_spec (v := v) hx
 have hm := List.mem_of_getElem? h1
 have hb := hX.c.fr.flat hm
 have hg := grown_setCell w ⟨x.2, 0, none⟩ (.int .u32 v)
 refine ⟨hX.aside (.inl ⟨_, _, hb.1, by decide, by decide, by decide⟩) hb.2 hg (hX.c.fr.setL hx v) (by rw [setB_bare]; exact setF_rg hv hX.frg), KS.one hg (.inr (.inr (.inr ⟨_, hm, rfl⟩))) fun b hq => .inl ?_⟩
 rcases hq with q | q | q | ⟨y, hy, q⟩
 ·exact .inl q
 ·exact .inr (.inl q)
 ·exact .inr (.inr (.inl q))
 ·refine .inr (.inr (.inr ?_))
  rw [h2] at hy
  rcases List.mem_or_eq_of_mem_set hy with r | r
  ·exact ⟨y, r, q⟩
  ·subst r; exact ⟨_, hm, q⟩
end
end
section
open Go.Shelf
section
variable {p : Pt} {cf : Cf} {u : UT} {n : Nat} {shp : List Nat} {d : Nat} {m : MS} {ve : EvS} {F : Nat} {fb : List BSc} {g cap : Nat} {ms : List Nat} {w w' : World}
theorem CtX.asideG (hX : CtX p cf u n shp d m ve F fb g cap ms w) : Aside w g := by
 obtain ⟨cs, hb⟩ := row_block hX.c.fr.row rfl
 exact .inl ⟨cs, _, hb, by decide, by decide, by decide⟩
theorem CtX.asideF (hX : CtX p cf u n shp d m ve F fb g cap ms w) : Aside w F := .inl ⟨_, _, hX.c.fr.box, by decide, by decide, by decide⟩
theorem FrR.map_ne (h : FrR w n F fb g cap ms) {b : Nat} {l : List (ByteArray × Value)} (hm : Mp w b l) : b ≠ g ∧ b ≠ F := ⟨row_not_map h.row hm, h.box.not_map hm⟩
theorem FrR.box_ne (h : FrR w n F fb g cap ms) {y : ByteArray × ((Int × Int) × Nat)} (hy : y ∈ fb.flatten) : y.2.2 ≠ g ∧ y.2.2 ≠ F := ⟨fun e => row_not_box (h.flat hy).1 h.row (by decide) e.symm, (h.flat hy).1.ne_box h.box (by decide)⟩
theorem mem_flat {fb : List BSc} {sc : BSc} {y : ByteArray × ((Int × Int) × Nat)} (h1 : sc ∈ fb) (h2 : y ∈ sc) : y ∈ fb.flatten := List.mem_flatten.2 ⟨sc, h1, h2⟩
set_option maxHeartbeats 1000000 in
/-- a new innermost scope -/
theorem CtX.push (hX : CtX p cf u n shp d m ve F fb g cap ms w) {w1 w2 : World} {v' : Value} (h1 : w1 = w.alloc (.map #[] 0))
  (hA : Appended w1 w2 n 210 1 (.slice (some ⟨g, 0, none⟩) fb.length cap) v' fb.length 1 (ms.map fun m => .map (some m)) [.map (some w.heap.size)]) (hle : fb.length + 1 ≤ 100000000) :
  ∃ g' cap', v' = .slice (some ⟨g', 0, none⟩) (fb.length + 1) cap' ∧ CtX p cf u n shp d m ve F (fb ++ [[]]) g' cap' (ms ++ [w.heap.size]) (w2.setCell ⟨F, 0, none⟩ v') ∧
   KS p ve ve (FS F g ms fb) (FS F g' (ms ++ [w.heap.size]) (fb ++ [[]])) w (w2.setCell ⟨F, 0, none⟩ v') := by
 obtain ⟨g', cap', rfl⟩ := ownsRow_succ' hA.own
 have b1 : Below w.heap.size w w1 := by rw [h1]; exact (Below.refl _ w).alloc (Nat.le_refl _) _
 have X1 := hX.below b1
 have f1 := X1.c.fr
 have f2 : FrR w2 n F fb g cap ms := ⟨f1.box.on hA.grown (f1.box.not_row f1.row (by decide)), hA.old, f1.len, fun i q1 q2 => (f1.maps i q1 q2).on hA.grown (by have := (f1.map_ne (f1.maps i q1 q2)).1; simpa [Value.ownBlock] using this),
  fun sc q1 y q2 => (f1.boxes sc q1 y q2).on hA.grown (by have := (f1.box_ne (mem_flat q1 q2)).1; simpa [Value.ownBlock] using this), f1.nd, f1.apart, f1.far, f1.le⟩
 have X2 := X1.aside X1.asideG (f1.row.lt _ rfl).1 hA.grown f2 hX.frg
 have hg := grown_setCell w2 ⟨F, 0, none⟩ (.slice (some ⟨g', 0, none⟩) (fb.length + 1) cap')
 have m1 : Mp w1 w.heap.size (entF []) := by rw [h1]; exact Mp.new w
 have m2 : Mp w2 w.heap.size (entF []) := m1.on hA.grown (by have := (f1.map_ne m1).1; simpa [Value.ownBlock] using this)
 have hfl : (fb ++ [[]]).flatten = fb.flatten := by simp
 have f3 : FrR (w2.setCell ⟨F, 0, none⟩ (.slice (some ⟨g', 0, none⟩) (fb.length + 1) cap')) n F (fb ++ [[]]) g' cap' (ms ++ [w.heap.size]) := by
  refine ⟨by simpa using f2.box.set 0 (.slice (some ⟨g', 0, none⟩) (fb.length + 1) cap'), ?_, by simp [f1.len], ?_, ?_, ?_, by rw [hfl]; exact f1.apart, ⟨?_, ?_, f1.far.2.2⟩, by simpa using hle⟩
  ·have := hA.own.kept hg (.inr (by have := f2.box.not_row hA.own (by decide); simpa [Value.ownBlock] using this.symm))
   simpa using this
  ·intro i q1 q2
   by_cases hi : i < fb.length
   ·have e1 : (ms ++ [w.heap.size])[i] = ms[i]'(by have := f1.len; omega) := List.getElem_append_left (by have := f1.len; omega)
    have e2 : (fb ++ [[]])[i] = fb[i] := List.getElem_append_left hi
    rw [e1, e2]
    have hm := f2.maps i (by have := f1.len; omega) hi
    exact hm.on hg (by have := (f2.map_ne hm).2; simpa using this)
   ·have hi2 : i = fb.length := by simp at q2; omega
    subst hi2
    have e1 : (ms ++ [w.heap.size])[fb.length] = w.heap.size := by rw [List.getElem_append_right (by have := f1.len; omega)]; simp
    have e2 : (fb ++ [[]])[fb.length] = [] := by rw [List.getElem_append_right (by omega)]; simp
    rw [e1, e2]
    exact m2.on hg (by have := (f2.map_ne m2).2; simpa using this)
  ·intro sc q1 y q2
   have hy : y ∈ fb.flatten := by rw [← hfl]; exact mem_flat q1 q2
   exact (f2.flat hy).1.on hg (by have := (f2.box_ne hy).2; simpa using this)
  ·rw [List.nodup_append]
   refine ⟨f1.nd, by simp, fun a ha b hb => ?_⟩
   obtain ⟨i, hi, rfl⟩ := List.getElem_of_mem ha
   have := (hX.c.fr.maps i hi (by have := f1.len; omega)).lt
   simp at hb
   omega
  ·intro q hq
   rcases List.mem_append.1 hq with hq | hq
   ·exact f1.far.1 q hq
   ·simp at hq
    rw [hq]
    exact hX.c.me.size
  ·intro sc q1 y q2
   exact (f1.flat (by rw [← hfl]; exact mem_flat q1 q2)).2
 have K : KS p ve ve (FS F g ms fb) (FS F g ms fb) w (w2.setCell ⟨F, 0, none⟩ (.slice (some ⟨g', 0, none⟩) (fb.length + 1) cap')) := (((KV.of p ve b1).ks _).trans (KS.one hA.grown (.inr (.inl rfl)) fun b hb => .inl hb)).trans (KS.one hg (.inl rfl) fun b hb => .inl hb)
 refine ⟨g', cap', rfl, X2.aside X2.asideF f2.far.2.2 hg f3 ?_, ⟨K.k, K.v, ?_⟩⟩
 ·intro sc q
  have : sc ∈ bareF fb ++ [[]] := by simpa [bareF] using q
  rcases List.mem_append.1 this with r | r
  ·exact hX.frg sc r
  ·simp at r; subst r; intro x hx; simp at hx
 ·intro b hb
  rcases hb with q | q | q | ⟨y, hy, q⟩
  ·exact .inl (.inl q)
  ·rcases hA.place with r | ⟨g0, r, r1, -⟩
   ·have : g' = g := by simpa [Value.ownBlock] using r
    exact .inl (.inr (.inl (q.trans this)))
   ·have : g' = g0 := by simpa [Value.ownBlock] using r
    have := b1.size
    exact .inr (by omega)
  ·rcases List.mem_append.1 q with r | r
   ·exact .inl (.inr (.inr (.inl r)))
   ·simp at r; exact .inr (by omega)
  ·exact .inl (.inr (.inr (.inr ⟨y, by rwa [hfl] at hy, q⟩)))
/-- the innermost scope is left -/
theorem CtX.pop {c : BSc} (hX : CtX p cf u n shp d m ve F (fb ++ [c]) g cap ms w) :
  CtX p cf u n shp d m ve F fb g cap ms.dropLast (w.setCell ⟨F, 0, none⟩ (.slice (some ⟨g, 0, none⟩) fb.length cap)) ∧
   KS p ve ve (FS F g ms (fb ++ [c])) (FS F g ms.dropLast fb) w (w.setCell ⟨F, 0, none⟩ (.slice (some ⟨g, 0, none⟩) fb.length cap)) := by
 have hg := grown_setCell w ⟨F, 0, none⟩ (.slice (some ⟨g, 0, none⟩) fb.length cap)
 have h := hX.c.fr
 have hl := h.len
 simp at hl
 have f3 : FrR (w.setCell ⟨F, 0, none⟩ (.slice (some ⟨g, 0, none⟩) fb.length cap)) n F fb g cap ms.dropLast := by
  have ap := h.apart
  rw [List.flatten_append, List.map_append, List.nodup_append] at ap
  refine ⟨by simpa using h.box.set 0 (.slice (some ⟨g, 0, none⟩) fb.length cap), ?_, by simp [hl], ?_, ?_, h.nd.sublist (List.dropLast_sublist _), ap.1, ⟨fun q hq => h.far.1 q (List.dropLast_subset _ hq), fun sc q1 y q2 => h.far.2.1 sc (by simp [q1]) y q2, h.far.2.2⟩, by have := h.le; simp at this; omega⟩
  ·have r2 := own_take_size h.row (m := fb.length) (by simp)
   rw [← List.map_take, show fb.length * 1 = ms.length - 1 by omega, ← List.dropLast_eq_take] at r2
   exact r2.kept hg (.inr (by have := row_not_box h.box h.row (by decide); simpa [Value.ownBlock] using this))
  ·intro i q1 q2
   have hi : i < ms.length := by simp at q1; omega
   have e1 : ms.dropLast[i] = ms[i] := by simp
   have e2 : (fb ++ [c])[i]'(by simp; omega) = fb[i] := List.getElem_append_left q2
   rw [e1, ← e2]
   have hm := h.maps i hi (by simp; omega)
   exact hm.on hg (by have := (h.map_ne hm).2; simpa using this)
  ·intro sc q1 y q2
   have hy : y ∈ (fb ++ [c]).flatten := mem_flat (sc := sc) (by simp [q1]) q2
   exact (h.flat hy).1.on hg (by have := (h.box_ne hy).2; simpa using this)
 refine ⟨hX.aside hX.asideF h.far.2.2 hg f3 (fun sc q => hX.frg sc (by simp only [bareF, List.map_append, List.mem_append]; exact .inl q)), KS.one hg (.inl rfl) fun b hb => .inl ?_⟩
 rcases hb with q | q | q | ⟨y, hy, q⟩
 ·exact .inl q
 ·exact .inr (.inl q)
 ·exact .inr (.inr (.inl (List.dropLast_subset _ q)))
 ·exact .inr (.inr (.inr ⟨y, by simp [List.flatten_append, hy], q⟩))
/-- the innermost scope is given a local -/
theorem CtX.give {c : BSc} (hX : CtX p cf u n shp d m ve F (fb ++ [c]) g cap ms w) {s : ByteArray} {t v : Int} (hn : getM s c = none) (hv : U v) {m0 : Nat} (hm0 : ms[fb.length]? = some m0) {w1 w2 : World} (h1 : w1 = w.alloc (.cells #[.int .u32 v, .int .u8 t] 201))
  (hg : w1.grownBy w2 (some m0)) (hp : Mp w2 m0 (putM s (ptrv ((t, v), w.heap.size)) (entF c))) :
  CtX p cf u n shp d m ve F (fb ++ [putM s ((t, v), w.heap.size) c]) g cap ms w2 ∧ KS p ve ve (FS F g ms (fb ++ [c])) (FS F g ms (fb ++ [putM s ((t, v), w.heap.size) c])) w w2 := by
 have b1 : Below w.heap.size w w1 := by rw [h1]; exact (Below.refl _ w).alloc (Nat.le_refl _) _
 have X1 := hX.below b1
 have h := X1.c.fr
 have hl := h.len
 simp at hl
 have hlt : fb.length < ms.length := by omega
 have hme : ms[fb.length] = m0 := by rw [List.getElem?_eq_getElem hlt] at hm0; simpa using hm0
 have hmm : m0 ∈ ms := by rw [← hme]; exact List.getElem_mem hlt
 have hm1 : Mp w1 m0 (entF c) := by
  have := h.maps fb.length hlt (by simp)
  rw [hme] at this
  simpa using this
 have hnew : Bx w1 w.heap.size #[.int .u32 v, .int .u8 t] 201 := by rw [h1]; exact Bx.new w _ _
 have hpl : putM s ((t, v), w.heap.size) c = c ++ [(s, ((t, v), w.heap.size))] := lookI_none s _ c (by unfold getM at hn; simpa using hn)
 have hfl : (fb ++ [putM s ((t, v), w.heap.size) c]).flatten = (fb ++ [c]).flatten ++ [(s, ((t, v), w.heap.size))] := by rw [hpl]; simp
 have each : ∀ y ∈ (fb ++ [putM s ((t, v), w.heap.size) c]).flatten, Bx w2 y.2.2 #[.int .u32 y.2.1.2, .int .u8 y.2.1.1] 201 ∧ n ≤ y.2.2 := by
  intro y hy
  rw [hfl] at hy
  rcases List.mem_append.1 hy with q | q
  ·exact ⟨(h.flat q).1.on hg (by have := (h.flat q).1.not_map hm1; simpa using this.symm), (h.flat q).2⟩
  ·simp at q
   subst q
   exact ⟨hnew.on hg (by have := hnew.not_map hm1; simpa using this.symm), hX.c.me.size⟩
 have f2 : FrR w2 n F (fb ++ [putM s ((t, v), w.heap.size) c]) g cap ms := by
  refine ⟨by simpa using h.box.on hg (by have := (h.map_ne hm1).2; simpa using this.symm), by simpa using h.row.kept hg (.inr (by have := (h.map_ne hm1).1; simpa [Value.ownBlock] using this.symm)), by simp [hl], ?_, fun sc q1 y q2 => (each y (mem_flat q1 q2)).1, h.nd, ?_, ⟨h.far.1, fun sc q1 y q2 => (each y (mem_flat q1 q2)).2, h.far.2.2⟩, by simpa using h.le⟩
  ·intro i q1 q2
   by_cases hi : i < fb.length
   ·have e2 : (fb ++ [putM s ((t, v), w.heap.size) c])[i] = fb[i] := List.getElem_append_left hi
    have e3 : (fb ++ [c])[i]'(by simp; omega) = fb[i] := List.getElem_append_left hi
    rw [e2, ← e3]
    refine (h.maps i q1 (by simp; omega)).on hg ?_
    intro e
    have e4 : ms[i] = ms[fb.length] := by rw [hme]; simpa using e
    exact List.pairwise_iff_getElem.1 h.nd i fb.length q1 hlt (by omega) e4
   ·have hi2 : i = fb.length := by omega
    subst hi2
    rw [hme]
    have e2 : (fb ++ [putM s ((t, v), w.heap.size) c])[fb.length] = putM s ((t, v), w.heap.size) c := by simp
    rw [e2]
    have := (putM_map (fun y : (Int × Int) × Nat => ptrv y) s ((t, v), w.heap.size) c)
    rw [show ((putM s ((t, v), w.heap.size) c).map fun x => (x.1, ptrv x.2)) = _ from this.symm]
    exact hp
  ·rw [hfl, List.map_append, List.nodup_append]
   refine ⟨h.apart, by simp, fun a ha b hb => ?_⟩
   obtain ⟨y, hy, rfl⟩ := List.mem_map.1 ha
   simp at hb
   subst hb
   have := (hX.c.fr.flat hy).1.lt
   omega
 have X2 := X1.aside (.inr (by obtain ⟨es, k, q, _⟩ := hm1; exact ⟨es, k, q⟩)) (h.far.1 m0 hmm) hg f2 (by
  have e : bareF (fb ++ [putM s ((t, v), w.heap.size) c]) = giveF s (t, v) (bareF (fb ++ [c])) := by
   unfold giveF bareF
   simp only [List.map_append, List.map_cons, List.map_nil, List.dropLast_concat, List.getLastD_concat]
   congr 2
   exact (putM_map (fun y : (Int × Int) × Nat => y.1) s ((t, v), w.heap.size) c).symm
  rw [e]
  exact giveF_rg hv hX.frg)
 have K : KS p ve ve (FS F g ms (fb ++ [c])) (FS F g ms (fb ++ [c])) w w2 := ((KV.of p ve b1).ks _).trans (KS.one hg (.inr (.inr (.inl hmm))) fun b hb => .inl hb)
 refine ⟨X2, ⟨K.k, K.v, fun b hb => ?_⟩⟩
 rcases hb with q | q | q | ⟨y, hy, q⟩
 ·exact .inl (.inl q)
 ·exact .inl (.inr (.inl q))
 ·exact .inl (.inr (.inr (.inl q)))
 ·rw [hfl] at hy
  rcases List.mem_append.1 hy with r | r
  ·exact .inl (.inr (.inr (.inr ⟨y, r, q⟩)))
  ·simp at r
   subst r
   have q2 : w.heap.size = b := q
   exact .inr (by omega)
theorem giveB_bare (fb : List BSc) (c : BSc) (s : ByteArray) (x : (Int × Int) × Nat) : bareF (fb ++ [putM s x c]) = giveF s x.1 (bareF (fb ++ [c])) := by
 unfold giveF bareF
 simp only [List.map_append, List.map_cons, List.map_nil, List.dropLast_concat, List.getLastD_concat]
 congr 2
 exact (putM_map (fun y : (Int × Int) × Nat => y.1) s x c).symm
/-- a word of a variable is altered -/
theorem CtX.setW (hX : CtX p cf u n shp d m ve F fb g cap ms w) {s : ByteArray} {i b : Nat} (hi : i < p.xs.length) (hpl : placeOf cf s = i) (hb : p.xs[i].ownBlock = some b) (j : Nat) {v : Int} (hv : U v) :
  CtX p cf u n shp d (putW cf m s j v) ve F fb g cap ms (w.setCell ⟨b, j, none⟩ (.int .u32 v)) ∧ KV p ve ve w (w.setCell ⟨b, j, none⟩ (.int .u32 v)) := by
 have hg := grown_setCell w ⟨b, j, none⟩ (.int .u32 v)
 have hme := hX.c.me
 have hi2 : i < m.held.length := by have := hme.len; omega
 have hT : p.T b := .inr ⟨p.xs[i], List.getElem_mem hi, hb⟩
 have kv : KV p ve ve w (w.setCell ⟨b, j, none⟩ (.int .u32 v)) := ⟨Kpt.gr hg (Nat.le_refl _) fun k e => by cases e; exact .inl (.inl hT), Vc.refl _ _⟩
 have hbn : b < n := hX.c.st.lx _ (List.getElem_mem hi) b hb
 obtain ⟨cs0, hbx⟩ := row_block (hme.words i hi hi2) hb
 have hh : (putW cf m s j v).held = m.held.set i (m.held[i].set j v) := by
  show m.held.set (placeOf cf s) ((wordsAt cf m s).set j v) = _
  unfold wordsAt
  rw [hpl, List.getD_eq_getElem?_getD, List.getElem?_eq_getElem hi2]
  rfl
 have me2 : MeR p cf.allowed n d (putW cf m s j v) ve (w.setCell ⟨b, j, none⟩ (.int .u32 v)) := by
  obtain ⟨en, va, fa, hx⟩ := hme.box
  obtain ⟨ats, he⟩ := hme.evs
  refine ⟨⟨en, va, fa, hx.on hg (by have := hx.ne_box hbx (by decide); simpa using this)⟩, by rw [hh]; simpa using hme.len, ?_, hme.nd, ⟨ats, he.len, he.at_, he.row.kept hg ?_, fun k q1 q2 => (he.args k q1 q2).kept hg ?_⟩, Nat.le_trans hme.size hg.size, hme.mlt⟩
  ·intro k q1 q2
   by_cases hk : k = i
   ·subst hk
    have e : (putW cf m s j v).held[k] = m.held[k].set j v := by simp [hh]
    rw [e, List.length_set, List.map_set]
    exact own_put (hme.words k hi hi2) hb j _
   ·have hk2 : k < m.held.length := by simpa [hh] using q2
    have e : (putW cf m s j v).held[k] = m.held[k] := by simp only [hh]; exact List.getElem_set_ne (fun e => hk e.symm) _
    rw [e]
    refine (hme.words k q1 hk2).kept hg (.inr fun e1 => ?_)
    exact nodup_ne (f := Value.ownBlock) hme.nd q1 hi hk (by rw [e1, hb])
  ·refine .inr fun e1 => ?_
   obtain ⟨cs1, h1⟩ := row_block he.row e1
   have := h1.ne_box hbx (by decide)
   exact this rfl
  ·refine .inr fun e1 => ?_
   have := ((he.args k q1 q2).lt b e1).1
   omega
 have hsh : (putW cf m s j v).held.map List.length = m.held.map List.length := by
  rw [hh, List.map_set, List.length_set]
  apply List.ext_getElem?
  intro k
  rw [List.getElem?_set]
  split
  ·rename_i e
   subst e
   split
   ·rw [List.getElem?_map, List.getElem?_eq_getElem hi2]; rfl
   ·rename_i q
    rw [List.getElem?_eq_none (by omega)]
  ·rfl
 exact ⟨⟨hX.c.move me2 kv.k hsh, putW_inv m s j v hX.inv, putW_rg hX.rg s j hv, hX.frg⟩, kv⟩
end
end
end Go.Proofs.YtlabadkfkbenoaaGreatDoor
