/- Walks and plain laws, merged: IntO. No condition. -/
import Derived.Test.YtlabadkfkbenoaaGreatDoorKn33
import Derived.Test.YtlabadkfkbenoaaGreatDoorKn34
namespace Go.Proofs.YtlabadkfkbenoaaGreatDoor
open Go.RowKit
set_option linter.unusedVariables false
set_option linter.unusedSimpArgs false
set_option maxRecDepth 100000
section
open Go.Shelf
/-- words in memory, to read -/
def RowA (w : World) (l : List Int) (v : Value) : Prop := ∃ aa ab ao ac, v = .slice aa l.length ac ∧ (l.length = 0 ∨ aa = some ⟨ab, ao, none⟩) ∧ ∀ i (h : i < l.length), w.cell? ⟨ab, ao + i, none⟩ = some (.int .u32 l[i])
theorem RowA.of {w : World} {base k : Nat} {v : Value} {l : List Int} (h : w.ownsRow base 52 1 v k (l.map (Value.int .u32))) (hk : k = l.length) : RowA w l v := by
 subst hk
 rcases h.2 with ⟨rfl, h0⟩ | ⟨g, cap, cur, rfl, _⟩
 ·exact ⟨none, 0, 0, 0, by rw [h0], .inl h0, fun i hi => by omega⟩
 ·refine ⟨_, g, 0, cap, rfl, .inr rfl, fun i hi => ?_⟩
  rw [Nat.zero_add, h.cellAt i (by omega)]
  simp [hi]
/-- what is shown of functions with fuel k -/
def WFn (p : Pt) (cf : Cf) (u : UT) (n : Nat) (shp : List Nat) (k : Nat) : Prop :=
 ∀ (d : Nat) (m : MS) (ve : EvS) (s : ByteArray) (q : Sig) (args : List Int) (va : Value) (pa : Option Addr) (pc : Nat) (w : World), getM s cf.cs = some q → q.host < 0 → args.length = q.params.length → (∀ x ∈ args, U x) → RowA w args va →
  SlP (onlyW w (oldB p.B)) q.params (.slice pa q.params.length pc) → MSt p cf u n w → MeR p cf.allowed n d m ve w → (∀ q ∈ m.held, 0 < q.length ∧ q.length ≤ 4096) → Inv cf shp m → m.Rg → (evl cf k).F d q args m ≠ .lost →
  Calls Tryz.prog 88 #[.pointer (some ⟨p.M, 0, none⟩), .agg #[.slice pa q.params.length pc, .int .u8 q.type, .int .i64 q.host, .int .i64 q.fn], va] w (PostM p cf.allowed n d w.heap.size ve (fun x => .returned (.int .u32 x)) ((evl cf k).F d q args m) w)
/-! ### arguments one behind another -/
def PreA (ev : Evl) (d : Nat) (fr : Fr) (kids r : Exs) (l : List Int) (m m1 : MS) : Prop := evArgs ev d fr kids m = (evArgs ev d fr r m1).bind fun l' m' => .ok (l ++ l') m'
theorem PreA.start (ev : Evl) (d : Nat) (fr : Fr) (kids : Exs) (m : MS) : PreA ev d fr kids kids [] m m := by
 unfold PreA
 cases evArgs ev d fr kids m <;> rfl
theorem PreA.step {ev : Evl} {d : Nat} {fr : Fr} {kids k r : Exs} {h : EH} {l : List Int} {m m1 m2 : MS} {x : Int} (hp : PreA ev d fr kids (.cons h k r) l m m1) (hx : ev.E d fr h k m1 = .ok x m2) : PreA ev d fr kids r (l ++ [x]) m m2 := by
 unfold PreA at hp ⊢
 rw [hp]
 simp only [evArgs, hx, Out.bind]
 cases evArgs ev d fr r m2 <;> simp [Out.bind]
theorem PreA.stop {ev : Evl} {d : Nat} {fr : Fr} {kids k r : Exs} {h : EH} {l : List Int} {m m1 m2 : MS} {a b : Int} (hp : PreA ev d fr kids (.cons h k r) l m m1) (hx : ev.E d fr h k m1 = .stop a b m2) : evArgs ev d fr kids m = .stop a b m2 := by
 unfold PreA at hp
 rw [hp]
 simp only [evArgs, hx, Out.bind]
theorem PreA.nl {ev : Evl} {d : Nat} {fr : Fr} {kids k r : Exs} {h : EH} {l : List Int} {m m1 : MS} (hp : PreA ev d fr kids (.cons h k r) l m m1) (hn : evArgs ev d fr kids m ≠ .lost) : ev.E d fr h k m1 ≠ .lost := fun e => by
 unfold PreA at hp
 rw [hp] at hn
 simp only [evArgs, e, Out.bind] at hn
 exact hn rfl
theorem PreA.done {ev : Evl} {d : Nat} {fr : Fr} {kids : Exs} {l : List Int} {m m1 : MS} (hp : PreA ev d fr kids .nil l m m1) : evArgs ev d fr kids m = .ok l m1 := by
 unfold PreA at hp
 rw [hp]
 simp [evArgs, Out.bind]
section
variable {p : Pt} {cf : Cf} {u : UT} {n : Nat} {shp : List Nat} {d : Nat} {m : MS} {ve : EvS} {F : Nat} {fb : List BSc} {g cap : Nat} {ms : List Nat} {w w' : World}
theorem CtX.rowOut (hX : CtX p cf u n shp d m ve F fb g cap ms w) {base k : Nat} {z : Value} {ys : List Value} (hr : w.ownsRow base 52 1 z k ys) (hb : n ≤ base) {b : Nat} (hz : z.ownBlock = some b) : ¬ p.TE ve b := by
 obtain ⟨cs, hc⟩ := row_block hr hz
 have hge := (hr.lt b hz).1
 rintro ((rfl | ⟨x, hx, hq⟩) | hq)
 ·have := hX.c.me.mlt
  omega
 ·have := hX.c.st.lx x hx b hq
  omega
 ·obtain ⟨ats, he⟩ := hX.c.me.evs
  obtain ⟨cs2, hc2⟩ := row_block he.row hq
  exact hc.ne_box hc2 (by decide) rfl
/-- a row of words of one's own stays over a walk -/
theorem CtX.rowKeep (hX : CtX p cf u n shp d m ve F fb g cap ms w) {base k : Nat} {z : Value} {ys : List Value} (hr : w.ownsRow base 52 1 z k ys) (hb : n ≤ base) {ve' : EvS} (hk : KV p ve ve' w w') : w'.ownsRow base 52 1 z k ys :=
 hk.k.own hr fun b hz => ⟨(hr.lt b hz).2, hX.rowOut hr hb hz⟩
/-- a row of words of one's own grows -/
theorem CtX.row52 (hX : CtX p cf u n shp d m ve F fb g cap ms w) {base k : Nat} {z : Value} {ys : List Value} (hr : w.ownsRow base 52 1 z k ys) (hb : n ≤ base) (hva : ∀ x ∈ ve.vas, ∀ b, z.ownBlock = some b → x.ownBlock ≠ some b) (hg : w.grownBy w' z.ownBlock) : CtX p cf u n shp d m ve F fb g cap ms w' := by
 cases hz : z.ownBlock with
 | none =>
  rw [hz] at hg
  exact hX.below ⟨hg.os, hg.tape, hg.output, hg.size, fun b hb => hg.block b hb (by simp)⟩
 | some b =>
  rw [hz] at hg
  have hout := hX.rowOut hr hb hz
  have hge : n ≤ b := Nat.le_trans hb (hr.lt b hz).1
  obtain ⟨cs, hc⟩ := row_block hr hz
  have f := hX.c.fr
  have me2 : MeR p cf.allowed n d m ve w' := by
   obtain ⟨en, va, fa, hx⟩ := hX.c.me.box
   obtain ⟨ats, he⟩ := hX.c.me.evs
   exact ⟨⟨en, va, fa, hx.on hg (by have := hx.ne_box hc (by decide); simpa using this)⟩, hX.c.me.len, fun i h1 h2 => (hX.c.me.words i h1 h2).kept hg (.inr fun e => hout (.inl (.inr ⟨_, List.getElem_mem h1, e⟩))), hX.c.me.nd,
    ⟨ats, he.len, he.at_, he.row.kept hg (.inr fun e => hout (.inr e)), fun i h1 h2 => (he.args i h1 h2).kept hg (.inr (hva _ (List.getElem_mem h1) b hz))⟩, Nat.le_trans hX.c.me.size hg.size, hX.c.me.mlt⟩
  have ft : FrR w' n F fb g cap ms := f.on hg (by have := f.box.ne_box hc (by decide); simpa using this) (by have := row_not_box hc f.row (by decide); simpa using this) (fun q hq => by
    obtain ⟨i, hi, rfl⟩ := List.getElem_of_mem hq
    have := hc.not_map (f.maps i hi (by have := f.len; omega))
    simpa using this) (fun sc h1 x h2 => by have := (f.boxes sc h1 x h2).ne_box hc (by decide); simpa using this)
  exact ⟨⟨hX.c.st.move hX.c.me (k := n) (Kpt.gr hg hX.c.me.size fun k e => by cases e; exact .inr hge) (Nat.le_refl _), me2, ft, hX.c.pos⟩, hX.inv, hX.rg, hX.frg⟩
/-- rows of arguments are there -/
theorem MeR.vasLt {a : Nat} (h : MeR p a n d m ve w) {x : Value} (hx : x ∈ ve.vas) {b : Nat} (hb : x.ownBlock = some b) : b < w.heap.size := by
 obtain ⟨ats, he⟩ := h.evs
 obtain ⟨i, hi, rfl⟩ := List.getElem_of_mem hx
 exact ((he.args i hi (by have := he.len; omega)).lt b hb).2
end
/-! ### an event more -/
theorem evcells_add (e : Ev) (v : Value) (t : Nil0) : ∀ (evs : List Ev) (vas : List Value) (ats : List Nil0), vas.length = evs.length → ats.length = evs.length → evcells (evs ++ [e]) (vas ++ [v]) (ats ++ [t]) = evcells evs vas ats ++ [.int .u32 t.v, .int .u32 e.number, v, .int .u32 e.value]
 | [], [], [], _, _ => rfl
 | a :: r, x :: vs, s :: ts, h1, h2 => by
  have := evcells_add e v t r vs ts (by simpa using h1) (by simpa using h2)
  simp only [List.cons_append, evcells, this]
 | [], _ :: _, _, h1, _ => by simp at h1
 | [], [], _ :: _, _, h2 => by simp at h2
 | _ :: _, [], _, h1, _ => by simp at h1
 | _ :: _, _ :: _, [], _, h2 => by simp at h2
/-- the box alone is altered: steps, replies, depth -/
theorem MeR.turn2 {p : Pt} {allowed n d : Nat} {m : MS} {ve : EvS} {w w' : World} (h : MeR p allowed n d m ve w) (hg : w.grownBy w' (some p.M)) {steps reps d' : Nat}
  (hb : ∃ en va fa : Nil0, Bx w' p.M #[.pointer (some ⟨p.X, 0, none⟩), .int .i64 allowed, p.vv, .int .u8 en.v, .int .u32 va.v, .int .u8 fa.v, .int .i64 steps, .int .i64 reps, ve.v, .int .i64 d', .map (some p.kb)] 119) :
  MeR p allowed n d' { m with steps := steps, reps := reps } ve w' := by
 obtain ⟨en, va, fa, hx⟩ := h.box
 obtain ⟨ats, he⟩ := h.evs
 have nr : ∀ {base : Nat} {e : TypeId} {size k : Nat} {v : Value} {ys : List Value}, w.ownsRow base e size v k ys → (119 : TypeId) ≠ e → w'.ownsRow base e size v k ys := fun {base e size k v ys} hr hne =>
  hr.kept hg (.inr fun q => hx.not_row hr hne q.symm)
 exact ⟨hb, h.len, fun i h1 h2 => nr (h.words i h1 h2) (by decide), h.nd, ⟨ats, he.len, he.at_, nr he.row (by decide), fun i h1 h2 => nr (he.args i h1 h2) (by decide)⟩, Nat.le_trans h.size hg.size, h.mlt⟩
/-- an event is laid down -/
theorem MeR.event {p : Pt} {allowed n d : Nat} {m : MS} {ve : EvS} {w w2 : World} (h : MeR p allowed n d m ve w) {ats : List Nil0} (he : EvR w n m.evs ve.vas ats ve.v) {v' va : Value} {num val : Int} {args : List Int}
  (hA : Appended w w2 n 127 4 ve.v v' m.evs.length 1 (evcells m.evs ve.vas ats) [.int .u32 0, .int .u32 num, va, .int .u32 val]) (ha : w.ownsRow n 52 1 va args.length (args.map (Value.int .u32))) :
  MeR p allowed n d { m with evs := m.evs ++ [⟨num, args, val⟩] } ⟨v', ve.vas ++ [va]⟩ (w2.setCell ⟨p.M, 8, none⟩ v') := by
 obtain ⟨en, vx, fa, hx⟩ := h.box
 have hg := grown_setCell w2 ⟨p.M, 8, none⟩ v'
 have x2 := hx.on hA.grown (hx.not_row he.row (by decide))
 have k1 : ∀ {base k : Nat} {v : Value} {ys : List Value}, w.ownsRow base 52 1 v k ys → (w2.setCell ⟨p.M, 8, none⟩ v').ownsRow base 52 1 v k ys := fun {base k v ys} hr => by
  have r2 := hr.kept hA.grown (row_ne hr he.row (by decide))
  exact r2.kept hg (.inr fun q => x2.not_row r2 (by decide) (by simpa using q.symm))
 refine ⟨⟨en, vx, fa, by simpa using x2.set 8 v'⟩, h.len, fun i h1 h2 => k1 (h.words i h1 h2), h.nd, ⟨ats ++ [Nil0.mk], by simp [he.len], by simp [he.at_], ?_, ?_⟩, Nat.le_trans h.size (Nat.le_trans hA.grown.size hg.size), h.mlt⟩
 ·rw [evcells_add _ _ _ _ _ _ he.len he.at_, List.length_append]
  exact hA.own.kept hg (.inr fun q => x2.not_row hA.own (by decide) (by simpa using q.symm))
 ·intro i h1 h2
  by_cases hi : i < ve.vas.length
  ·have hi2 : i < m.evs.length := by have := he.len; omega
   have e1 : (ve.vas ++ [va])[i] = ve.vas[i] := List.getElem_append_left hi
   have e2 : (m.evs ++ [(⟨num, args, val⟩ : Ev)])[i] = m.evs[i] := List.getElem_append_left hi2
   show (w2.setCell ⟨p.M, 8, none⟩ v').ownsRow n 52 1 (ve.vas ++ [va])[i] (m.evs ++ [(⟨num, args, val⟩ : Ev)])[i].args.length _
   rw [e1, e2]
   exact k1 (he.args i hi hi2)
  ·have hi3 : i = ve.vas.length := by simp at h1; omega
   subst hi3
   have e1 : (ve.vas ++ [va])[ve.vas.length] = va := by simp
   have e2 : (m.evs ++ [(⟨num, args, val⟩ : Ev)])[ve.vas.length]'(by simpa using h2) = ⟨num, args, val⟩ := by
    have := he.len
    rw [List.getElem_append_right (by omega)]
    simp
   show (w2.setCell ⟨p.M, 8, none⟩ v').ownsRow n 52 1 (ve.vas ++ [va])[ve.vas.length] (m.evs ++ [(⟨num, args, val⟩ : Ev)])[ve.vas.length].args.length _
   rw [e1, e2]
   exact k1 ha
end
end Go.Proofs.YtlabadkfkbenoaaGreatDoor
