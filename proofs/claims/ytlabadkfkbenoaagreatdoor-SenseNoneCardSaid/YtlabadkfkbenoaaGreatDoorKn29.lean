/- Walks and plain laws, merged: WorA IntD IntE IntF IntG EvlT. No condition. -/
import Derived.Test.YtlabadkfkbenoaaGreatDoorKn24
import Derived.Test.YtlabadkfkbenoaaGreatDoorKn28
import Derived.Test.YtlabadkfkbenoaaGreatDoorKn26
namespace Go.Proofs.YtlabadkfkbenoaaGreatDoor
open Go.RowKit
set_option linter.unusedVariables false
set_option linter.unusedSimpArgs false
set_option maxRecDepth 100000
section
open Go.Shelf
/-! ### places of variables -/
theorem gatG_pl (N : Nat) : ∀ (gs : List GH) (v0 vs : VS) (k : Nat) (l0 : List (ByteArray × Int)), gatG gs v0 = some vs → k + gs.length ≤ N → (∀ s x, getM s v0 = some x → ∃ i : Nat, getM s l0 = some (i : Int) ∧ i < N) → ∀ s x, getM s vs = some x → ∃ i : Nat, getM s (plG gs k l0) = some (i : Int) ∧ i < N
 | [], v0, vs, k, l0, h, _, h0, s, x, hx => by
  cases h
  exact h0 s x hx
 | g :: r, v0, vs, k, l0, h, hk, h0, s, x, hx => by
  simp only [gatG] at h
  split at h
  ·cases h
  simp only [List.length_cons] at hk
  refine gatG_pl N r _ vs (k + 1) _ h (by omega) (fun s x hx => ?_) s x hx
  rw [getM_putM] at hx ⊢
  split at hx
  ·rename_i e
   rw [if_pos e]
   exact ⟨k, rfl, by omega⟩
  ·rename_i e
   rw [if_neg e]
   exact h0 s x hx
theorem gatU_parts {u : UT} {vs : VS} {cs : CSg} (h : gatU u = some (vs, cs)) : gatG u.gs [] = some vs ∧ ∃ c1, gatH u.hs 0 vs [] = some c1 ∧ gatF u.fs 0 vs c1 = some cs := by
 unfold gatU at h
 split at h
 ·cases h
 ·rename_i v2 h0
  split at h
  ·cases h
  ·rename_i c1 h1
   split at h
   ·cases h
   ·rename_i c2 h2
    cases h
    exact ⟨h0, c1, h1, h2⟩
/-! ### signatures -/
/-- a signature is a host's or a function's -/
def SgOk (u : UT) (s : ByteArray) (g : Sig) : Prop :=
 (g.host < 0 → 0 ≤ g.fn ∧ ∃ f, u.fs[g.fn.toNat]? = some f ∧ f.params = g.params ∧ f.name = s ∧ f.type = g.type) ∧ (¬ g.host < 0 → ∃ h, u.hs[g.host.toNat]? = some h ∧ h.params = g.params ∧ h.name = s)
def CsOk (u : UT) (cs : CSg) : Prop := ∀ s g, getM s cs = some g → SgOk u s g
theorem CsOk.put {u : UT} {cs : CSg} (h : CsOk u cs) {t : ByteArray} {g : Sig} (hg : SgOk u t g) : CsOk u (putM t g cs) := by
 intro s x hx
 rw [getM_putM] at hx
 split at hx
 ·rename_i e
  cases hx
  have : s = t := (MapKept.bytes_beq s t).1 e
  rw [this]
  exact hg
 ·exact h s x hx
theorem gatH_ok {u : UT} {vs : VS} : ∀ {l : List HH} {i : Nat} {cs c2 : CSg}, l = u.hs.drop i → CsOk u cs → gatH l i vs cs = some c2 → CsOk u c2
 | [], _, _, _, _, h, e => by cases e; exact h
 | a :: r, i, cs, c2, hl, h, e => by
  simp only [gatH] at e
  split at e
  ·cases e
  have hi : u.hs[i]? = some a := by
   have : (u.hs.drop i)[0]? = some a := by rw [← hl]; rfl
   simpa using this
  refine gatH_ok (i := i + 1) ?_ (h.put (t := a.name) (g := ⟨a.params, a.type, i, -1⟩) ⟨fun q => ?_, fun _ => ⟨a, by simpa using hi, rfl, rfl⟩⟩) e
  ·rw [← List.drop_drop, ← hl]; rfl
  ·simp only [] at q; omega
theorem gatF_ok {u : UT} {vs : VS} : ∀ {l : List FH} {i : Nat} {cs c2 : CSg}, l = u.fs.drop i → CsOk u cs → gatF l i vs cs = some c2 → CsOk u c2
 | [], _, _, _, _, h, e => by cases e; exact h
 | a :: r, i, cs, c2, hl, h, e => by
  simp only [gatF] at e
  split at e
  ·cases e
  have hi : u.fs[i]? = some a := by
   have : (u.fs.drop i)[0]? = some a := by rw [← hl]; rfl
   simpa using this
  refine gatF_ok (i := i + 1) ?_ (h.put (t := a.name) (g := ⟨a.params, a.type, -1, i⟩) ⟨fun _ => ⟨by simp, a, by simpa using hi, rfl, rfl, rfl⟩, fun q => ?_⟩) e
  ·rw [← List.drop_drop, ← hl]; rfl
  ·simp only [] at q; omega
theorem gatU_ok {u : UT} {vs : VS} {cs : CSg} (h : gatU u = some (vs, cs)) : CsOk u cs := by
 obtain ⟨-, c1, h1, h2⟩ := gatU_parts h
 exact gatF_ok (by simp) (gatH_ok (by simp) (fun s g q => by cases q) h1) h2
/-! ### functions -/
theorem chFs_at {vs : VS} {cs : CSg} : ∀ {l : List FH}, chFs vs cs l = 0 → ∀ f ∈ l, chF vs cs f = 0
 | [], _, f, hf => by cases hf
 | a :: r, h, f, hf => by
  simp only [chFs] at h
  split at h
  ·rename_i h0
   rcases List.mem_cons.1 hf with rfl | hf
   ·exact h0
   ·exact chFs_at h f hf
  ·rename_i h0
   exact absurd h h0
theorem addPars_err (vs : VS) (cs : CSg) : ∀ (l : List PW) (sc : Scope) (e : Int), addPars vs cs l sc = .error e → e = 290
 | [], sc, e, h => by cases h
 | p :: r, sc, e, h => by
  simp only [addPars] at h
  split at h
  ·cases h; rfl
  ·exact addPars_err vs cs r _ e h
theorem chF_ok {vs : VS} {cs : CSg} {f : FH} (h : chF vs cs f = 0) : (∃ sc c, addPars vs cs f.params [] = .ok sc ∧ chS vs cs f.type f.body [sc] [] 0 = .ok c) ∧ retS f.body = true := by
 unfold chF at h
 split at h
 ·rename_i e he
  have := addPars_err _ _ _ _ _ he
  omega
 ·rename_i sc hsc
  split at h
  ·omega
  ·split at h
   ·rename_i e he
    have := chS_hi vs cs f.type f.body [sc] [] 0 e he
    omega
   ·rename_i c hc
    split at h
    ·rename_i hr
     exact ⟨⟨sc, c, hsc, hc⟩, hr⟩
    ·omega
theorem chkU_parts {u : UT} (h : chkU u = 0) : fitsU u = true ∧ u.fs.any deepB = false ∧ sumU u.fs ≤ 16384 := by
 unfold chkU at h
 split at h
 ·rename_i h1
  split at h
  ·omega
  ·rename_i h2
   split at h
   ·omega
   ·exact ⟨h1, by simpa using h2, by omega⟩
 ·omega
theorem fitsU_parts {u : UT} (h : fitsU u = true) : (∀ g ∈ u.gs, okGH g = true) ∧ (∀ x ∈ u.hs, okHo x = true) ∧ ∀ f ∈ u.fs, okFu f = true := by
 unfold fitsU at h
 simp only [Bool.and_eq_true, List.all_eq_true] at h
 exact ⟨h.1, h.2.1, h.2.2⟩
theorem okP_few {l : List PW} (h : okP l = true) : l.length ≤ 15 := by
 unfold okP at h
 simp only [Bool.and_eq_true, decide_eq_true_eq] at h
 exact h.2
theorem okFu_parts {f : FH} (h : okFu f = true) : f.params.length ≤ 15 ∧ okS f.body = true := by
 unfold okFu at h
 simp only [Bool.and_eq_true] at h
 exact ⟨okP_few h.2.2.1, h.2.2.2⟩
theorem okHo_few {x : HH} (h : okHo x = true) : x.params.length ≤ 15 := by
 unfold okHo at h
 simp only [Bool.and_eq_true] at h
 exact okP_few h.2.2.1
theorem cfU_few {u : UT} {vs : VS} {cs : CSg} (hs : senseU u = 0) (hg : gatU u = some (vs, cs)) {s : ByteArray} {g : Sig} (q : getM s cs = some g) : g.params.length ≤ 15 := by
 obtain ⟨hc, vs2, cs2, hg2, hn, hf⟩ := sense_parts hs
 obtain ⟨c1, c2, c3⟩ := chkU_parts hc
 obtain ⟨f1, f2, f3⟩ := fitsU_parts c1
 have hk := gatU_ok hg
 by_cases hh : g.host < 0
 ·obtain ⟨_, f, h1, h2, _⟩ := (hk s g q).1 hh
  rw [← h2]
  exact (okFu_parts (f3 f (List.mem_of_getElem? h1))).1
 ·obtain ⟨x, h1, h2, _⟩ := (hk s g q).2 hh
  rw [← h2]
  exact okHo_few (f2 x (List.mem_of_getElem? h1))
/-! ### the variables at first -/
theorem initG_ok {u : UT} (wf : u.Wf) (hs : senseU u = 0) {g : GH} (hg : g ∈ u.gs) : 0 < (initG g).length ∧ (initG g).length ≤ 4096 ∧ ∀ x ∈ initG g, U x := by
 obtain ⟨hc, -⟩ := sense_parts hs
 have h1 := fitsU_glo (chkU_parts hc).1 hg
 have h2 := wf.g g hg
 unfold initG
 split
 ·refine ⟨by simp; omega, by simp; omega, fun x hx => ?_⟩
  have := List.eq_of_mem_replicate hx
  subst this
  exact ⟨by omega, by omega⟩
 ·refine ⟨by simp, by simp, fun x hx => ?_⟩
  simp only [List.mem_singleton] at hx
  subst hx
  exact h2.2
/-- names of variables, with words -/
def hdOf (hd : HD) (held : List (List Int)) : HD := List.zipWith (fun a ws => (a.1, ws)) hd held
theorem hc2_of : ∀ (hd : HD) (xs : List Value), hcells hd xs = hc2 (hd.map (·.1)) xs
 | [], [] => rfl
 | [], _ :: _ => rfl
 | _ :: _, [] => rfl
 | a :: r, x :: xs => by simp only [hcells, List.map_cons, hc2, hc2_of r xs]
theorem hdOf_names : ∀ (hd : HD) (held : List (List Int)), held.length = hd.length → (hdOf hd held).map (·.1) = hd.map (·.1)
 | [], [], _ => rfl
 | [], _ :: _, h => by simp at h
 | _ :: _, [], h => by simp at h
 | a :: r, x :: xs, h => by
  have := hdOf_names r xs (by simpa using h)
  unfold hdOf at this ⊢
  simp only [List.zipWith_cons_cons, List.map_cons, this]
theorem hdOf_held : ∀ (hd : HD) (held : List (List Int)), held.length = hd.length → (hdOf hd held).map (·.2) = held
 | [], [], _ => rfl
 | [], _ :: _, h => by simp at h
 | _ :: _, [], h => by simp at h
 | a :: r, x :: xs, h => by
  have := hdOf_held r xs (by simpa using h)
  unfold hdOf at this ⊢
  simp only [List.zipWith_cons_cons, List.map_cons, this]
theorem hdOf_len {hd : HD} {held : List (List Int)} (h : held.length = hd.length) : (hdOf hd held).length = hd.length := by
 have := congrArg List.length (hdOf_names hd held h)
 simpa using this
theorem hdOf_same : ∀ (hd : HD), hdOf hd (hd.map (·.2)) = hd
 | [] => rfl
 | a :: r => by
  have := hdOf_same r
  unfold hdOf at this ⊢
  simp only [List.map_cons, List.zipWith_cons_cons, this]
/-- variables that are a unit's -/
structure HdOk (u : UT) (hd : HD) : Prop where
 names : hd.map (·.1) = u.gs.map (·.name)
 lens : (hd.map (·.2)).map List.length = u.gs.map fun g => (initG g).length
 rg : ∀ q ∈ hd.map (·.2), ∀ x ∈ q, U x
theorem HdOk.len {u : UT} {hd : HD} (h : HdOk u hd) : hd.length = u.gs.length := by
 have := congrArg List.length h.names
 simpa using this
theorem HdOk.init {u : UT} (wf : u.Wf) (hs : senseU u = 0) : HdOk u (initH u.gs) := by
 refine ⟨by simp [initH], by simp [initH, Function.comp_def], fun q hq x hx => ?_⟩
 simp only [initH, List.map_map, List.mem_map, Function.comp] at hq
 obtain ⟨g, hg, rfl⟩ := hq
 exact (initG_ok wf hs hg).2.2 x hx
theorem HdOk.pos {u : UT} {hd : HD} (h : HdOk u hd) (wf : u.Wf) (hs : senseU u = 0) : ∀ q ∈ hd.map (·.2), 0 < q.length ∧ q.length ≤ 4096 := by
 intro q hq
 have h1 : q.length ∈ (hd.map (·.2)).map List.length := List.mem_map.2 ⟨q, hq, rfl⟩
 rw [h.lens] at h1
 obtain ⟨g, hg, e⟩ := List.mem_map.1 h1
 have := initG_ok wf hs hg
 omega
theorem HdOk.of {u : UT} {hd : HD} (h : HdOk u hd) {held : List (List Int)} (hl : held.map List.length = (hd.map (·.2)).map List.length) (hr : ∀ q ∈ held, ∀ x ∈ q, U x) : HdOk u (hdOf hd held) := by
 have hn : held.length = hd.length := by have := congrArg List.length hl; simpa using this
 exact ⟨(hdOf_names hd held hn).trans h.names, by rw [hdOf_held hd held hn, hl]; exact h.lens, by rw [hdOf_held hd held hn]; exact hr⟩
/-- a block of words -/
def own52 (xs : List Value) (b : Nat) : Prop := ∃ x ∈ xs, x.ownBlock = some b
/-- words to read: they lie ahead of n, and in none of T's blocks -/
def ValR (w : World) (n : Nat) (T : Nat → Prop) (values : List Int) (vv : Value) : Prop :=
 ∃ ka kb koff kcap, vv = .slice ka values.length kcap ∧ (values.length = 0 ∨ ka = some ⟨kb, koff, none⟩) ∧ (values.length = 0 ∨ (kb < n ∧ ¬ T kb)) ∧ ∀ i (h : i < values.length), w.cell? ⟨kb, koff + i, none⟩ = some (.int .u32 values[i])
theorem ValR.nil (w : World) (n : Nat) (T : Nat → Prop) : ValR w n T [] (.slice none 0 0) := ⟨none, 0, 0, 0, rfl, .inl rfl, .inl rfl, fun i h => by simp at h⟩
section
variable {w w' : World} {B : Nat} {u : UT} {vs : VS} {cs : CSg} {pl : List (ByteArray × Int)} {hd : HD} {xs : List Value} {X vb cb pb : Nat} {vg vh vf hv : Value}
theorem WoR.old (h : WoR w B u vs cs pl hd xs X vb cb pb vg vh vf hv) {b : Nat} (hb : b < B) : ¬ own52 xs b := by
 rintro ⟨x, hx, hq⟩
 obtain ⟨i, hi, rfl⟩ := List.getElem_of_mem hx
 have := own_from (h.held.rows i hi (by have := h.held.len; omega)) hq
 omega
/-- a world over what alters no more than T's blocks -/
theorem WoR.moveT (h : WoR w B u vs cs pl hd xs X vb cb pb vg vh vf hv) {T : Nat → Prop} (hk : Kpt T w.heap.size w w') (hT : ∀ b, b < B → ¬ T b) (hX : ¬ T X) (hH : ∀ b, hv.ownBlock = some b → ¬ T b) {held : List (List Int)} (hl : held.length = hd.length)
  (hw : ∀ i (h : i < xs.length) (h' : i < held.length), w'.ownsRow B 52 1 xs[i] held[i].length (held[i].map (Value.int .u32))) (hp : ∀ q ∈ held, 0 < q.length) : WoR w' B u vs cs pl (hdOf hd held) xs X vb cb pb vg vh vf hv := by
 have old : ∀ b, b < B → b < w.heap.size ∧ ¬ T b := fun b hb => ⟨by have := h.lB; omega, hT b hb⟩
 have hc : Cells (onlyW w (oldB B)) (onlyW w' (oldB B)) := hk.cells fun b hb => old b (by simpa using hb)
 have mv : ∀ {b l}, b < B → Mp (onlyW w (oldB B)) b l → Mp (onlyW w' (oldB B)) b l := fun {b l} hb hq => map_only (hk.map (map_whole hq (by simpa using hb)) (old b hb).1 (old b hb).2) (by simpa using hb)
 obtain ⟨c1, l, c2, c3⟩ := h.nm
 have e2 := hdOf_held hd held hl
 have hlen := h.held.len
 refine ⟨hk.box h.box h.lX hX, h.unit.sub hc, ⟨mv h.lv c1, l, mv h.lc c2, c3.sub hc⟩, ⟨by rw [hdOf_len hl]; exact hlen, ?_, fun i h1 h2 => ?_, fun i h2 => ?_, h.held.nd⟩, hk.map h.place (old _ h.lp).1 (old _ h.lp).2, Nat.lt_of_lt_of_le h.lX hk.size, h.lv, h.lc, h.lp, Nat.le_trans h.lB hk.size⟩
 ·rw [hdOf_len hl, hc2_of, hdOf_names hd held hl, ← hc2_of]
  exact hk.own h.held.row fun b hb => ⟨(h.held.row.lt b hb).2, hH b hb⟩
 ·have h3 : i < held.length := by rw [hdOf_len hl] at h2; omega
  have e3 : (hdOf hd held)[i].2 = held[i] := by
   have : ((hdOf hd held).map (·.2))[i]'(by simpa using h2) = held[i] := by simp only [e2]
   simpa using this
  rw [e3]
  exact hw i h1 h3
 ·have h3 : i < held.length := by rw [hdOf_len hl] at h2; omega
  have e3 : (hdOf hd held)[i].2 = held[i] := by
   have : ((hdOf hd held).map (·.2))[i]'(by simpa using h2) = held[i] := by simp only [e2]
   simpa using this
  rw [e3]
  exact hp _ (List.getElem_mem h3)
/-- the row of names is no row of words -/
theorem WoR.rowOut (h : WoR w B u vs cs pl hd xs X vb cb pb vg vh vf hv) {B2 : Nat} {hd2 : HD} {xs2 : List Value} {v2 : Value} (h2 : HeldR w B2 hd2 xs2 v2) {b : Nat} (hb : hv.ownBlock = some b) : ¬ own52 xs2 b := by
 rintro ⟨x, hx, hq⟩
 obtain ⟨i, hi, rfl⟩ := List.getElem_of_mem hx
 rcases row_ne h.held.row (h2.rows i hi (by have := h2.len; omega)) (by decide) with e | e
 ·rw [e] at hb; cases hb
 ·exact e (by rw [hb, hq])
/-- a world over what a call does -/
theorem WoR.move (h : WoR w B u vs cs pl hd xs X vb cb pb vg vh vf hv) (hk : Kpt (own52 xs) w.heap.size w w') {held : List (List Int)} (hl : held.length = hd.length)
  (hw : ∀ i (h : i < xs.length) (h' : i < held.length), w'.ownsRow B 52 1 xs[i] held[i].length (held[i].map (Value.int .u32))) (hp : ∀ q ∈ held, 0 < q.length) : WoR w' B u vs cs pl (hdOf hd held) xs X vb cb pb vg vh vf hv :=
 h.moveT hk (fun b hb => h.old hb) (fun ⟨x, hx, hq⟩ => (h.held.box h.box (by decide) (by decide)).2 x hx hq.symm) (fun b hb => h.rowOut h.held hb) hl hw hp
theorem held_at {i : Nat} {hd : HD} (h : i < (hd.map (·.2)).length) : (hd.map (·.2))[i] = (hd[i]'(by simpa using h)).2 := by simp
/-- a world over what alters none of it -/
theorem WoR.on (h : WoR w B u vs cs pl hd xs X vb cb pb vg vh vf hv) (hb : Below w.heap.size w w') : WoR w' B u vs cs pl hd xs X vb cb pb vg vh vf hv := by
 have h2 := h.move (w' := w') (held := hd.map (·.2)) (Kpt.of hb) (by simp) (fun i h1 h2 => by
  rw [held_at]
  exact ownsRow_at (h.held.rows i h1 (by simpa using h2)) hb) (fun q hq => by
  obtain ⟨a, ha, rfl⟩ := List.mem_map.1 hq
  obtain ⟨i, hi, rfl⟩ := List.getElem_of_mem ha
  exact h.held.pos i hi)
 rwa [hdOf_same] at h2
theorem WoR.far (h : WoR w B u vs cs pl hd xs X vb cb pb vg vh vf hv) {n : Nat} (hn : n ≤ B) (hk : Kpt (own52 xs) w.heap.size w w') : Below n w w' :=
 ⟨hk.os, hk.tape, hk.output, hk.size, fun b hb => hk.block b (by have := h.lB; omega) (h.old (by omega))⟩
end
end
section
open Go.Shelf
theorem row_shape {w : World} {base : Nat} {e : TypeId} {size k : Nat} {v : Value} {ys : List Value} (h : w.ownsRow base e size v k ys) (hk : 0 < k) : ∃ g cap, v = .slice (some ⟨g, 0, none⟩) k cap ∧ k ≤ cap ∧ cap ≤ maxLen := by
 rcases h.2 with ⟨_, q⟩ | ⟨g, cap, cur, rfl, _, _, h1, h2, _⟩
 ·omega
 ·exact ⟨g, cap, rfl, h1, h2⟩
/-- the row of a variable's words -/
def rowB (v : Value) : Nat := match v.ownBlock with | some b => b | none => 0
theorem zero3 (w : World) : (zeroValue 3).run Tryz.prog w = .ok (.int .i64 0) w := by kernel_rfl
set_option maxHeartbeats 4000000 in
theorem spot76_l (p : Pt) (n F : Nat) (fb : List BSc) (g cap : Nat) (ms : List Nat) (s : ByteArray) (x : (Int × Int) × Nat) (w : World) (hF : FrR w n F fb g cap ms) (hx : seesB s fb = some x) :
  Calls Tryz.prog 76 #[.pointer (some ⟨p.M, 0, none⟩), .pointer (some ⟨F, 0, none⟩), .string s] w fun e w' => e = .returned (.tuple #[.pointer (some ⟨x.2, 0, none⟩), .int .u8 x.1.1]) ∧ Below w.heap.size w w' := by
 have c1 := hid (find115 s n F fb g cap ms w hF)
 rw [hx] at c1
 obtain ⟨sc, h1, h2⟩ := seesB_mem hx
 have hb := hF.boxes sc h1 _ h2
 have b1 : w.drew.cell? ⟨x.2, 1, none⟩ = some (.int .u8 x.1.1) := by simpa using hb.cell 1
 clear hF hx h1 h2 hb
 obtain ⟨⟨t, v⟩, q⟩ := x
 simp only [Option.map_some, Option.getD_some] at c1 b1 ⊢
 go_enter Tryz.func76, Tryz.ntmps76
 go_wp2_with fail
 refine c1.out.mono ?_
 rintro e w2 ⟨rfl, hw⟩
 subst w2
 clear c1
 go_wp2_with fail
 go_region
 go_wp2_with fail
 go_ret2
 exact ⟨rfl, (Below.refl _ _).drew⟩
set_option maxHeartbeats 4000000 in
theorem spot76_g (p : Pt) (cf : Cf) (u : UT) (a n d : Nat) (m : MS) (ve : EvS) (F : Nat) (fb : List BSc) (g cap : Nat) (ms : List Nat) (s : ByteArray) (t ln : Int) (i : Nat) (w : World) (hS : MSt p cf u n w) (hM : MeR p a n d m ve w) (hF : FrR w n F fb g cap ms) (hx : seesB s fb = none)
  (hv : getM s cf.vs = some (t, ln)) (hp : getM s cf.pl = some (i : Int)) (hi : i < p.xs.length) (h0 : ∀ q ∈ m.held, 0 < q.length) :
  Calls Tryz.prog 76 #[.pointer (some ⟨p.M, 0, none⟩), .pointer (some ⟨F, 0, none⟩), .string s] w fun e w' => e = .returned (.tuple #[.pointer (some ⟨rowB p.xs[i], 0, none⟩), .int .u8 t]) ∧ Below w.heap.size w w' := by
 have c1 := hid (find115 s n F fb g cap ms w hF)
 rw [hx] at c1
 obtain ⟨en, va, fa, hb⟩ := hM.box
 have hi2 : i < m.held.length := by have := hM.len; omega
 have hw := hM.words i hi hi2
 obtain ⟨gx, cx, e1, k1, k2⟩ := row_shape hw (h0 _ (List.getElem_mem hi2))
 have hl0 := h0 _ (List.getElem_mem hi2)
 generalize m.held[i].length = lw at e1 k1 hl0
 obtain ⟨gh, ch, e2, k3, k4⟩ := row_shape hS.held (by omega)
 have hr : rowB p.xs[i] = gx := by rw [e1]; rfl
 rw [hr]
 have hh := hS.held
 rw [e2] at hh
 have b0 : w.drew.cell? ⟨p.M, 0, none⟩ = some (.pointer (some ⟨p.X, 0, none⟩)) := by simpa using hb.cell 0
 have x3 : w.drew.cell? ⟨p.X, 3, none⟩ = some (.map (some p.vb)) := by simpa using hS.X.cell 3
 have x5 : w.drew.cell? ⟨p.X, 5, none⟩ = some (.slice (some ⟨gh, 0, none⟩) p.xs.length ch) := by simpa [e2] using hS.X.cell 5
 have x6 : w.drew.cell? ⟨p.X, 6, none⟩ = some (.map (some p.pb)) := by simpa using hS.X.cell 6
 have r1 : w.drew.cell? ⟨gh, i * 2 + 1, none⟩ = some (.slice (some ⟨gx, 0, none⟩) lw cx) := by
  have := hh.cellAt (i * 2 + 1) (by omega)
  rw [hc2_at _ _ i hi hS.hlen, e1] at this
  exact this
 have l1 := (hS.place.mono (Below.refl _ _).drew).lookup under92 under9 s _ (zero3 w.drew) false
 rw [getM_map (Value.int .i64), hp] at l1
 have l2 := ((map_whole hS.nm.vars (by simpa using hS.lv)).mono (Below.refl _ _).drew).lookup under88 under9 s _ (zero155 w.drew) false
 rw [getM_map varv, hv] at l2
 simp only [Option.map_some, Option.getD_some, Bool.false_eq_true, if_false, varv] at l1 l2
 have hfd : (Instr.field 155 (.agg #[.int .u8 t, .int .u32 ln]) 0).run Tryz.prog w.drew = .ok (.int .u8 t) w.drew := by kernel_rfl
 clear hS hM hF hx hv hp h0 hw e1 e2 hb hh hr
 go_enter Tryz.func76, Tryz.ntmps76
 go_wp2_with fail
 refine c1.out.mono ?_
 rintro e w2 ⟨rfl, hw⟩
 subst w2
 clear c1
 go_wp2_with fail
 go_region
 go_wp2_with fail
 go_ret2
 exact ⟨rfl, (Below.refl _ _).drew⟩
end
section
open Go.Shelf
def elOut (lw : List Int) (gx : Nat) (i : Int) : Ending := if (lw.length : Int) ≤ i then endE 2 1 else .returned (.pointer (some ⟨gx, i.toNat, none⟩))
set_option maxHeartbeats 4000000 in
theorem element78 (p : Pt) (cf : Cf) (u : UT) (a n d : Nat) (m : MS) (ve : EvS) (s : ByteArray) (i : Nat) (j : Int) (w : World) (hS : MSt p cf u n w) (hM : MeR p a n d m ve w)
  (hp : getM s cf.pl = some (i : Int)) (hi : i < p.xs.length) (hi2 : i < m.held.length) (h0 : 0 < m.held[i].length) (hl : m.held[i].length ≤ 4096) (hj : 0 ≤ j ∧ j < 4294967296) :
  Calls Tryz.prog 78 #[.pointer (some ⟨p.M, 0, none⟩), .string s, .int .u32 j] w fun e w' => e = elOut m.held[i] (rowB p.xs[i]) j ∧ Below w.heap.size w w' := by
 obtain ⟨en, va, fa, hb⟩ := hM.box
 have hw := hM.words i hi hi2
 obtain ⟨gx, cx, e1, k1, k2⟩ := row_shape hw h0
 obtain ⟨gh, ch, e2, k3, k4⟩ := row_shape hS.held (by omega)
 have hr : rowB p.xs[i] = gx := by rw [e1]; rfl
 rw [hr]
 unfold elOut
 generalize m.held[i].length = lw at e1 k1 h0 hl ⊢
 have hh := hS.held
 rw [e2] at hh
 have b0 : w.drew.cell? ⟨p.M, 0, none⟩ = some (.pointer (some ⟨p.X, 0, none⟩)) := by simpa using hb.cell 0
 have x5 : w.drew.cell? ⟨p.X, 5, none⟩ = some (.slice (some ⟨gh, 0, none⟩) p.xs.length ch) := by simpa [e2] using hS.X.cell 5
 have x6 : w.drew.cell? ⟨p.X, 6, none⟩ = some (.map (some p.pb)) := by simpa using hS.X.cell 6
 have r1 : w.drew.cell? ⟨gh, i * 2 + 1, none⟩ = some (.slice (some ⟨gx, 0, none⟩) lw cx) := by
  have := hh.cellAt (i * 2 + 1) (by omega)
  rw [hc2_at _ _ i hi hS.hlen, e1] at this
  exact this
 have l1 := (hS.place.mono (Below.refl _ _).drew).lookup under92 under9 s _ (zero3 w.drew) false
 rw [getM_map (Value.int .i64), hp] at l1
 simp only [Option.map_some, Option.getD_some, Bool.false_eq_true, if_false] at l1
 obtain ⟨q, hq⟩ : ∃ q : Nat, j = q := ⟨j.toNat, by omega⟩
 subst hq
 obtain ⟨hj1, hj2⟩ := hj
 clear hS hM hp hw e1 e2 hb hh hr hi2
 by_cases hc : (lw : Int) ≤ (q : Int)
 ·rw [if_pos hc]
  go_enter Tryz.func78, Tryz.ntmps78
  go_wp2_with fail
  go_region
  go_wp2_with fail
  refine bp_panic ?_
  exact ⟨rfl, (Below.refl _ _).drew⟩
 ·rw [if_neg hc]
  have hc2 : q < lw := by omega
  have hcc : ¬ (lw : Int) ≤ (q : Int) := hc
  have hw1 : IntKind.u64.wrap (q : Int) = (q : Int) := by unfold IntKind.wrap; simp [IntKind.signed, IntKind.bits]; omega
  have hw2 : IntKind.u64.wrap (lw : Int) = (lw : Int) := by unfold IntKind.wrap; simp [IntKind.signed, IntKind.bits]; omega
  have ht : ((q : Int)).toNat = q := by simp
  rw [ht]
  clear ht hc
  go_enter Tryz.func78, Tryz.ntmps78
  go_wp2_with fail
  go_region
  clear k2 k4 k1 k3 hi x5 x6 b0 l1 r1
  clear hl hj1 hj2 h0
  go_wp2_with fail
  go_ret
  exact ⟨rfl, (Below.refl _ _).drew⟩
end
section
open Go.Shelf
abbrev tysF (fb : List BSc) : List Scope := fb.map fun sc => sc.map fun x => (x.1, x.2.1.1)
theorem seesS_tys (s : ByteArray) (fb : List BSc) : seesS s (tysF fb) = (seesB s fb).map (·.1.1) := by
 unfold seesS seesB
 suffices ∀ (fb : List BSc) (a : Option ((Int × Int) × Nat)), (tysF fb).foldl (fun a sc => match getM s sc with | some t => some t | none => a) (a.map (·.1.1)) = (fb.foldl (fun a sc => match getM s sc with | some t => some t | none => a) a).map (·.1.1) from this fb none
 intro fb
 induction fb with
 | nil => intro a; rfl
 | cons c r ih =>
  intro a
  simp only [tysF, List.map_cons, List.foldl_cons] at ih ⊢
  rw [← ih]
  congr 1
  have : getM s (c.map fun x => (x.1, x.2.1.1)) = (getM s c).map (·.1.1) := getM_map (fun x : (Int × Int) × Nat => x.1.1) s c
  rw [this]
  cases getM s c <;> rfl
/-- the kids of an expression that has a type have one -/
theorem tyE_get {vs : VS} {cs : CSg} {ss : List Scope} : ∀ {l : Exs} {ks : List Int}, tyE vs cs ss l = .ok ks → ks.length = l.toL.length ∧ ∀ (i : Nat) (a : EH × Exs), l.toL[i]? = some a → ∃ t, tyX vs cs ss a.1 a.2 = .ok t ∧ ks[i]? = some t
 | .nil, ks, h => by
  simp only [tyE] at h
  cases h
  exact ⟨rfl, fun i a ha => by simp [Exs.toL] at ha⟩
 | .cons hd k r, ks, h => by
  simp only [tyE] at h
  cases h1 : tyE vs cs ss k with
  | error e => rw [h1] at h; cases h
  | ok k1 =>
   rw [h1] at h
   simp only [] at h
   cases h2 : tyH vs cs ss hd k1 with
   | error e => rw [h2] at h; cases h
   | ok t =>
    rw [h2] at h
    simp only [] at h
    cases h3 : tyE vs cs ss r with
    | error e => rw [h3] at h; cases h
    | ok ts =>
     rw [h3] at h
     cases h
     obtain ⟨q1, q2⟩ := tyE_get h3
     refine ⟨by simp [Exs.toL, q1], fun i a ha => ?_⟩
     cases i with
     | zero =>
      simp only [Exs.toL, List.getElem?_cons_zero, Option.some.injEq] at ha
      subst ha
      exact ⟨t, by unfold tyX; rw [h1]; exact h2, rfl⟩
     | succ i =>
      simp only [Exs.toL, List.getElem?_cons_succ] at ha ⊢
      exact q2 i a ha
end
section
open Go.Shelf
/-- a call and a frame in memory -/
structure CtR (p : Pt) (cf : Cf) (u : UT) (n d : Nat) (m : MS) (ve : EvS) (F : Nat) (fb : List BSc) (g cap : Nat) (ms : List Nat) (w : World) : Prop where
 st : MSt p cf u n w
 me : MeR p cf.allowed n d m ve w
 fr : FrR w n F fb g cap ms
 pos : ∀ q ∈ m.held, 0 < q.length ∧ q.length ≤ 4096
theorem CtR.below {p : Pt} {cf : Cf} {u : UT} {n d : Nat} {m : MS} {ve : EvS} {F : Nat} {fb : List BSc} {g cap : Nat} {ms : List Nat} {w w' : World} (h : CtR p cf u n d m ve F fb g cap ms w) (hb : Below w.heap.size w w') : CtR p cf u n d m ve F fb g cap ms w' :=
 ⟨h.st.move h.me (Kpt.of hb) h.me.size, h.me.below hb, h.fr.below hb, h.pos⟩
/-- the place of a name that has a type -/
theorem CtR.spot {p : Pt} {cf : Cf} {u : UT} {n d : Nat} {m : MS} {ve : EvS} {F : Nat} {fb : List BSc} {g cap : Nat} {ms : List Nat} {w : World} (h : CtR p cf u n d m ve F fb g cap ms w) {s : ByteArray} {ty : Int} (ht : varT cf.vs (tysF fb) s = .ok ty) :
  ∃ b, (((∃ x, seesB s fb = some x ∧ b = x.2 ∧ ty = x.1.1)) ∨ (seesB s fb = none ∧ ∃ (i : Nat) (hi : i < p.xs.length), getM s cf.pl = some (i : Int) ∧ b = rowB p.xs[i] ∧ typeV cf s = ty)) ∧
   Calls Tryz.prog 76 #[.pointer (some ⟨p.M, 0, none⟩), .pointer (some ⟨F, 0, none⟩), .string s] w fun e w' => e = .returned (.tuple #[.pointer (some ⟨b, 0, none⟩), .int .u8 ty]) ∧ Below w.heap.size w w' := by
 unfold varT at ht
 rw [seesS_tys] at ht
 cases hs : seesB s fb with
 | some x =>
  rw [hs] at ht
  simp only [Option.map_some] at ht
  cases ht
  exact ⟨x.2, .inl ⟨x, rfl, rfl, rfl⟩, spot76_l p n F fb g cap ms s x w h.fr hs⟩
 | none =>
  rw [hs] at ht
  simp only [Option.map_none] at ht
  cases hv : getM s cf.vs with
  | none => rw [hv] at ht; cases ht
  | some y =>
   obtain ⟨t, ln⟩ := y
   rw [hv] at ht
   simp only [] at ht
   split at ht
   ·cases ht
    obtain ⟨i, h1, h2⟩ := h.st.pl s _ hv
    exact ⟨_, .inr ⟨rfl, i, h2, h1, rfl, by unfold typeV; rw [hv]; rfl⟩, spot76_g p cf u cf.allowed n d m ve F fb g cap ms s _ ln i w h.st h.me h.fr hs hv h1 h2 fun q hq => (h.pos q hq).1⟩
   ·cases ht
end
section
abbrev tySc (sc : LSc) : Scope := sc.map fun x => (x.1, x.2.1)
abbrev tyFr (fr : Fr) : List Scope := fr.map tySc
def Out.Ty {α : Type} (P : α → Prop) : Out α → Prop
 | .ok a _ => P a
 | .stop _ _ _ => True
 | .lost => True
theorem Out.ty_bind {α β : Type} {P : α → Prop} {Q : β → Prop} {o : Out α} {f : α → MS → Out β} (h : o.Ty P) (hf : ∀ a m, P a → (f a m).Ty Q) : (o.bind f).Ty Q := by
 cases o with
 | ok a m => exact hf a m h
 | stop k x m => trivial
 | lost => trivial
theorem Out.ty_any {α β : Type} {Q : β → Prop} {o : Out α} {f : α → MS → Out β} (hf : ∀ a m, (f a m).Ty Q) : (o.bind f).Ty Q :=
 Out.ty_bind (P := fun _ => True) (by cases o <;> trivial) fun a m _ => hf a m
theorem putM_ty {s : ByteArray} {t v v0 : Int} : ∀ {c : LSc}, getM s c = some (t, v0) → tySc (putM s (t, v) c) = tySc c
 | [], h => by cases h
 | x :: r, h => by
  rw [getM_cons] at h
  simp only [putM]
  by_cases hq : (s == x.1) = true
  ·rw [if_pos hq] at h ⊢
   have e : s = x.1 := (MapKept.bytes_beq s x.1).1 hq
   have e2 : x.2 = (t, v0) := by simpa using h
   simp only [tySc, List.map_cons, e, e2]
  ·rw [if_neg hq] at h ⊢
   have := putM_ty (t := t) (v := v) h
   simp only [tySc, List.map_cons] at this ⊢
   rw [this]
theorem setF_ty (s : ByteArray) (v : Int) : ∀ fr : Fr, tyFr (setF s v fr) = tyFr fr
 | [] => rfl
 | c :: r => by
  unfold setF
  split
  ·simp only [tyFr, List.map_cons]
   have := setF_ty s v r
   unfold tyFr at this
   rw [this]
  ·split
   ·rename_i t x hq
    simp only [tyFr, List.map_cons]
    rw [putM_ty hq]
   ·rfl
def giveT (s : ByteArray) (t : Int) (ss : List Scope) : List Scope := ss.dropLast ++ [putM s t (ss.getLastD [])]
theorem giveF_ty (s : ByteArray) (x : Int × Int) (fr : Fr) : tyFr (giveF s x fr) = giveT s x.1 (tyFr fr) := by
 unfold giveF giveT
 simp only [tyFr, List.map_append, List.map_dropLast, List.map_cons, List.map_nil]
 congr 2
 have : (List.map tySc fr).getLastD [] = tySc (fr.getLastD []) := by
  simp only [List.getLastD_eq_getLast?, List.getLast?_map]
  cases fr.getLast? <;> rfl
 rw [this]
 exact (putM_map (fun y : Int × Int => y.1) s x _).symm
theorem giveT_last (s : ByteArray) (t : Int) (ss : List Scope) (c : Scope) : giveT s t (ss ++ [c]) = ss ++ [putM s t c] := by
 unfold giveT
 simp
structure Evl.Ty (ev : Evl) : Prop where
 L : ∀ d fr l m, (ev.L d fr l m).Ty fun q => tyFr q.2.2 = tyFr fr
 W : ∀ d fr h k b m, (ev.W d fr h k b m).Ty fun q => tyFr q.2.2 = tyFr fr
def stT (h : SH) (ss : List Scope) : List Scope := if h.kind = 1 then giveT h.name h.type ss else ss
theorem stT_1 {h : SH} {ss : List Scope} (hk : h.kind = 1) : stT h ss = giveT h.name h.type ss := by unfold stT; rw [if_pos hk]
theorem stT_n {h : SH} {ss : List Scope} (hk : h.kind ≠ 1) : stT h ss = ss := by unfold stT; rw [if_neg hk]
theorem stT_drop (h : SH) (ss : List Scope) : (stT h ss).dropLast = ss.dropLast := by
 unfold stT
 split
 ·unfold giveT; simp
 ·rfl
section
variable {cf : Cf} {ev : Evl} (hg : ev.Ty)
theorem setV_ty (d : Nat) (fr : Fr) (h : SH) (x : Exs) (m : MS) : (setV cf ev d fr h x m).Ty fun fr' => tyFr fr' = tyFr fr := by
 have hw : ∀ m v, tyFr (writeV cf fr m h.name v).1 = tyFr fr := fun m v => by
  unfold writeV
  split
  ·exact setF_ty _ _ _
  ·rfl
 unfold setV
 refine Out.ty_any fun v m2 => ?_
 split
 ·exact hw _ _
 ·split
  ·exact hw _ _
  ·trivial
include hg
theorem stmtV_ty (d : Nat) (fr : Fr) (h : SH) (x : Exs) (b e : Sts) (m : MS) : (stmtV cf ev d fr h x b e m).Ty fun q => tyFr q.2.2 = stT h (tyFr fr) := by
 unfold stmtV
 refine Out.ty_any fun _ m1 => ?_
 split
 ·rename_i hk
  refine Out.ty_any fun v m2 => ?_
  show tyFr (giveF _ _ _) = _
  rw [giveF_ty, stT_1 hk]
 rename_i h1
 have HN := hid (show stT h (tyFr fr) = tyFr fr from stT_n h1)
 clear h1
 rw [HN.out]
 split
 ·exact Out.ty_bind (setV_ty d fr h x _) fun fr' m2 h => h
 split
 ·exact Out.ty_any fun _ m2 => rfl
 split
 ·refine Out.ty_any fun v m2 => ?_
  split
  ·exact hg.L _ _ _ _
  ·exact hg.L _ _ _ _
 split
 ·split
  ·exact hg.W _ _ _ _ _ _
  ·trivial
 split
 ·rfl
 split
 ·rfl
 split
 ·exact Out.ty_any fun v m2 => rfl
 split
 ·exact Out.ty_any fun v m2 => rfl
 ·rfl
theorem stmtsV_ty (d : Nat) : ∀ (l : Sts) (fr : Fr) (m : MS), (stmtsV cf ev d l fr m).Ty fun q => (tyFr q.2.2).dropLast = (tyFr fr).dropLast
 | .nil, fr, m => rfl
 | .cons h x b e r, fr, m => by
  unfold stmtsV
  refine Out.ty_bind (stmtV_ty hg d fr h x b e m) fun q m1 hq => ?_
  split
  ·have := stmtsV_ty d r q.2.2 m1
   rw [hq, stT_drop] at this
   exact this
  ·show (tyFr q.2.2).dropLast = _
   rw [hq, stT_drop]
theorem listV_ty (d : Nat) (fr : Fr) (l : Sts) (m : MS) : (listV cf ev d fr l m).Ty fun q => tyFr q.2.2 = tyFr fr := by
 unfold listV
 refine Out.ty_bind (stmtsV_ty hg d l _ m) fun q m1 hq => ?_
 show tyFr q.2.2.dropLast = tyFr fr
 simp only [tyFr, List.map_dropLast, List.map_append, List.map_cons, List.map_nil] at hq ⊢
 rw [hq]
 simp
theorem whileV_ty (d : Nat) (fr : Fr) (h : EH) (k : Exs) (b : Sts) (m : MS) : (whileV cf ev d fr h k b m).Ty fun q => tyFr q.2.2 = tyFr fr := by
 unfold whileV
 refine Out.ty_any fun c m1 => ?_
 split
 ·rfl
 ·refine Out.ty_bind (hg.L _ _ _ _) fun q m2 hq => ?_
  split
  ·exact hq
  split
  ·exact hq
  ·refine Out.ty_any fun _ m3 => ?_
   have := hg.W d q.2.2 h k b m3
   rw [hq] at this
   exact this
end
theorem evl_ty (cf : Cf) : ∀ n, (evl cf n).Ty
 | 0 => ⟨fun _ _ _ _ => trivial, fun _ _ _ _ _ _ => trivial⟩
 | n + 1 => ⟨fun d fr l m => listV_ty (evl_ty cf n) d fr l m, fun d fr h k b m => whileV_ty (evl_ty cf n) d fr h k b m⟩
theorem evArgs_len (ev : Evl) (d : Nat) (fr : Fr) : ∀ (l : Exs) (m : MS), (evArgs ev d fr l m).Ty fun a => a.length = l.len
 | .nil, m => rfl
 | .cons h k r, m => Out.ty_any fun v m1 => Out.ty_bind (evArgs_len ev d fr r m1) fun a m2 ha => by
   show (v :: a).length = _
   simp [Exs.len, ha]
theorem typF_ty (cf : Cf) (fr : Fr) (h : EH) (k : Exs) {t : Int} (ht : tyX cf.vs cf.cs (tyFr fr) h k = .ok t) : typF cf fr h k = t := by
 unfold typF
 rw [show (fr.map fun sc => sc.map fun x => (x.1, x.2.1)) = tyFr fr from rfl, ht]
end
end Go.Proofs.YtlabadkfkbenoaaGreatDoor
